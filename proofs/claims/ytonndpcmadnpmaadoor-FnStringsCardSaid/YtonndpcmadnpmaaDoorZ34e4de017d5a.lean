/- Lemmas and walks that the claim rests on, laid together. Conditions: none. -/
import Derived.ProofKit
import Derived.WalkKit
import Derived.Deep.Slices
import Derived.Deep.Fields
import Derived.Lib.SmallJoins
import Derived.StillTailTactics
import Derived.Deep.QuietTactic
import Derived.BigQuiet
import Derived.Test.YtonndpcmadnpmaaDoorRows
import Derived.Below
import Derived.Deep.Upon
import Derived.Deep.AppendLies
/- Common words of these proofs: how a slice shows a list, how a law that returns true and leaves old memory alone meets its row. No program in sight. Conditions: none. -/
namespace Go.Proofs.YtonndpcmadnpmaaDoor
open Go.ChangeShapes Go.WideShapes Go.ChangeAt Go.RowKit Go.Deep

/-- A fact kept from the walk. -/
theorem hid {p : Prop} (h : p) : Hid p := h

theorem ret_bool {a b : Bool} (h : a = b) : Ending.returned (.bool a) = .returned (.bool b) := by rw [h]

/-- Strings compared, as the walk writes it. -/
theorem str_ne {a b : ByteArray} (h : a ≠ b) : (a.toList == b.toList) = false := by
  rw [ByteArray.toList_eq, ByteArray.toList_eq, beq_eq_false_iff_ne]
  exact fun e => h (bytes_inj e)

/-! ### Old memory stands -/
theorem bl_alloc {w w1 : World} (h : Below w.heap.size w w1) (o : Obj) : Below w.heap.size w (w1.alloc o) := h.alloc h.size o
theorem bl_drewN {B : Nat} {w w1 : World} (h : Below B w w1) (n : Nat) : Below B w (w1.drewN n) := ⟨h.os, h.tape, h.output, h.size, h.block⟩
theorem bl_then {w w1 w2 : World} (h : Below w.heap.size w w1) (k : Below w1.heap.size w1 w2) : Below w.heap.size w w2 := h.trans (k.mono h.size)
theorem bl_set {w w1 : World} (h : Below w.heap.size w w1) {p : Addr} (u : Value) (hp : w.heap.size ≤ p.block) : Below w.heap.size w (w1.setCell p u) := h.setCell hp u
theorem bl_cell {w w1 : World} (h : Below w.heap.size w w1) {b o : Nat} {v : Value} (hc : w.cell? ⟨b, o, none⟩ = some v) : w1.cell? ⟨b, o, none⟩ = some v :=
  (h.cell (World.block_lt_of_cell? w _ hc)).trans hc
/-- A region whose head reads and calls without a trace and whose tail is forced. -/
theorem region_tail {P : Program} {id : Nat} {Q : Exit → Act → World → Prop} {a : Act} {w : World} {l : List Oper} (n : Nat) (hm : P.follows .mixedOrders = true) (hB : Region.lexTailB .any l.toArray n = true)
    (h : wpStill P l.toArray w.drew (fun a' => wpList P l.toArray Q (l.drop n) a' w.drew) (l.take n) a) : (Code.region id l.toArray true).wp P Q a w :=
  wp_region_still_tail n hm hB h
/-! ### A region that draws its order, whose operations read old memory alone and whose callees leave old memory alone -/
/-- The worlds in which what was there at w is as it was. -/
def Cls (w w' : World) : Prop := Below w.heap.size w w'
theorem Cls.refl (w : World) : Cls w w := Below.refl _ _
theorem Cls.cell {w w1 : World} (h : Cls w w1) {b o : Nat} {v : Value} (hc : w.cell? ⟨b, o, none⟩ = some v) : w1.cell? ⟨b, o, none⟩ = some v := bl_cell h hc
/-- The whole region by one walk of the text's order. -/
theorem region_cls {P : Program} {id : Nat} {Q : Exit → Act → World → Prop} {a : Act} {w : World} {l : List Oper} (hm : P.follows .mixedOrders = true) (hB : Region.lexB .any l.toArray = true)
    (h : wpQuiet P l.toArray (Cls w) (fun a' => ∀ w', Cls w w' → Q .normal a' w') l a) : (Code.region id l.toArray true).wp P Q a w :=
  wp_region_quiet (C := Cls w) hm hB (show Cls w w.drew from (Below.refl _ _).drew) (by simpa using h)
/-- One operation of it: wanted, or passed over. -/
theorem quiet_pos {P : Program} {ops : Array Oper} {C : World → Prop} {Q : Act → Prop} {o : Oper} {rest : List Oper} {a : Act} (hg : Region.wanted o (yielded ops a.tmps) = true)
    (h : ∀ K : Act → Prop, (∀ a, wpQuiet P ops C Q rest a → K a) → ∃ v, (∀ w, C w → o.quietAt P a C w v) ∧ K (a.put o.dst v)) : wpQuiet P ops C Q (o :: rest) a :=
  wpQuiet_step fun K hK => by rw [if_pos hg]; exact h K hK
theorem quiet_neg {P : Program} {ops : Array Oper} {C : World → Prop} {Q : Act → Prop} {o : Oper} {rest : List Oper} {a : Act} (hg : Region.wanted o (yielded ops a.tmps) = false)
    (h : ∀ K : Act → Prop, (∀ a, wpQuiet P ops C Q rest a → K a) → K (a.put o.dst undef)) : wpQuiet P ops C Q (o :: rest) a :=
  wpQuiet_step fun K hK => by rw [if_neg (by rw [hg]; decide)]; exact h K hK
theorem Cls.sees {w w1 : World} (h : Cls w w1) (p : World → Prop) (hp : ∀ w', Below w.heap.size w w' → p w') : p w1 := hp _ h
theorem Cls.call {P : Program} {f : FuncId} {args : Array Value} {w w1 : World} {v : Value} (h : Cls w w1)
    (c : Calls P f args w1 fun e w2 => e = .returned v ∧ Below w1.heap.size w1 w2) : Calls P f args w1 fun e w2 => e = .returned v ∧ Cls w w2 :=
  c.mono fun _ _ hh => ⟨hh.1, bl_then h hh.2⟩
theorem Cls.drew (w : World) : Cls w w.drew := (Below.refl _ _).drew
theorem Cls.next {w w1 w2 : World} (k : Below w1.heap.size w1 w2) (h : Cls w w1) : Cls w w2 := bl_then h k
theorem Cls.same {P : Program} {f : FuncId} {args : Array Value} {w w1 : World} {v : Value} (h : Cls w w1)
    (c : Calls P f args w1 fun e w2 => e = .returned v ∧ w1 = w2) : Calls P f args w1 fun e w2 => e = .returned v ∧ Cls w w2 :=
  c.mono fun _ _ hh => ⟨hh.1, hh.2 ▸ h⟩
theorem Cls.drewN {P : Program} {f : FuncId} {args : Array Value} {w w1 : World} {v : Value} (h : Cls w w1)
    (c : Calls P f args w1 fun e w2 => e = .returned v ∧ ∃ n, w2 = w1.drewN n) : Calls P f args w1 fun e w2 => e = .returned v ∧ Cls w w2 :=
  c.mono fun _ _ hh => ⟨hh.1, by obtain ⟨n, rfl⟩ := hh.2; exact bl_drewN h n⟩

/-! ### From a walk to the row -/
section
variable {H : Type} {enc : TypeId × Value → H} {P : Program}

theorem trodAll_below (hl : laidOutB P = true) {W W' : World} (hb : Below W.heap.size W W') :
    ∀ {ts : List TypeId} {vs : List Value} {ds : List (DataW H)} {ps : List MemPlace}, ts.all (fun t => P.readableRec t && decide (t < P.types.size)) = true →
      DataW.TrodAll enc P W 0 (fun _ => true) true ts vs ds ps → (∀ x ∈ ps, x.block < W.heap.size) → DataW.TrodAll enc P W' 0 (fun b => decide (b < W.heap.size)) true ts vs ds ps := by
  intro ts
  induction ts with
  | nil =>
    intro vs ds ps _ h _
    cases vs <;> cases ds <;> simp_all [DataW.TrodAll]
  | cons t ts ih =>
    intro vs ds ps hr h hlt
    match vs, ds, h with
    | v :: vs, d :: ds, h =>
      obtain ⟨p, q, h1, h2, rfl⟩ := h
      simp only [List.all_cons, Bool.and_eq_true, decide_eq_true_eq] at hr
      exact ⟨p, q, Below.trod hl hr.1.1 hr.1.2 h1 hb (fun x hx => hlt x (by simp [hx])), ih (by simpa using hr.2) h2 (fun x hx => hlt x (by simp [hx])), rfl⟩

theorem trodAll_len {W : World} : ∀ {ts : List TypeId} {vs : List Value} {ds : List (DataW H)} {ps : List MemPlace} {b : Nat} {sp : Nat → Bool} {hd : Bool},
    DataW.TrodAll enc P W b sp hd ts vs ds ps → ds.length = ts.length := by
  intro ts
  induction ts with
  | nil => intro vs ds ps _ _ _ h; cases vs <;> cases ds <;> simp_all [DataW.TrodAll]
  | cons t ts ih =>
    intro vs ds ps _ _ _ h
    match vs, ds, h with
    | v :: vs, d :: ds, h => obtain ⟨p, q, _, h2, _⟩ := h; simp [ih h2]

/-- What a law's row asks: the call returns true and below the heap's old size nothing has turned. -/
theorem law_contract {F : FuncId} {f : Func} {s : ChangeSpec} {tb : TypeId} (hl : laidOutB P = true) (hread : f.params.toList.all (fun t => P.readableRec t && decide (t < P.types.size)) = true)
    (hres : f.resultTypes = #[tb]) (hb : P.underlying tb = some .bool) (hv : s.vars = [])
    (hs : ∀ ds : List (DataW H), ds.length = f.params.toList.length → (s.fn H ds).results = [.lit (.bool true)] ∧ (s.fn H ds).args = ds ∧ (s.fn H ds).vars = [])
    (W : World) (args : Array Value) (ds gs : List (DataW H)) (before : List MemPlace)
    (hW : DataW.Whole enc P f.params.toList s.vars false W args.toList ds gs before)
    (walk : ∀ p, DataW.TrodAll enc P W 0 (fun _ => true) true f.params.toList args.toList ds p → Calls P F args W fun e W' => e = .returned (.bool true) ∧ Below W.heap.size W W') :
    Calls P F args W fun e W' => ∃ v, e = .returned v ∧ s.post enc P f false true false false W args v W' := by
  have hW' := hW
  obtain ⟨p, q, hA, hV, hpq, hfz, hnd⟩ := hW
  refine (walk p hA).mono fun e W' ⟨he, hbel⟩ => ⟨_, he, ?_⟩
  rw [hv] at hV
  obtain ⟨rfl, rfl⟩ : gs = [] ∧ q = [] := by cases gs <;> simp_all [DataW.TrodVars]
  have hlt := hW'.lt
  rw [hpq] at hlt
  obtain ⟨h1, h2, h3⟩ := hs ds (trodAll_len hA)
  refine ⟨ds, [], before, [], p, [], hW', ?_, ?_, ?_, hbel.frame _, fun h => by cases h⟩
  · rw [List.append_nil, h1, hres]
    exact trodAll_mk1 (shut_bool hb true)
  · rw [List.append_nil, h2]
    exact trodAll_below hl hbel hread hA (fun x hx => hlt x (by simp [hx]))
  · rw [List.append_nil, h3, hv]
    rfl
end

/-! ### Slices that show a list -/
/-- An element's type: its cells. -/
structure El (α : Type) where
  sz : Nat
  cells : α → List Value
  len : ∀ x, (cells x).length = sz
  pos : 0 < sz
  one : ∀ x, ∀ u ∈ cells x, u.oneCell' = true

def elInt : El Int := ⟨1, fun n => [.int .i64 n], fun _ => rfl, by decide, fun _ u h => by simp at h; subst h; rfl⟩
def elStr : El ByteArray := ⟨1, fun s => [.string s], fun _ => rfl, by decide, fun _ u h => by simp at h; subst h; rfl⟩
def elByte : El UInt8 := ⟨1, fun c => [.int .u8 c.toNat], fun _ => rfl, by decide, fun _ u h => by simp at h; subst h; rfl⟩

/-- The slice at A of length n shows the list xs, all of it below block B. -/
def Sees {α : Type} (E : El α) (w : World) (B : Nat) (A : Option Addr) (n : Nat) (xs : List α) : Prop :=
  xs.length = n ∧ (n = 0 ∨ ∃ b o, A = some ⟨b, o, none⟩ ∧ b < B ∧ ∀ k x, xs[k]? = some x → ∀ j u, (E.cells x)[j]? = some u → w.cell? ⟨b, o + k * E.sz + j, none⟩ = some u)

section
variable {α : Type} {E : El α} {w w' : World} {B B' : Nat} {A : Option Addr} {n : Nat} {xs : List α}
theorem Sees.len (h : Sees E w B A n xs) : xs.length = n := h.1
theorem Sees.nil (E : El α) (w : World) (B : Nat) (A : Option Addr) : Sees E w B A 0 [] := ⟨rfl, .inl rfl⟩
theorem Sees.keep (h : Sees E w B A n xs) (hk : ∀ p : Addr, p.block < B → w'.cell? p = w.cell? p) : Sees E w' B A n xs := by
  refine ⟨h.1, ?_⟩
  rcases h.2 with h0 | ⟨b, o, rfl, hb, hc⟩
  · exact .inl h0
  · exact .inr ⟨b, o, rfl, hb, fun k x hx j u hu => (hk _ hb).trans (hc k x hx j u hu)⟩
theorem Sees.more (h : Sees E w B A n xs) (hB : B ≤ B') : Sees E w B' A n xs := by
  refine ⟨h.1, ?_⟩
  rcases h.2 with h0 | ⟨b, o, rfl, hb, hc⟩
  · exact .inl h0
  · exact .inr ⟨b, o, rfl, by omega, hc⟩
theorem Sees.below (h : Sees E w B A n xs) (hb : Below B w w') : Sees E w' B A n xs := h.keep fun _ hp => hb.cell hp
theorem Sees.drewN (h : Sees E w B A n xs) (q : Nat) : Sees E (w.drewN q) B A n xs := h.keep fun _ _ => rfl
theorem Sees.grow (h : Sees E w B A n xs) (hb : Below w.heap.size w w') : Sees E w' B A n xs := by
  refine ⟨h.1, ?_⟩
  rcases h.2 with h0 | ⟨b, o, rfl, hB, hc⟩
  · exact .inl h0
  · exact .inr ⟨b, o, rfl, hB, fun k x hx j u hu => bl_cell hb (hc k x hx j u hu)⟩
/-- The address, asked for where there is an element. -/
theorem Sees.at_ {k : Nat} (h : Sees E w B A n xs) (hk : k < n) : ∃ b o, A = some ⟨b, o, none⟩ ∧ b < B ∧ ∀ k x, xs[k]? = some x → ∀ j u, (E.cells x)[j]? = some u → w.cell? ⟨b, o + k * E.sz + j, none⟩ = some u := by
  rcases h.2 with h0 | h0
  · omega
  · exact h0
theorem Sees.cell {b o : Nat} (h : Sees E w B (some ⟨b, o, none⟩) n xs) {k : Nat} {x : α} (hx : xs[k]? = some x) {j : Nat} {u : Value} (hu : (E.cells x)[j]? = some u) : w.cell? ⟨b, o + k * E.sz + j, none⟩ = some u := by
  rcases h.2 with h0 | ⟨b', o', e, _, hc⟩
  · have := h.1; rw [h0] at this; rw [List.eq_nil_of_length_eq_zero this] at hx; simp at hx
  · injection e with e; injection e with e1 e2; subst e1 e2; exact hc k x hx j u hu
theorem Sees.blt {b o : Nat} (h : Sees E w B (some ⟨b, o, none⟩) n xs) (hn : 0 < n) : b < B := by
  rcases h.2 with h0 | ⟨b', o', e, hb, _⟩
  · omega
  · injection e with e; injection e with e1 e2; subst e1; exact hb
/-- A front part. -/
theorem Sees.take (h : Sees E w B A n xs) {k : Nat} (hk : k ≤ n) : Sees E w B A k (xs.take k) := by
  refine ⟨by rw [List.length_take, h.1]; omega, ?_⟩
  rcases h.2 with h0 | ⟨b, o, rfl, hb, hc⟩
  · exact .inl (by omega)
  · refine .inr ⟨b, o, rfl, hb, fun j x hx => hc j x ?_⟩
    rw [List.getElem?_take] at hx
    split at hx
    · exact hx
    · cases hx
end
/-- A row of the call's own shows what it holds. -/
theorem flat_get {α : Type} (E : El α) (xs : List α) (k : Nat) (x : α) (hx : xs[k]? = some x) (j : Nat) (u : Value) (hu : (E.cells x)[j]? = some u) : (xs.flatMap E.cells)[k * E.sz + j]? = some u := by
  induction xs generalizing k with
  | nil => simp at hx
  | cons y ys ih =>
    rw [List.flatMap_cons]
    cases k with
    | zero =>
      simp at hx; subst hx
      have hj : j < (E.cells y).length := (List.getElem?_eq_some_iff.1 hu).1
      rw [Nat.zero_mul, Nat.zero_add, List.getElem?_append_left hj]; exact hu
    | succ k =>
      simp at hx
      rw [List.getElem?_append_right (by rw [E.len, Nat.add_mul]; omega), E.len, show (k + 1) * E.sz + j - E.sz = k * E.sz + j by rw [Nat.add_mul]; omega]
      exact ih k hx
theorem flat_len {α : Type} (E : El α) (xs : List α) : (xs.flatMap E.cells).length = xs.length * E.sz := by
  induction xs with
  | nil => simp
  | cons y ys ih => rw [List.flatMap_cons, List.length_append, E.len, ih, List.length_cons, Nat.add_mul]; omega

/-- The row v of element type e, from block base on, is the call's own and holds xs. -/
def Owns {α : Type} (E : El α) (w : World) (base : Nat) (e : TypeId) (v : Value) (xs : List α) : Prop := w.ownsRow base e E.sz v xs.length (xs.flatMap E.cells)
theorem Owns.form {α : Type} {E : El α} {w : World} {base : Nat} {e : TypeId} {v : Value} {xs : List α} (h : Owns E w base e v xs) :
    ∃ A c, v = .slice A xs.length c ∧ xs.length ≤ c ∧ c ≤ maxLen ∧ Sees E w w.heap.size A xs.length xs := by
  rcases h.2 with ⟨rfl, hn⟩ | ⟨g, cap, cur, rfl, hb, hg, hnc, hcm, hcs, ht⟩
  · have : xs = [] := List.eq_nil_of_length_eq_zero hn
    subst this
    exact ⟨none, 0, rfl, by simp, by simp, Sees.nil _ _ _ _⟩
  · refine ⟨_, cap, rfl, hnc, hcm, rfl, ?_⟩
    refine .inr ⟨g, 0, rfl, (Array.getElem?_eq_some_iff.1 hg).1, fun k x hx j u hu => ?_⟩
    have := World.ownsRow.cells h (g := g) rfl _ u (flat_get E xs k x hx j u hu)
    unfold Addr.add at this
    split at this
    · rename_i h0; rw [Nat.zero_add, h0]; exact this
    · simpa using this
theorem Owns.below {α : Type} {E : El α} {w w' : World} {base : Nat} {e : TypeId} {v : Value} {xs : List α} (h : Owns E w base e v xs) (hb : Below w.heap.size w w') : Owns E w' base e v xs := by
  refine ⟨h.1, ?_⟩
  rcases h.2 with hn | ⟨g, cap, cur, hv, hg, hh, r⟩
  · exact .inl hn
  · exact .inr ⟨g, cap, cur, hv, hg, (hb.block g (Array.getElem?_eq_some_iff.1 hh).1).trans hh, r⟩
theorem Owns.base {α : Type} {E : El α} {w : World} {base base' : Nat} {e : TypeId} {v : Value} {xs : List α} (h : Owns E w base e v xs) (hb : base' ≤ base) : Owns E w base' e v xs := by
  refine ⟨h.1, ?_⟩
  rcases h.2 with hn | ⟨g, cap, cur, hv, hg, r⟩
  · exact .inl hn
  · exact .inr ⟨g, cap, cur, hv, by omega, r⟩
/-- A store into a block that is not the row's. -/
theorem Owns.far {α : Type} {E : El α} {w : World} {base : Nat} {e : TypeId} {v : Value} {xs : List α} (h : Owns E w base e v xs) {p : Addr} (hp : p.block < base) (u : Value) : Owns E (w.setCell p u) base e v xs :=
  ownsRow_setCell_below h hp u
/-- A block that is known whole. -/
def Blk (w : World) (g : Nat) (e : TypeId) (cur : Array Value) : Prop := w.heap[g]? = some (.cells cur e (0, 0))
section
variable {w w' : World} {g : Nat} {e : TypeId} {cur : Array Value}
theorem Blk.new (w : World) (e : TypeId) (cur : Array Value) : Blk (w.alloc (.cells cur e)) w.heap.size e cur := heap_alloc_new w _
theorem Blk.lt (h : Blk w g e cur) : g < w.heap.size := (Array.getElem?_eq_some_iff.1 h).1
theorem Blk.cell (h : Blk w g e cur) (i : Nat) : w.cell? ⟨g, i, none⟩ = cur[i]? := cell_of_row w g i cur e (0, 0) h
theorem Blk.cell_ (h : Blk w g e cur) {i : Nat} (hi : i < cur.size) : ∃ u, w.cell? ⟨g, i, none⟩ = some u := ⟨cur[i], by rw [h.cell, Array.getElem?_eq_getElem hi]⟩
theorem Blk.frozen (h : Blk w g e cur) (i : Nat) : w.frozen? ⟨g, i, none⟩ = false := by unfold Blk at h; simp [World.frozen?, h]
theorem Blk.set (h : Blk w g e cur) (i : Nat) (u : Value) : Blk (w.setCell ⟨g, i, none⟩ u) g e (cur.setIfInBounds i u) := by unfold Blk at h ⊢; simp [World.setCell, Array.getElem?_modify, h]
theorem Blk.below {B : Nat} (h : Blk w g e cur) (hb : Below B w w') (hg : g < B) : Blk w' g e cur := (hb.block g hg).trans h
theorem Blk.alloc (h : Blk w g e cur) (o : Obj) : Blk (w.alloc o) g e cur := (Below.heap_alloc w o g h.lt).trans h
end
theorem bl_at {B g : Nat} {w w' : World} (hb : Below B w w') (hg : g < B) {e : TypeId} {cur : Array Value} (h : Blk w g e cur) : Blk w' g e cur := h.below hb hg
theorem size_set (w : World) (p : Addr) (u : Value) : (w.setCell p u).heap.size = w.heap.size := by simp [World.setCell]
theorem Blk.far {w : World} {g : Nat} {e : TypeId} {cur : Array Value} (h : Blk w g e cur) {p : Addr} (hp : g ≠ p.block) (u : Value) : Blk (w.setCell p u) g e cur := (Below.heap_setCell w p u g hp).trans h
/-- The first k elements stand in the row. -/
def Filled {α : Type} (E : El α) (cur : Array Value) (xs : List α) (k : Nat) : Prop := ∀ j x, j < k → xs[j]? = some x → ∀ i u, (E.cells x)[i]? = some u → cur[j * E.sz + i]? = some u
theorem Filled.zero {α : Type} (E : El α) (cur : Array Value) (xs : List α) : Filled E cur xs 0 := fun j _ hj => by omega
theorem Filled.step {α : Type} {E : El α} {cur cur' : Array Value} {xs : List α} {k : Nat} {x : α} (h : Filled E cur xs k) (hx : xs[k]? = some x) (hold : ∀ i, i < k * E.sz → cur'[i]? = cur[i]?)
    (hnew : ∀ i u, (E.cells x)[i]? = some u → cur'[k * E.sz + i]? = some u) : Filled E cur' xs (k + 1) := by
  intro j y hj hy i u hu
  rcases Nat.lt_succ_iff_lt_or_eq.1 hj with hlt | rfl
  · have hi : i < E.sz := by rw [← E.len y]; exact (List.getElem?_eq_some_iff.1 hu).1
    rw [hold]
    · exact h j y hlt hy i u hu
    · have : (j + 1) * E.sz ≤ k * E.sz := Nat.mul_le_mul_right _ hlt
      rw [Nat.add_mul] at this; omega
  · rw [hx] at hy; injection hy with hy; subst hy; exact hnew i u hu
theorem flat_ext {α : Type} (E : El α) : ∀ (xs : List α) (l : List Value), l.length = xs.length * E.sz → (∀ j x, xs[j]? = some x → ∀ i u, (E.cells x)[i]? = some u → l[j * E.sz + i]? = some u) → l = xs.flatMap E.cells := by
  intro xs
  induction xs with
  | nil => intro l hl _; simp at hl; simp [hl]
  | cons y ys ih =>
    intro l hl h
    rw [List.length_cons, Nat.add_mul, Nat.one_mul] at hl
    rw [List.flatMap_cons, ← List.take_append_drop E.sz l]
    congr 1
    · apply List.ext_getElem?
      intro i
      by_cases hi : i < E.sz
      · rw [List.getElem?_take, if_pos hi]
        have hy : i < (E.cells y).length := by rw [E.len]; exact hi
        have := h 0 y rfl i _ (List.getElem?_eq_getElem hy)
        rw [Nat.zero_mul, Nat.zero_add] at this
        rw [this, List.getElem?_eq_getElem hy]
      · rw [List.getElem?_take, if_neg hi, List.getElem?_eq_none (by rw [E.len]; omega)]
    · refine ih _ (by rw [List.length_drop]; omega) (fun j x hx i u hu => ?_)
      rw [List.getElem?_drop, show E.sz + (j * E.sz + i) = (j + 1) * E.sz + i by rw [Nat.add_mul]; omega]
      exact h (j + 1) x (by simpa using hx) i u hu
/-- A row that is filled is the call's own. -/
theorem Owns.of_filled {α : Type} {E : El α} {w : World} {base g n : Nat} {e : TypeId} {cur : Array Value} {xs : List α} (h : Blk w g e cur) (hb : base ≤ g) (hl : xs.length = n) (hs : cur.size = n * E.sz) (hn : n ≤ maxLen)
    (hf : Filled E cur xs n) : Owns E w base e (.slice (some ⟨g, 0, none⟩) n n) xs := by
  refine ⟨flat_len E xs, .inr ⟨g, n, cur, by rw [hl], hb, h, by omega, hn, hs, ?_⟩⟩
  rw [hl, List.take_of_length_le (by simp [hs])]
  refine flat_ext E xs _ (by simp [hs, hl]) (fun j x hx i u hu => ?_)
  have hj : j < n := by rw [← hl]; exact (List.getElem?_eq_some_iff.1 hx).1
  simpa using hf j x hj hx i u hu
/-- make of a variable length. -/
theorem make_n {P : Program} {t e : TypeId} {i : TypeInfo} {z : Value} (ht : P.underlying t = some (.slice e)) (hi : P.info? e = some i) (hz : i.zero = some z) {n : Nat} (hbytes : i.bytes * n ≤ 281474976710656) (h63 : n ≤ 9223372036854775807) (w : World) :
    (Instr.makeSlice t (.int .i64 (n : Int)) (.int .i64 (n : Int))).run P w = .ok (.slice (some ⟨w.heap.size, 0, none⟩) n n) (w.alloc (.cells (madeCells z.cells (n * i.size)) e)) := by
  have hb : (i.bytes : Int) * (n : Int) ≤ 281474976710656 := by
    have h : ((i.bytes * n : Nat) : Int) ≤ 281474976710656 := by omega
    rwa [Int.natCast_mul] at h
  have hr := run_make (P := P) w t e i z ht hi hz .i64 .i64 n n (by omega) (by omega) hb (by omega)
  simp only [Int.toNat_natCast] at hr
  exact hr
end Go.Proofs.YtonndpcmadnpmaaDoor
/- How an argument that can be read is opened: strings, slices, networks, routes. Conditions: none. -/
namespace Go.Proofs.YtonndpcmadnpmaaDoor
open Go.ChangeShapes Go.WideShapes Go.ChangeAt Go.RowKit Go.Deep
theorem i64_bd {n : Int} (h : (Lit.int .i64 n).wf = true) : -9223372036854775808 ≤ n ∧ n ≤ 9223372036854775807 := by
  simp [Lit.wf, IntKind.min, IntKind.max, IntKind.signed, IntKind.bits] at h; omega
section
variable {H : Type} {enc : TypeId × Value → H} {P : Program} {W : World} {spare : Nat → Bool} {held : Bool}
/-- A slice whose elements' cells are known. -/
theorem open_sl {α : Type} (E : El α) {t e : TypeId} {fuel : Nat} {cs : List Value} {x : DataW H × List MemPlace} (good : α → Prop) (ht : P.underlying t = some (.slice e)) (hsz : P.cellsOf e = E.sz)
    (hel : ∀ fuel cs y, DataW.trod enc P W 0 spare held fuel e cs = some y → ∃ a, cs = E.cells a ∧ good a)
    (h : DataW.trod enc P W 0 spare held fuel t cs = some x) :
    ∃ A n c xs, cs = [.slice A n c] ∧ n ≤ c ∧ c ≤ maxLen ∧ Sees E W W.heap.size A n xs ∧ ∀ a ∈ xs, good a := by
  rcases open_slice ht h with ⟨h0, _⟩ | ⟨a, len, cap, m, k, D, Pl, hcs, _, hl, hm, hmm, _, hi⟩
  · exact ⟨none, 0, 0, [], h0, Nat.le_refl _, Nat.zero_le _, Sees.nil _ _ _ _, fun _ h => by cases h⟩
  · have hlm : len ≤ m := by rw [hmm]; split <;> omega
    have key : ∀ i : Nat, i < len → ∃ y : α, good y ∧ ∀ j u, (E.cells y)[j]? = some u → W.cell? (a.add (i * E.sz + j)) = some u := by
      intro i hlt
      obtain ⟨cs', hc, htr⟩ := hi i (by omega)
      obtain ⟨y, rfl, hg⟩ := hel _ _ _ htr
      obtain ⟨_, hlen, hat⟩ := World.cells?_some hc
      refine ⟨y, hg, fun j u hu => ?_⟩
      have hj : j < P.cellsOf e := by rw [hsz, ← E.len y]; exact (List.getElem?_eq_some_iff.1 hu).1
      have := hat j hj
      rw [add_add, hsz] at this
      rw [this, hu]
    rcases Nat.eq_zero_or_pos len with h0 | h0
    · subst h0
      exact ⟨some a, 0, cap, [], hcs, hl, hm, Sees.nil _ _ _ _, fun _ h => by cases h⟩
    · have hspot : a.spot = none := by
        obtain ⟨y, _, hy⟩ := key 0 h0
        have hpos := E.pos
        have hlen := E.len y
        have h1 := hy 0 ((E.cells y)[0]'(by omega)) (List.getElem?_eq_getElem (by omega))
        simp only [Nat.zero_mul, Nat.zero_add] at h1
        rw [show a.add 0 = a by simp [Addr.add]] at h1
        unfold World.cell? at h1
        split at h1
        · split at h1
          · cases h1
          · rename_i hs; simpa using hs
        · cases h1
      obtain ⟨y0, _, _⟩ := key 0 h0
      have : Inhabited α := ⟨y0⟩
      obtain ⟨f, hf⟩ := choose_lt key
      refine ⟨some a, len, cap, (List.range len).map f, hcs, hl, hm, ⟨by simp, .inr ⟨a.block, a.off, by cases a; simp_all, ?_, ?_⟩⟩, ?_⟩
      · obtain ⟨_, hy⟩ := hf 0 h0
        have hpos := E.pos
        have hlen := E.len (f 0)
        have h1 := hy 0 ((E.cells (f 0))[0]'(by omega)) (List.getElem?_eq_getElem (by omega))
        have := World.block_lt_of_cell? W _ h1
        simp only [Addr.add] at this
        split at this <;> simpa using this
      · intro k x hx j u hu
        have hk : k < len := by have := (List.getElem?_eq_some_iff.1 hx).1; simpa using this
        have hx' : f k = x := by simpa [List.getElem?_map, List.getElem?_range, hk] using hx
        have := (hf k hk).2 j u (by rw [hx']; exact hu)
        rw [← this]
        unfold Addr.add
        split
        · rename_i h00; rw [Nat.add_assoc, h00, Nat.add_zero]; cases a; simp_all
        · rw [Nat.add_assoc]
      · intro x hx
        obtain ⟨i, hi, rfl⟩ := List.mem_map.1 hx
        exact (hf i (by simpa using hi)).1
/-- A slice that came in. -/
def SlArg {α : Type} (E : El α) (W : World) (A : Option Addr) (n c : Nat) (xs : List α) (good : α → Prop) : Prop := n ≤ c ∧ c ≤ maxLen ∧ Sees E W W.heap.size A n xs ∧ ∀ a ∈ xs, good a
theorem open_sl_val {α : Type} (E : El α) {t e : TypeId} {base : Nat} {v : Value} {d : DataW H} {p : List MemPlace} (good : α → Prop) (ht : P.underlying t = some (.slice e)) (hsz : P.cellsOf e = E.sz)
    (hel : ∀ fuel cs y, DataW.trod enc P W 0 spare held fuel e cs = some y → ∃ a, cs = E.cells a ∧ good a)
    (hv : Value.okWide P W .any base t v) (h : DataW.Trod enc P W 0 spare held t v d p) : ∃ A n c xs, v = .slice A n c ∧ SlArg E W A n c xs good := by
  obtain ⟨a, len, cap, rfl⟩ := okWide_slice ht hv
  obtain ⟨fuel, h⟩ := h
  obtain ⟨A, n, c, xs, e, h1, h2, h3, h4⟩ := open_sl E good ht hsz hel h
  exact ⟨A, n, c, xs, by simpa [Value.cells] using e, h1, h2, h3, h4⟩
theorem el_int {e : TypeId} (he : P.underlying e = some (.int .i64)) (fuel : Nat) (cs : List Value) (y : DataW H × List MemPlace) (h : DataW.trod enc P W 0 spare held fuel e cs = some y) :
    ∃ a, cs = elInt.cells a ∧ (-9223372036854775808 ≤ a ∧ a ≤ 9223372036854775807) := by
  obtain ⟨n, rfl, _, hw⟩ := DataW.trod_int he h
  exact ⟨n, rfl, i64_bd hw⟩
theorem el_str {e : TypeId} (he : P.underlying e = some .string) (fuel : Nat) (cs : List Value) (y : DataW H × List MemPlace) (h : DataW.trod enc P W 0 spare held fuel e cs = some y) :
    ∃ a, cs = elStr.cells a ∧ a.size ≤ maxLen := by
  obtain ⟨n, rfl, _, hw⟩ := DataW.trod_string he h
  exact ⟨n, rfl, hw⟩
end
end Go.Proofs.YtonndpcmadnpmaaDoor
/- A list of bytes that came in. Conditions: none. -/
namespace Go.Proofs.YtonndpcmadnpmaaDoor
open Go.ChangeShapes Go.WideShapes Go.ChangeAt Go.RowKit Go.Deep
/-- A byte in memory. -/
def elU : El Int := ⟨1, fun x => [.int .u8 x], fun _ => rfl, by decide, fun _ u h => by simp at h; subst h; rfl⟩
theorem cellsU : Tryd.prog.cellsOf 5 = elU.sz := by kernel_rfl
theorem u8_bd {n : Int} (h : (Lit.int .u8 n).wf = true) : 0 ≤ n ∧ n ≤ 255 := by
  simp [Lit.wf, IntKind.min, IntKind.max, IntKind.signed, IntKind.bits] at h; omega
section
variable {H : Type} {enc : TypeId × Value → H} {P : Program} {W : World} {spare : Nat → Bool} {held : Bool}
theorem el_u8 {e : TypeId} (he : P.underlying e = some (.int .u8)) (fuel : Nat) (cs : List Value) (y : DataW H × List MemPlace) (h : DataW.trod enc P W 0 spare held fuel e cs = some y) :
    ∃ a, cs = elU.cells a ∧ (0 ≤ a ∧ a ≤ 255) := by
  obtain ⟨n, rfl, _, hw⟩ := DataW.trod_int he h
  exact ⟨n, rfl, u8_bd hw⟩
/-- The bytes that a law draws from. -/
def BytesArg (W : World) (A : Option Addr) (n c : Nat) (xs : List Int) : Prop := SlArg elU W A n c xs (fun a => 0 ≤ a ∧ a ≤ 255)
set_option maxRecDepth 100000 in
theorem open_bytes {base : Nat} {v : Value} {d : DataW H} {p : List MemPlace} (hv : Value.okWide Tryd.prog W .any base 29 v) (h : DataW.Trod enc Tryd.prog W 0 spare held 29 v d p) :
    ∃ A n c xs, v = .slice A n c ∧ BytesArg W A n c xs :=
  open_sl_val elU _ Tryd.underlying29 cellsU (el_u8 Tryd.underlying5) hv h
end
end Go.Proofs.YtonndpcmadnpmaaDoor
/- What a call may have turned: blocks of a set alone; rows that are marked. Conditions: none. -/
namespace Go.Proofs.YtonndpcmadnpmaaDoor
open Go.RowKit
/-- Of the old blocks only those of S may have turned. -/
structure Touch (S : Nat → Prop) (w w' : World) : Prop where
  os : w'.os = w.os
  tape : w'.tape = w.tape
  output : w'.output = w.output
  size : w.heap.size ≤ w'.heap.size
  block : ∀ k, k < w.heap.size → ¬ S k → w'.heap[k]? = w.heap[k]?
section
variable {S S' : Nat → Prop} {w w' w2 : World}
theorem Touch.refl (S : Nat → Prop) (w : World) : Touch S w w := ⟨rfl, rfl, rfl, Nat.le_refl _, fun _ _ _ => rfl⟩
theorem Touch.of_below (h : Below w.heap.size w w') : Touch S w w' := ⟨h.os, h.tape, h.output, h.size, fun k hk _ => h.block k hk⟩
theorem Touch.trans (h : Touch S w w') (k : Touch S w' w2) : Touch S w w2 :=
  ⟨k.os.trans h.os, k.tape.trans h.tape, k.output.trans h.output, Nat.le_trans h.size k.size, fun i hi hn => (k.block i (Nat.lt_of_lt_of_le hi h.size) hn).trans (h.block i hi hn)⟩
theorem Touch.mono (h : Touch S w w') (hS : ∀ k, S k → S' k) : Touch S' w w' := ⟨h.os, h.tape, h.output, h.size, fun k hk hn => h.block k hk (fun hs => hn (hS k hs))⟩
theorem Touch.set (w : World) {p : Addr} (hp : S p.block) (u : Value) : Touch S w (w.setCell p u) :=
  ⟨rfl, rfl, rfl, by simp [World.setCell], fun k _ hn => Below.heap_setCell _ _ _ _ (fun e => hn (e ▸ hp))⟩
theorem Touch.then_ (h : Touch S w w') (k : Below w'.heap.size w' w2) : Touch S w w2 := h.trans (.of_below k)
theorem Touch.below {B : Nat} (h : Touch S w w') (hS : ∀ k, S k → B ≤ k) (hB : B ≤ w.heap.size) : Below B w w' :=
  ⟨h.os, h.tape, h.output, h.size, fun k hk => h.block k (by omega) (fun hs => by have := hS k hs; omega)⟩
theorem Blk.touch {g : Nat} {e : TypeId} {cur : Array Value} (h : Blk w g e cur) (t : Touch S w w') (hn : ¬ S g) : Blk w' g e cur := (t.block g h.lt hn).trans h
theorem Owns.touch {α : Type} {E : El α} {base : Nat} {e : TypeId} {v : Value} {xs : List α} (h : Owns E w base e v xs) (t : Touch S w w') (hn : ∀ g, v.ownBlock = some g → ¬ S g) : Owns E w' base e v xs := by
  refine ⟨h.1, ?_⟩
  rcases h.2 with h0 | ⟨g, cap, cur, hv, hg, hh, r⟩
  · exact .inl h0
  · exact .inr ⟨g, cap, cur, hv, hg, (t.block g (Array.getElem?_eq_some_iff.1 hh).1 (hn g (by rw [hv]; rfl))).trans hh, r⟩
theorem Sees.touch {α : Type} {E : El α} {B n : Nat} {A : Option Addr} {xs : List α} (h : Sees E w B A n xs) (t : Touch S w w') (hS : ∀ k, S k → B ≤ k) : Sees E w' B A n xs := by
  refine ⟨h.1, ?_⟩
  rcases h.2 with h0 | ⟨b, o, rfl, hb, hc⟩
  · exact .inl h0
  · refine .inr ⟨b, o, rfl, hb, fun k x hx j u hu => ?_⟩
    have h1 := hc k x hx j u hu
    exact (World.cell?_of_block (a := ⟨b, _, none⟩) (t.block b (World.block_lt_of_cell? w _ h1) (fun hs => by have := hS b hs; omega))).trans h1
end
/-- Where a row of the call's own lies. -/
theorem Owns.lies {α : Type} {E : El α} {w : World} {base : Nat} {e : TypeId} {v : Value} {xs : List α} (h : Owns E w base e v xs) : ∀ g, v.ownBlock = some g → base ≤ g ∧ g < w.heap.size := World.ownsRow.lt h
/-- Nil, or a block that is known. -/
theorem Owns.cases {α : Type} {E : El α} {w : World} {base : Nat} {e : TypeId} {v : Value} {xs : List α} (h : Owns E w base e v xs) :
    (v = .slice none 0 0 ∧ xs = []) ∨ ∃ g cap cur, v = .slice (some ⟨g, 0, none⟩) xs.length cap ∧ base ≤ g ∧ Blk w g e cur ∧ xs.length ≤ cap ∧ cap ≤ maxLen ∧ cur.size = cap * E.sz ∧ Filled E cur xs xs.length := by
  rcases h.2 with ⟨hv, hn⟩ | ⟨g, cap, cur, hv, hg, hh, h1, h2, h3, h4⟩
  · exact .inl ⟨hv, List.eq_nil_of_length_eq_zero hn⟩
  · refine .inr ⟨g, cap, cur, hv, hg, hh, h1, h2, h3, fun j x hj hx i u hu => ?_⟩
    have h5 := flat_get E xs j x hx i u hu
    rw [← h4, List.getElem?_take] at h5
    split at h5
    · simpa using h5
    · cases h5
theorem Owns.of_blk {α : Type} {E : El α} {w : World} {base g n cap : Nat} {e : TypeId} {cur : Array Value} {xs : List α} (h : Blk w g e cur) (hb : base ≤ g) (hl : xs.length = n) (hnc : n ≤ cap) (hs : cur.size = cap * E.sz) (hm : cap ≤ maxLen)
    (hf : Filled E cur xs n) : Owns E w base e (.slice (some ⟨g, 0, none⟩) n cap) xs := by
  refine ⟨flat_len E xs, .inr ⟨g, cap, cur, by rw [hl], hb, h, by omega, hm, hs, ?_⟩⟩
  rw [hl]
  have hle : n * E.sz ≤ cur.size := by rw [hs]; exact Nat.mul_le_mul_right _ hnc
  refine flat_ext E xs _ (by rw [List.length_take, Array.length_toList, hl]; omega) (fun j x hx i u hu => ?_)
  have hj : j < n := by rw [← hl]; exact (List.getElem?_eq_some_iff.1 hx).1
  have hi : i < E.sz := by rw [← E.len x]; exact (List.getElem?_eq_some_iff.1 hu).1
  have : (j + 1) * E.sz ≤ n * E.sz := Nat.mul_le_mul_right _ hj
  rw [Nat.add_mul] at this
  rw [List.getElem?_take, if_pos (by omega)]
  simpa using hf j x hj hx i u hu
/-- Rows of different element types lie apart. -/
theorem owns_ne {α β : Type} {E : El α} {E' : El β} {w : World} {b b' : Nat} {e e' : TypeId} {v v' : Value} {xs : List α} {ys : List β} (h : Owns E w b e v xs) (h' : Owns E' w b' e' v' ys) (hne : e ≠ e') : ∀ g, v'.ownBlock = some g → ¬ (v.ownBlock = some g) := by
  intro g hg hg'
  rcases h.cases with ⟨rfl, _⟩ | ⟨g1, c1, cur1, rfl, _, hb1, _⟩
  · simp [Value.ownBlock] at hg'
  · rcases h'.cases with ⟨rfl, _⟩ | ⟨g2, c2, cur2, rfl, _, hb2, _⟩
    · simp [Value.ownBlock] at hg
    · simp [Value.ownBlock] at hg hg'
      subst hg' hg
      unfold Blk at hb1 hb2
      rw [hb1] at hb2
      injection hb2 with hb2
      injection hb2 with _ ht
      exact hne ht
/-- The numbers from k on. -/
def marks (k : Int) (n : Nat) : List Int := (List.range n).map fun (j : Nat) => k + (j : Int)
theorem marks_len (k : Int) (n : Nat) : (marks k n).length = n := by simp [marks]
theorem marks_get {k : Int} {n j : Nat} (h : j < n) : (marks k n)[j]? = some (k + (j : Int)) := by simp [marks, h]
theorem filled_int {cur : Array Value} {xs : List Int} {j : Nat} {x : Int} (h : Filled elInt cur xs j) (hx : xs[j]? = some x) (hs : j < cur.size) : Filled elInt (cur.setIfInBounds j (.int .i64 x)) xs (j + 1) := by
  refine h.step hx (fun i hi => ?_) (fun i u hu => ?_)
  · rw [Array.getElem?_setIfInBounds_ne (by simp [elInt] at hi; omega)]
  · have hu' : [Value.int .i64 x][i]? = some u := hu
    match i, hu' with
    | 0, hu' =>
      have e : j * elInt.sz + 0 = j := by show j * 1 + 0 = j; omega
      rw [e, Array.getElem?_setIfInBounds_self_of_lt hs]; exact hu'
    | i + 1, hu' => simp at hu'
theorem filled_str {cur : Array Value} {xs : List ByteArray} {j : Nat} {x : ByteArray} (h : Filled elStr cur xs j) (hx : xs[j]? = some x) (hs : j < cur.size) : Filled elStr (cur.setIfInBounds j (.string x)) xs (j + 1) := by
  refine h.step hx (fun i hi => ?_) (fun i u hu => ?_)
  · rw [Array.getElem?_setIfInBounds_ne (by simp [elStr] at hi; omega)]
  · have hu' : [Value.string x][i]? = some u := hu
    match i, hu' with
    | 0, hu' =>
      have e : j * elStr.sz + 0 = j := by show j * 1 + 0 = j; omega
      rw [e, Array.getElem?_setIfInBounds_self_of_lt hs]; exact hu'
    | i + 1, hu' => simp at hu'
end Go.Proofs.YtonndpcmadnpmaaDoor
/- What an append leaves, in the words of Owns and Below. Conditions: none. -/
namespace Go.Proofs.YtonndpcmadnpmaaDoor
open Go.RowKit
theorem Owns.appended {α : Type} {E : El α} {w : World} {base : Nat} {e : TypeId} {v : Value} {xs : List α} {x : α} (h : w.ownsRow base e E.sz v (xs.length + 1) (xs.flatMap E.cells ++ E.cells x)) : Owns E w base e v (xs ++ [x]) := by
  unfold Owns; simpa using h
theorem Owns.sees {α : Type} {E : El α} {w : World} {base n c : Nat} {A : Option Addr} {e : TypeId} {xs : List α} (h : Owns E w base e (.slice A n c) xs) : Sees E w w.heap.size A xs.length xs := by
  obtain ⟨A', c', hv, _, _, hs⟩ := h.form
  injection hv with h1 h2 h3
  rw [h1]; exact hs
theorem bl_grown {w0 w w' : World} {v : Value} (hb : Below w0.heap.size w0 w) (hg : w.grownBy w' v.ownBlock) (hv : ∀ g, v.ownBlock = some g → w0.heap.size ≤ g) : Below w0.heap.size w0 w' :=
  hb.trans ⟨hg.os, hg.tape, hg.output, hg.size, fun k hk => hg.block k (Nat.lt_of_lt_of_le hk hb.size) (fun e => by have := hv k e.symm; omega)⟩
/-- Those of the first k numbers that pass p. -/
def idsTo (p : Nat → Bool) (k : Nat) : List Int := ((List.range k).filter p).map fun (j : Nat) => (j : Int)
theorem idsTo_zero (p : Nat → Bool) : idsTo p 0 = [] := rfl
theorem idsTo_yes {p : Nat → Bool} {k : Nat} (h : p k = true) : idsTo p (k + 1) = idsTo p k ++ [(k : Int)] := by simp [idsTo, List.range_succ, List.filter_append, h]
theorem idsTo_no {p : Nat → Bool} {k : Nat} (h : p k = false) : idsTo p (k + 1) = idsTo p k := by simp [idsTo, List.range_succ, List.filter_append, h]
theorem idsTo_len (p : Nat → Bool) (k : Nat) : (idsTo p k).length ≤ k := by
  unfold idsTo
  rw [List.length_map]
  exact Nat.le_trans (List.length_filter_le _ _) (by simp)
theorem idsTo_congr {p q : Nat → Bool} {k : Nat} (h : ∀ j, j < k → p j = q j) : idsTo p k = idsTo q k := by
  induction k with
  | zero => rfl
  | succ k ih =>
    have h1 := ih (fun j hj => h j (by omega))
    cases g : q k
    · rw [idsTo_no g, idsTo_no ((h k (by omega)).trans g), h1]
    · rw [idsTo_yes g, idsTo_yes ((h k (by omega)).trans g), h1]
theorem one_new (w : World) (x : Value) (t : TypeId) {b : Nat} (hb : b = w.heap.size) : ∀ j u, [x][j]? = some u → (w.alloc (.cells #[x] t)).cell? ((⟨b, 0, none⟩ : Addr).add j) = some u := by
  subst hb
  intro j u hj
  match j, hj with
  | 0, hj => simp at hj; subst hj; simp [Addr.add]
theorem int_info : (Tryd.prog.info? 3).map (fun i => (i.zero, i.size, i.bytes)) = some (some (.int .i64 0), 1, 8) := by kernel_rfl
end Go.Proofs.YtonndpcmadnpmaaDoor
/- markIntS, heldIntS, eqIntS, walked. Conditions: at most 1048576 numbers, marks below 2^40. -/
namespace Go.Proofs.YtonndpcmadnpmaaDoor
open Go.RowKit
end Go.Proofs.YtonndpcmadnpmaaDoor
/- Rows of rows of numbers. Conditions: none. -/
namespace Go.Proofs.YtonndpcmadnpmaaDoor
open Go.RowKit
/-- A slice, as a value. -/
structure Sl where
  A : Option Addr
  n : Nat
  c : Nat
def slV (s : Sl) : Value := .slice s.A s.n s.c
def elSl : El Sl := ⟨1, fun s => [slV s], fun _ => rfl, by decide, fun _ u h => by simp at h; subst h; rfl⟩
/-- The row v of slices is the call's own, and so is each of its slices; they hold rows; no two share memory. -/
def OwnsSS (w : World) (base : Nat) (v : Value) (ss : List Sl) (rows : List (List Int)) : Prop :=
  Owns elSl w base 54 v ss ∧ ss.length = rows.length ∧ (∀ (i : Nat) s r, ss[i]? = some s → rows[i]? = some r → Owns elInt w base 3 (slV s) r) ∧
    ∀ (i j : Nat) s t g, i < j → ss[i]? = some s → ss[j]? = some t → (slV s).ownBlock = some g → ¬ ((slV t).ownBlock = some g)
section
variable {w w' : World} {base : Nat} {v : Value} {ss : List Sl} {rows : List (List Int)}
theorem OwnsSS.below (h : OwnsSS w base v ss rows) (hb : Below w.heap.size w w') : OwnsSS w' base v ss rows :=
  ⟨h.1.below hb, h.2.1, fun i s r h1 h2 => (h.2.2.1 i s r h1 h2).below hb, h.2.2.2⟩
theorem OwnsSS.base_ {base' : Nat} (h : OwnsSS w base v ss rows) (hb : base' ≤ base) : OwnsSS w base' v ss rows :=
  ⟨h.1.base hb, h.2.1, fun i s r h1 h2 => (h.2.2.1 i s r h1 h2).base hb, h.2.2.2⟩
theorem OwnsSS.nil (w : World) (base : Nat) : OwnsSS w base (.slice none 0 0) [] [] :=
  ⟨World.ownsRow_nil _ _ _ _, rfl, fun i s r h1 => by simp at h1, fun i j s t g _ h1 => by simp at h1⟩
/-- One row more, made behind the others; the row of slices may have moved. -/
theorem OwnsSS.push {w2 w3 : World} {r0 : List Int} {s0 : Sl} {v' : Value} (h : OwnsSS w base v ss rows) (hb : Below w.heap.size w w2) (hbase : base ≤ w.heap.size) (hr : Owns elInt w2 w.heap.size 3 (slV s0) r0)
    (hown : Owns elSl w3 base 54 v' (ss ++ [s0])) (hg : w2.grownBy w3 v.ownBlock) : OwnsSS w3 base v' (ss ++ [s0]) (rows ++ [r0]) := by
  have h2 := h.below hb
  have ht : Touch (fun b => v.ownBlock = some b) w2 w3 := ⟨hg.os, hg.tape, hg.output, hg.size, fun k hk hn => hg.block k hk (fun e => hn e.symm)⟩
  refine ⟨hown, by simp [h.2.1], fun i s r h3 h4 => ?_, fun i j s t g hij h3 h4 h5 h6 => ?_⟩
  · rcases Nat.lt_or_ge i ss.length with hi | hi
    · rw [List.getElem?_append_left hi] at h3
      rw [List.getElem?_append_left (by rw [← h.2.1]; exact hi)] at h4
      have ho := h2.2.2.1 i s r h3 h4
      exact ho.touch ht (fun g hg' => owns_ne h2.1 ho (by decide) g hg')
    · rw [List.getElem?_append_right hi] at h3
      rw [List.getElem?_append_right (by rw [← h.2.1]; exact hi)] at h4
      have e1 : i - ss.length = 0 := by have := (List.getElem?_eq_some_iff.1 h3).1; simp at this; omega
      have e2 : i - rows.length = 0 := by rw [← h.2.1]; exact e1
      rw [e1] at h3; rw [e2] at h4
      simp at h3 h4; subst h3; subst h4
      exact (hr.touch ht (fun g hg' => owns_ne h2.1 hr (by decide) g hg')).base hbase
  · rcases Nat.lt_or_ge j ss.length with hj | hj
    · rw [List.getElem?_append_left hj] at h4
      rw [List.getElem?_append_left (by omega)] at h3
      exact h.2.2.2 i j s t g hij h3 h4 h5 h6
    · rw [List.getElem?_append_right hj] at h4
      have e1 : j - ss.length = 0 := by have := (List.getElem?_eq_some_iff.1 h4).1; simp at this; omega
      rw [e1] at h4; simp at h4; subst h4
      rw [List.getElem?_append_left (by omega)] at h3
      obtain ⟨r, hrr⟩ : ∃ r, rows[i]? = some r := ⟨rows[i]'(by rw [← h.2.1]; omega), List.getElem?_eq_getElem _⟩
      have a1 := ((h.2.2.1 i s r h3 hrr).lies g h5).2
      have a2 := (hr.lies g h6).1
      omega
end
theorem sl_info : (Tryd.prog.info? 54).map (fun i => (i.zero, i.size, i.bytes)) = some (some (.slice none 0 0), 1, 24) := by kernel_rfl
end Go.Proofs.YtonndpcmadnpmaaDoor
/- Small functions of the networks' chapter, walked: ranges, names, comparing. Conditions: none. -/
namespace Go.Proofs.YtonndpcmadnpmaaDoor
open Go.RowKit
/-- In a range. -/
def inB (lo hi n : Int) : Bool := decide (lo ≤ n ∧ n ≤ hi)
theorem l1In_any (n lo hi : Int) (w : World) :
    Calls Tryd.prog 21 #[.int .i64 n, .int .i64 lo, .int .i64 hi] w fun e w' => e = .returned (.bool (inB lo hi n)) ∧ w = w' := by
  by_cases h1 : lo ≤ n <;> by_cases h2 : n ≤ hi
  all_goals
    go_enter Tryd.func21, Tryd.ntmps21
    go_wp2
    go_ret
    exact ⟨by simp [inB, h1, h2], rfl⟩
/-- Comparing numbers. -/
def cmpB (a b : Int) : Int := if a < b then -1 else if b < a then 1 else 0
end Go.Proofs.YtonndpcmadnpmaaDoor
/- The checksum of a list of bytes, in plain Lean: no program in sight. Conditions: none. -/
namespace Go.Proofs.YtonndpcmadnpmaaDoor
namespace Chk
/-- One byte's turn. -/
def step (h : Int) (c : UInt8) : Int := (41 * h + (c.toNat : Int) + 1) % 999979
/-- The checksum. -/
def sum (l : List UInt8) : Int := l.foldl step 7
theorem step_bd (h : Int) (c : UInt8) : 0 ≤ step h c ∧ step h c < 999979 := by unfold step; omega
theorem sum_bd (l : List UInt8) : 0 ≤ sum l ∧ sum l < 999979 := by
  unfold sum
  have : ∀ (l : List UInt8) (a : Int), 0 ≤ a ∧ a < 999979 → 0 ≤ l.foldl step a ∧ l.foldl step a < 999979 := by
    intro l
    induction l with
    | nil => intro a h; exact h
    | cons c l ih => intro a _; exact ih _ (step_bd a c)
  exact this l 7 (by omega)
theorem sum_snoc (l : List UInt8) (c : UInt8) : sum (l ++ [c]) = (41 * sum l + (c.toNat : Int) + 1) % 999979 := by
  unfold sum; rw [List.foldl_append]; rfl
end Chk
theorem take_snoc (s : ByteArray) (k : Nat) (h : k < s.size) : s.data.toList.take (k + 1) = s.data.toList.take k ++ [s[k]] := by
  rw [List.take_succ_eq_append_getElem (by simpa using h)]; rfl
theorem ret_int {k : IntKind} {a b : Int} (h : a = b) : Ending.returned (.int k a) = .returned (.int k b) := by rw [h]
end Go.Proofs.YtonndpcmadnpmaaDoor
/- Names, walked: the program's isName and the reference's l2Name are one function of the bytes. Conditions: none. -/
namespace Go.Proofs.YtonndpcmadnpmaaDoor
open Go.RowKit
def letB (c : UInt8) : Bool := decide (97 ≤ c.toNat ∧ c.toNat ≤ 122)
def digB (c : UInt8) : Bool := decide (48 ≤ c.toNat ∧ c.toNat ≤ 57)
/-- What the bytes of a name pass, from place k on. -/
def okAt (k : Nat) (c : UInt8) : Bool := letB c || (digB c && !(k == 0))
def okTo (l : List UInt8) (k : Nat) : Prop := ∀ j c, j < k → l[j]? = some c → okAt j c = true
def nameB (l : List UInt8) : Bool := decide (1 ≤ l.length ∧ l.length ≤ 8) && (l.zipIdx.all fun x => okAt x.2 x.1)
theorem okTo_all {l : List UInt8} : okTo l l.length ↔ (l.zipIdx.all fun x => okAt x.2 x.1) = true := by
  constructor
  · intro h
    rw [List.all_eq_true]
    rintro ⟨c, j⟩ hx
    rw [List.mem_zipIdx_iff_getElem?] at hx
    exact h j c (List.getElem?_eq_some_iff.1 hx).1 hx
  · intro h j c hj hc
    rw [List.all_eq_true] at h
    exact h (c, j) (List.mem_zipIdx_iff_getElem?.2 hc)
theorem okTo_succ {l : List UInt8} {k : Nat} {c : UInt8} (h : okTo l k) (hc : l[k]? = some c) (ho : okAt k c = true) : okTo l (k + 1) := by
  intro j d hj hd
  rcases Nat.lt_succ_iff_lt_or_eq.1 hj with hlt | rfl
  · exact h j d hlt hd
  · rw [hc] at hd; injection hd with hd; subst hd; exact ho
theorem nameB_no {l : List UInt8} {k : Nat} {c : UInt8} (hc : l[k]? = some c) (ho : okAt k c = false) : nameB l = false := by
  unfold nameB
  rw [Bool.and_eq_false_iff]
  refine .inr ?_
  rw [← Bool.not_eq_true, ← okTo_all]
  intro h
  have := h k c (List.getElem?_eq_some_iff.1 hc).1 hc
  rw [ho] at this; cases this
theorem nameB_yes {l : List UInt8} (h : okTo l l.length) : nameB l = inB 1 8 l.length := by
  unfold nameB inB
  rw [okTo_all.1 h, Bool.and_true]
  rw [Bool.eq_iff_iff]; simp only [decide_eq_true_eq]; omega
theorem byte_cases (c : Nat) : c < 48 ∨ (48 ≤ c ∧ c ≤ 57) ∨ (58 ≤ c ∧ c < 97) ∨ (97 ≤ c ∧ c ≤ 122) ∨ 122 < c := by omega
theorem size_list (s : ByteArray) : s.data.toList.length = s.size := by simp
theorem get_list (s : ByteArray) (k : Nat) (h : k < s.size) : s.data.toList[k]? = some s[k] := by
  rw [List.getElem?_eq_getElem (by simpa using h)]; rfl
end Go.Proofs.YtonndpcmadnpmaaDoor
/- Finding a value in a list, in plain Lean. Conditions: none. -/
namespace Go.Proofs.YtonndpcmadnpmaaDoor
/-- The index of the first x, counted from k; -1 if there is none. -/
def findFrom {α : Type} [DecidableEq α] (x : α) : List α → Nat → Int
  | [], _ => -1
  | y :: l, k => if y = x then (k : Int) else findFrom x l (k + 1)
def findI {α : Type} [DecidableEq α] (l : List α) (x : α) : Int := findFrom x l 0
section
variable {α : Type} {l : List α} {x : α}
/-- None of the first k is x. -/
def noneTo (l : List α) (x : α) (k : Nat) : Prop := ∀ j, j < k → l[j]? ≠ some x
theorem noneTo_zero : noneTo l x 0 := fun j hj => by omega
theorem noneTo_succ {k : Nat} {y : α} (h : noneTo l x k) (hy : l[k]? = some y) (hne : y ≠ x) : noneTo l x (k + 1) := by
  intro j hj
  rcases Nat.lt_succ_iff_lt_or_eq.1 hj with hlt | rfl
  · exact h j hlt
  · rw [hy]; intro e; injection e with e; exact hne e
theorem noneTo_not {n : Nat} (hn : l.length = n) (h : noneTo l x n) : x ∉ l := by
  intro hm
  obtain ⟨i, hi, e⟩ := List.mem_iff_getElem.1 hm
  exact h i (by omega) (by rw [List.getElem?_eq_getElem hi, e])
end
section
variable {α : Type} [DecidableEq α] {l : List α} {x : α}
theorem findFrom_at : ∀ {l : List α} {k0 k : Nat}, l[k]? = some x → (∀ j, j < k → l[j]? ≠ some x) → findFrom x l k0 = ((k0 + k : Nat) : Int) := by
  intro l
  induction l with
  | nil => intro k0 k h; simp at h
  | cons y l ih =>
    intro k0 k h hn
    unfold findFrom
    cases k with
    | zero => simp at h; rw [if_pos h]; rfl
    | succ k =>
      rw [if_neg (fun e => hn 0 (Nat.succ_pos _) (by simp [e]))]
      rw [ih (k := k) (by simpa using h) (fun j hj => by have := hn (j + 1) (by omega); simpa using this)]
      congr 1; omega
theorem findFrom_none : ∀ {l : List α} {k0 : Nat}, x ∉ l → findFrom x l k0 = -1 := by
  intro l
  induction l with
  | nil => intro k0 _; rfl
  | cons y l ih =>
    intro k0 h
    simp only [List.mem_cons, not_or] at h
    unfold findFrom
    rw [if_neg (fun e => h.1 e.symm), ih h.2]
theorem findI_at {k : Nat} (h : noneTo l x k) (hx : l[k]? = some x) : findI l x = k := by
  have := findFrom_at (k0 := 0) hx h
  simpa [findI] using this
theorem findI_none {n : Nat} (hn : l.length = n) (h : noneTo l x n) : findI l x = -1 := findFrom_none (noneTo_not hn h)
theorem findFrom_ge : ∀ {l : List α} {k0 : Nat}, (0 ≤ findFrom x l k0 ↔ x ∈ l) := by
  intro l
  induction l with
  | nil => intro k0; simp [findFrom]
  | cons y l ih =>
    intro k0
    unfold findFrom
    by_cases h : y = x
    · simp [h]
    · rw [if_neg h, ih]; simp [show x ≠ y from fun e => h e.symm]
theorem findI_ge : 0 ≤ findI l x ↔ x ∈ l := findFrom_ge
theorem findFrom_bd : ∀ {l : List α} {k0 : Nat}, -1 ≤ findFrom x l k0 ∧ findFrom x l k0 < k0 + l.length ∧ (0 ≤ findFrom x l k0 → (k0 : Int) ≤ findFrom x l k0) := by
  intro l
  induction l with
  | nil => intro k0; simp [findFrom]; omega
  | cons y l ih =>
    intro k0
    unfold findFrom
    by_cases h : y = x
    · rw [if_pos h]; simp only [List.length_cons]; omega
    · rw [if_neg h]; have := ih (k0 := k0 + 1); simp only [List.length_cons]; omega
theorem findI_bd : -1 ≤ findI l x ∧ findI l x < l.length := by
  have := findFrom_bd (x := x) (l := l) (k0 := 0); unfold findI; omega
/-- Is x in the list? -/
def hasB (l : List α) (x : α) : Bool := decide (0 ≤ findI l x)
theorem hasB_iff : hasB l x = true ↔ x ∈ l := by unfold hasB; rw [decide_eq_true_eq]; exact findI_ge
end
end Go.Proofs.YtonndpcmadnpmaaDoor
/- Fibers: how they compare, in plain Lean. Conditions: none. -/
namespace Go.Proofs.YtonndpcmadnpmaaDoor
/-- A fiber. -/
structure Fib where
  a : Int
  b : Int
  len : Int
  risk : Int
def fibV (f : Fib) : Value := .agg #[.int .i64 f.a, .int .i64 f.b, .int .i64 f.len, .int .i64 f.risk]
def elFib : El Fib := ⟨4, fun f => [.int .i64 f.a, .int .i64 f.b, .int .i64 f.len, .int .i64 f.risk], fun _ => rfl, by decide,
  fun _ u h => by simp at h; rcases h with rfl | rfl | rfl | rfl <;> rfl⟩
/-- The first number that is not 0. -/
def orI : List Int → Int
  | [] => 0
  | x :: l => if x = 0 then orI l else x
def cmpFib (f g : Fib) : Int := orI [cmpB f.a g.a, cmpB f.b g.b, cmpB f.len g.len, cmpB f.risk g.risk]
/-- The reference's number. -/
def befF (f g : Fib) : Int := if f.a = g.a then if f.b = g.b then if f.len = g.len then f.risk - g.risk else f.len - g.len else f.b - g.b else f.a - g.a
theorem cmpB_zero {a b : Int} : cmpB a b = 0 ↔ a = b := by unfold cmpB; split <;> (try split) <;> omega
theorem cmpB_pos {a b : Int} : 0 < cmpB a b ↔ b < a := by unfold cmpB; split <;> (try split) <;> omega
theorem cmpB_neg {a b : Int} : cmpB a b < 0 ↔ a < b := by unfold cmpB; split <;> (try split) <;> omega
theorem befF_pos (f g : Fib) : 0 < befF f g ↔ 0 < cmpFib f g := by
  unfold befF cmpFib orI orI orI orI orI
  simp only [cmpB_zero]
  split
  · split
    · split
      · split
        · rename_i h; simp [h]
        · rw [cmpB_pos]; omega
      · rw [cmpB_pos]; omega
    · rw [cmpB_pos]; omega
  · rw [cmpB_pos]; omega
theorem befF_le (f g : Fib) : befF f g ≤ 0 ↔ cmpFib f g ≤ 0 := by have := befF_pos f g; omega
/-- A row of fibers, one more written. -/
def put4 (cur : Array Value) (k : Nat) (f : Fib) : Array Value := (((cur.setIfInBounds (k * 4) (.int .i64 f.a)).setIfInBounds (k * 4 + 1) (.int .i64 f.b)).setIfInBounds (k * 4 + 2) (.int .i64 f.len)).setIfInBounds (k * 4 + 3) (.int .i64 f.risk)
theorem put4_size (cur : Array Value) (k : Nat) (f : Fib) : (put4 cur k f).size = cur.size := by simp [put4]
theorem put4_other {cur : Array Value} {k i : Nat} {f : Fib} (h : i < k * 4 ∨ k * 4 + 3 < i) : (put4 cur k f)[i]? = cur[i]? := by
  unfold put4
  rw [Array.getElem?_setIfInBounds_ne (by omega), Array.getElem?_setIfInBounds_ne (by omega), Array.getElem?_setIfInBounds_ne (by omega), Array.getElem?_setIfInBounds_ne (by omega)]
theorem put4_new {cur : Array Value} {k : Nat} {f : Fib} (hs : k * 4 + 3 < cur.size) : ∀ i u, (elFib.cells f)[i]? = some u → (put4 cur k f)[k * 4 + i]? = some u := by
  intro i u hu
  unfold put4
  match i, hu with
  | 0, hu =>
    rw [Array.getElem?_setIfInBounds_ne (by omega), Array.getElem?_setIfInBounds_ne (by omega), Array.getElem?_setIfInBounds_ne (by omega)]
    rw [Nat.add_zero, Array.getElem?_setIfInBounds_self_of_lt (by omega)]; exact hu
  | 1, hu =>
    rw [Array.getElem?_setIfInBounds_ne (by omega), Array.getElem?_setIfInBounds_ne (by omega)]
    rw [Array.getElem?_setIfInBounds_self_of_lt (by simp; omega)]; exact hu
  | 2, hu =>
    rw [Array.getElem?_setIfInBounds_ne (by omega)]
    rw [Array.getElem?_setIfInBounds_self_of_lt (by simp; omega)]; exact hu
  | 3, hu => rw [Array.getElem?_setIfInBounds_self_of_lt (by simp; omega)]; exact hu
  | i + 4, hu => simp [elFib] at hu
theorem Filled.put4 {cur : Array Value} {xs : List Fib} {k : Nat} {f : Fib} (h : Filled elFib cur xs k) (hx : xs[k]? = some f) (hs : k * 4 + 3 < cur.size) : Filled elFib (put4 cur k f) xs (k + 1) :=
  h.step hx (fun _ hi => put4_other (.inl hi)) (put4_new hs)
theorem Blk.put4 {w : World} {g : Nat} {e : TypeId} {cur : Array Value} (h : Blk w g e cur) (k : Nat) (f : Fib) :
    Blk ((((w.setCell ⟨g, k * 4, none⟩ (.int .i64 f.a)).setCell ⟨g, k * 4 + 1, none⟩ (.int .i64 f.b)).setCell ⟨g, k * 4 + 2, none⟩ (.int .i64 f.len)).setCell ⟨g, k * 4 + 3, none⟩ (.int .i64 f.risk)) g e (put4 cur k f) :=
  (((h.set _ _).set _ _).set _ _).set _ _
end Go.Proofs.YtonndpcmadnpmaaDoor
/- Networks that are valid, in plain Lean. Conditions: none. -/
namespace Go.Proofs.YtonndpcmadnpmaaDoor
/-- All of the first k pass. -/
def allTo (p : Nat → Bool) (k : Nat) : Prop := ∀ j, j < k → p j = true
def allB (p : Nat → Bool) (n : Nat) : Bool := (List.range n).all p
theorem allTo_zero (p : Nat → Bool) : allTo p 0 := fun j hj => by omega
theorem allTo_succ {p : Nat → Bool} {k : Nat} (h : allTo p k) (hk : p k = true) : allTo p (k + 1) := by
  intro j hj
  rcases Nat.lt_succ_iff_lt_or_eq.1 hj with hlt | rfl
  · exact h j hlt
  · exact hk
theorem allB_iff {p : Nat → Bool} {n : Nat} : allB p n = true ↔ allTo p n := by unfold allB allTo; simp
theorem allB_yes {p : Nat → Bool} {n k : Nat} (h : allTo p k) (hk : k = n) : allB p n = true := by subst hk; exact allB_iff.2 h
theorem allB_no {p : Nat → Bool} {n k : Nat} (hk : k < n) (h : p k = false) : allB p n = false := by
  rw [← Bool.not_eq_true, allB_iff]; intro ht; have := ht k hk; rw [h] at this; cases this
instance : Inhabited Fib := ⟨⟨0, 0, 0, 0⟩⟩
def nameAt (xs : List ByteArray) (k : Nat) : Bool := nameB (xs.getD k ByteArray.empty).data.toList && !hasB (xs.take k) (xs.getD k ByteArray.empty)
def fibB (n : Nat) (f : Fib) : Bool := decide (0 ≤ f.a ∧ f.a < f.b ∧ f.b < n ∧ 1 ≤ f.len ∧ f.len ≤ 5000 ∧ 0 ≤ f.risk ∧ f.risk ≤ 9)
def fibAt (n : Nat) (fs : List Fib) (k : Nat) : Bool := fibB n (fs.getD k default) && (k == 0 || decide (cmpFib (fs.getD (k - 1) default) (fs.getD k default) ≤ 0))
def goodB (xs : List ByteArray) (fs : List Fib) : Bool :=
  decide (2 ≤ xs.length ∧ xs.length ≤ 8) && decide (fs.length ≤ 14) && allB (nameAt xs) xs.length && allB (fibAt xs.length fs) fs.length
theorem goodB_len {xs : List ByteArray} {fs : List Fib} (h : decide (2 ≤ xs.length ∧ xs.length ≤ 8) = false) : goodB xs fs = false := by unfold goodB; rw [h]; simp
theorem goodB_fib {xs : List ByteArray} {fs : List Fib} (h : decide (fs.length ≤ 14) = false) : goodB xs fs = false := by unfold goodB; rw [h]; simp
theorem goodB_name {xs : List ByteArray} {fs : List Fib} {k : Nat} (hk : k < xs.length) (h : nameAt xs k = false) : goodB xs fs = false := by unfold goodB; rw [allB_no hk h]; simp
theorem goodB_fibAt {xs : List ByteArray} {fs : List Fib} {k : Nat} (hk : k < fs.length) (h : fibAt xs.length fs k = false) : goodB xs fs = false := by unfold goodB; rw [allB_no hk h]; simp
theorem goodB_rest {xs : List ByteArray} {fs : List Fib} (h1 : allTo (nameAt xs) xs.length) (h2 : allTo (fibAt xs.length fs) fs.length) :
    goodB xs fs = (decide (2 ≤ xs.length ∧ xs.length ≤ 8) && decide (fs.length ≤ 14)) := by unfold goodB; rw [allB_iff.2 h1, allB_iff.2 h2]; simp
theorem fib_cases (n : Nat) (f : Fib) : decide (f.a < 0) = true ∨ (decide (f.a < 0) = false ∧ (decide (f.b ≤ f.a) = true ∨ (decide (f.b ≤ f.a) = false ∧ (decide ((n : Int) ≤ f.b) = true ∨
    (decide ((n : Int) ≤ f.b) = false ∧ (inB 1 5000 f.len = false ∨ (inB 1 5000 f.len = true ∧ (inB 0 9 f.risk = false ∨ inB 0 9 f.risk = true)))))))) := by
  cases decide (f.a < 0) <;> cases decide (f.b ≤ f.a) <;> cases decide ((n : Int) ≤ f.b) <;> cases inB 1 5000 f.len <;> cases inB 0 9 f.risk <;> simp
theorem fibB_eq (n : Nat) (f : Fib) : fibB n f = (!decide (f.a < 0) && !decide (f.b ≤ f.a) && !decide ((n : Int) ≤ f.b) && inB 1 5000 f.len && inB 0 9 f.risk) := by
  unfold fibB inB; rw [Bool.eq_iff_iff]; simp; omega
theorem getD_of {α : Type} {l : List α} {k : Nat} {x d : α} (h : l[k]? = some x) : l.getD k d = x := by simp [List.getD, h]
theorem get_of {α : Type} {l : List α} {k n : Nat} (hl : l.length = n) (hk : k < n) : ∃ x, l[k]? = some x := ⟨l[k]'(by omega), List.getElem?_eq_getElem _⟩
end Go.Proofs.YtonndpcmadnpmaaDoor
/- eqIntSS, walked. Conditions: at most 1048576 rows and numbers in a row. -/
namespace Go.Proofs.YtonndpcmadnpmaaDoor
open Go.RowKit
/-- Rows of numbers as they read. -/
def SeesSS (w : World) (A : Option Addr) (n : Nat) (ss : List Sl) (rows : List (List Int)) : Prop :=
  Sees elSl w w.heap.size A n ss ∧ ss.length = rows.length ∧ ∀ (i : Nat) s r, ss[i]? = some s → rows[i]? = some r → s.n = r.length ∧ Sees elInt w w.heap.size s.A s.n r
theorem OwnsSS.sees {w : World} {base n c : Nat} {A : Option Addr} {ss : List Sl} {rows : List (List Int)} (h : OwnsSS w base (.slice A n c) ss rows) : SeesSS w A ss.length ss rows := by
  refine ⟨h.1.sees, h.2.1, fun i s r h1 h2 => ?_⟩
  have ho := h.2.2.1 i s r h1 h2
  obtain ⟨A', c', hv, _, _, hs⟩ := ho.form
  unfold slV at hv
  injection hv with e1 e2 e3
  exact ⟨e2, by rw [e1, e2]; exact hs⟩
theorem SeesSS.grow {w w' : World} {A : Option Addr} {n : Nat} {ss : List Sl} {rows : List (List Int)} (h : SeesSS w A n ss rows) (hb : Below w.heap.size w w') : SeesSS w' A n ss rows :=
  ⟨(h.1.grow hb).more hb.size, h.2.1, fun i s r h1 h2 => ⟨(h.2.2 i s r h1 h2).1, ((h.2.2 i s r h1 h2).2.grow hb).more hb.size⟩⟩
end Go.Proofs.YtonndpcmadnpmaaDoor
/- markIntSS, walked. Conditions: at most 1048576 rows and numbers in a row; the last mark below 2^40. -/
namespace Go.Proofs.YtonndpcmadnpmaaDoor
open Go.RowKit
/-- The mark at which row j begins. -/
def offS (k : Int) (rows : List (List Int)) (j : Nat) : Int := k + ((((rows.take j).map List.length).sum : Nat) : Int)
theorem offS_zero (k : Int) (rows : List (List Int)) : offS k rows 0 = k := by simp [offS]
theorem offS_succ {k : Int} {rows : List (List Int)} {j : Nat} {r : List Int} (h : rows[j]? = some r) : offS k rows (j + 1) = offS k rows j + (r.length : Int) := by
  unfold offS
  rw [List.take_add_one, h]
  simp
  omega
theorem offS_ge (k : Int) (rows : List (List Int)) (j : Nat) : k ≤ offS k rows j := by unfold offS; omega
theorem offS_le {k : Int} {rows : List (List Int)} : ∀ {d j : Nat}, j + d = rows.length → offS k rows j ≤ offS k rows rows.length := by
  intro d
  induction d with
  | zero => intro j h; rw [show j = rows.length by omega]; exact Int.le_refl _
  | succ d ih =>
    intro j h
    have h1 := ih (j := j + 1) (by omega)
    obtain ⟨r, hr⟩ : ∃ r, rows[j]? = some r := ⟨rows[j]'(by omega), List.getElem?_eq_getElem _⟩
    rw [offS_succ hr] at h1
    omega
/-- Row i behind j rows' marking. -/
def rowM (k : Int) (rows : List (List Int)) (j i : Nat) (r : List Int) : List Int := if i < j then marks (offS k rows i) r.length else r
/-- All rows, marked. -/
def marksSS (k : Int) (rows : List (List Int)) : List (List Int) := (List.range rows.length).map fun i => marks (offS k rows i) (rows.getD i []).length
theorem marksSS_get {k : Int} {rows : List (List Int)} {i : Nat} {r q : List Int} (h : rows[i]? = some r) (hq : (marksSS k rows)[i]? = some q) : q = marks (offS k rows i) r.length := by
  have hi := (List.getElem?_eq_some_iff.1 h).1
  unfold marksSS at hq
  rw [List.getElem?_map, List.getElem?_range hi] at hq
  simp [h] at hq
  exact hq.symm
end Go.Proofs.YtonndpcmadnpmaaDoor
/- markText, walked: the letter m and the digits. Conditions: the number is at most 2^40 and a bit. -/
namespace Go.Proofs.YtonndpcmadnpmaaDoor
open Go.RowKit Go.WideShapes
/-- The digits of k ahead of out, with fuel. -/
def mtGo : Nat → Nat → List UInt8 → List UInt8
  | 0, _, out => out
  | f + 1, k, out => if k = 0 then out else mtGo f (k / 10) (UInt8.ofNat (48 + k % 10) :: out)
theorem mtGo_zero (f : Nat) (out : List UInt8) : mtGo f 0 out = out := by cases f <;> simp [mtGo]
theorem mtGo_succ {f k : Nat} {out : List UInt8} (hk : 0 < k) (hf : k ≤ f) : ∃ f', k / 10 ≤ f' ∧ mtGo f k out = mtGo f' (k / 10) (UInt8.ofNat (48 + k % 10) :: out) := by
  cases f with
  | zero => omega
  | succ f => exact ⟨f, by omega, by rw [mtGo, if_neg (by omega)]⟩
def mtx (k : Nat) : ByteArray := ⟨(109 :: (if k = 0 then [48] else mtGo k k [])).toArray⟩
theorem bytes_cons (c : UInt8) (out : List UInt8) : (⟨#[c]⟩ : ByteArray) ++ ⟨out.toArray⟩ = ⟨(c :: out).toArray⟩ := by
  apply bytes_inj
  simp [ByteArray.data_append]
end Go.Proofs.YtonndpcmadnpmaaDoor
/- markStringS and heldStringS, walked. Conditions: at most 1048576 strings, marks below 2^40. -/
namespace Go.Proofs.YtonndpcmadnpmaaDoor
open Go.RowKit
/-- The texts of the numbers from k on. -/
def smarks (k : Int) (n : Nat) : List ByteArray := (List.range n).map fun (j : Nat) => mtx (k + (j : Int)).toNat
theorem smarks_len (k : Int) (n : Nat) : (smarks k n).length = n := by simp [smarks]
theorem smarks_get {k : Int} {n j : Nat} (h : j < n) : (smarks k n)[j]? = some (mtx (k + (j : Int)).toNat) := by simp [smarks, h]
end Go.Proofs.YtonndpcmadnpmaaDoor
/- toStringS, walked: a new row that holds the same strings. Conditions: at most 1048576 of them. -/
namespace Go.Proofs.YtonndpcmadnpmaaDoor
open Go.RowKit
theorem str_info : (Tryd.prog.info? 9).map (fun i => (i.zero, i.size, i.bytes)) = some (some (.string ByteArray.empty), 1, 16) := by kernel_rfl
end Go.Proofs.YtonndpcmadnpmaaDoor
/- toFiber and toFiberS, walked: a new row that holds the same fibers. Conditions: at most 1048576 of them. -/
namespace Go.Proofs.YtonndpcmadnpmaaDoor
open Go.RowKit
end Go.Proofs.YtonndpcmadnpmaaDoor
/- toNetwork, walked: a network in new memory. Conditions: at most 1048576 names and fibers. -/
namespace Go.Proofs.YtonndpcmadnpmaaDoor
open Go.RowKit
/-- A network of the call's own. -/
def NetOwn (w : World) (base : Nat) (A : Option Addr) (n c : Nat) (A' : Option Addr) (m d : Nat) (xs : List ByteArray) (fs : List Fib) : Prop :=
  n ≤ c ∧ c ≤ maxLen ∧ m ≤ d ∧ d ≤ maxLen ∧ xs.length = n ∧ fs.length = m ∧ Owns elStr w base 9 (.slice A n c) xs ∧ Owns elFib w base 0 (.slice A' m d) fs
section
variable {w w' : World} {base n c m d : Nat} {A A' : Option Addr} {xs : List ByteArray} {fs : List Fib}
theorem NetOwn.below (h : NetOwn w base A n c A' m d xs fs) (hb : Below w.heap.size w w') : NetOwn w' base A n c A' m d xs fs :=
  let ⟨a, b, c, d, e, f, g, i⟩ := h; ⟨a, b, c, d, e, f, g.below hb, i.below hb⟩
theorem NetOwn.from_ {base' : Nat} (h : NetOwn w base A n c A' m d xs fs) (hb : base' ≤ base) : NetOwn w base' A n c A' m d xs fs :=
  let ⟨a, b, c, d, e, f, g, i⟩ := h; ⟨a, b, c, d, e, f, g.base hb, i.base hb⟩
theorem NetOwn.strs (h : NetOwn w base A n c A' m d xs fs) : Sees elStr w w.heap.size A n xs := by
  obtain ⟨_, _, _, _, e, _, g, _⟩ := h
  obtain ⟨A1, c1, hv, _, _, hs⟩ := g.form
  injection hv with h1 h2 h3; subst h1; rw [e] at hs; exact hs
theorem NetOwn.fibs (h : NetOwn w base A n c A' m d xs fs) : Sees elFib w w.heap.size A' m fs := by
  obtain ⟨_, _, _, _, _, f, _, i⟩ := h
  obtain ⟨A1, c1, hv, _, _, hs⟩ := i.form
  injection hv with h1 h2 h3; subst h1; rw [f] at hs; exact hs
end
end Go.Proofs.YtonndpcmadnpmaaDoor
/- markFiberS, heldFiberS, markNetwork, heldNetwork, walked. Conditions: at most 1048576 elements, marks below 2^39. -/
namespace Go.Proofs.YtonndpcmadnpmaaDoor
open Go.RowKit
/-- The fibers that four numbers each make, from k on. -/
def fmarks (k : Int) (n : Nat) : List Fib := (List.range n).map fun (j : Nat) => ⟨k + 4 * (j : Int), k + 4 * (j : Int) + 1, k + 4 * (j : Int) + 1 + 1, k + 4 * (j : Int) + 1 + 1 + 1⟩
theorem fmarks_len (k : Int) (n : Nat) : (fmarks k n).length = n := by simp [fmarks]
theorem fmarks_get {k : Int} {n j : Nat} (h : j < n) : (fmarks k n)[j]? = some ⟨k + 4 * (j : Int), k + 4 * (j : Int) + 1, k + 4 * (j : Int) + 1 + 1, k + 4 * (j : Int) + 1 + 1 + 1⟩ := by simp [fmarks, h]
theorem Touch.set4 {S : Nat → Prop} (w : World) {g : Nat} (hg : S g) (j : Nat) (f : Fib) :
    Touch S w ((((w.setCell ⟨g, j * 4, none⟩ (.int .i64 f.a)).setCell ⟨g, j * 4 + 1, none⟩ (.int .i64 f.b)).setCell ⟨g, j * 4 + 2, none⟩ (.int .i64 f.len)).setCell ⟨g, j * 4 + 3, none⟩ (.int .i64 f.risk)) :=
  (((Touch.set w (p := ⟨g, j * 4, none⟩) hg _).trans (Touch.set _ (p := ⟨g, j * 4 + 1, none⟩) hg _)).trans (Touch.set _ (p := ⟨g, j * 4 + 2, none⟩) hg _)).trans (Touch.set _ (p := ⟨g, j * 4 + 3, none⟩) hg _)
section
variable {base n c m d : Nat} {A A' : Option Addr} {xs : List ByteArray} {fs : List Fib}
end
end Go.Proofs.YtonndpcmadnpmaaDoor
/- slices.Index and slices.Contains over strings, walked. Conditions: none. -/
namespace Go.Proofs.YtonndpcmadnpmaaDoor
open Go.RowKit
end Go.Proofs.YtonndpcmadnpmaaDoor
/- compareFibers, walked: it returns cmpFib. Conditions: none. -/
namespace Go.Proofs.YtonndpcmadnpmaaDoor
open Go.RowKit
end Go.Proofs.YtonndpcmadnpmaaDoor
/- IsValidNetwork of the program, walked: it returns goodB. Conditions: none. -/
namespace Go.Proofs.YtonndpcmadnpmaaDoor
open Go.RowKit
end Go.Proofs.YtonndpcmadnpmaaDoor
/- The reference's looks at a fiber, walked. Conditions: none. -/
namespace Go.Proofs.YtonndpcmadnpmaaDoor
open Go.RowKit
theorem fibB_eq2 (n : Nat) (f : Fib) : fibB n f = (inB 0 ((n : Int) - 1) f.a && inB (f.a + 1) ((n : Int) - 1) f.b && inB 1 5000 f.len && inB 0 9 f.risk) := by
  unfold fibB inB; rw [Bool.eq_iff_iff]; simp; omega
/-- A fiber whose numbers are small. -/
def smallF (f : Fib) : Prop := (0 ≤ f.a ∧ f.a ≤ 1048576) ∧ (0 ≤ f.b ∧ f.b ≤ 1048576) ∧ (0 ≤ f.len ∧ f.len ≤ 1048576) ∧ (0 ≤ f.risk ∧ f.risk ≤ 1048576)
theorem smallF_of {n : Nat} {f : Fib} (hn : n ≤ 1048576) (h : fibB n f = true) : smallF f := by unfold fibB at h; unfold smallF; simp at h; omega
end Go.Proofs.YtonndpcmadnpmaaDoor
/- The reference's l2Find, walked. Conditions: none. -/
namespace Go.Proofs.YtonndpcmadnpmaaDoor
open Go.RowKit
end Go.Proofs.YtonndpcmadnpmaaDoor
/- The reference's look at a name, walked: it answers as nameB. Conditions: none. -/
namespace Go.Proofs.YtonndpcmadnpmaaDoor
open Go.RowKit
/-- Behind the first byte's look, the rest of the reference's look. -/
theorem nameB_first {l : List UInt8} {c : UInt8} (hc : l[0]? = some c) (h : letB c = false) : nameB l = false := nameB_no hc (by unfold okAt; simp [h])
theorem nameB_long {l : List UInt8} (h : inB 1 8 l.length = false) : nameB l = false := by
  unfold nameB inB at *
  rw [Bool.and_eq_false_iff]
  refine .inl ?_
  rw [← h]; rw [Bool.eq_iff_iff]; simp only [decide_eq_true_eq]; omega
def sgTo (l : List UInt8) (k : Nat) : Prop := ∀ j c, j < k → l[j]? = some c → (letB c || digB c) = true
theorem sgTo_succ {l : List UInt8} {k : Nat} {c : UInt8} (h : sgTo l k) (hc : l[k]? = some c) (ho : (letB c || digB c) = true) : sgTo l (k + 1) := by
  intro j d hj hd
  rcases Nat.lt_succ_iff_lt_or_eq.1 hj with hlt | rfl
  · exact h j d hlt hd
  · rw [hc] at hd; injection hd with hd; subst hd; exact ho
theorem nameB_sg {l : List UInt8} {c0 : UInt8} (h : sgTo l l.length) (hc : l[0]? = some c0) (h0 : letB c0 = true) (hl : inB 1 8 l.length = true) : nameB l = true := by
  rw [nameB_yes, hl]
  intro j c hj hjc
  have := h j c hj hjc
  unfold okAt
  rcases Nat.eq_zero_or_pos j with rfl | hp
  · rw [hc] at hjc; injection hjc with hjc; subst hjc; simp [h0]
  · have : (j == 0) = false := by simp; omega
    rw [this]; simpa using h j c hj hjc
theorem nameB_bad {l : List UInt8} {k : Nat} {c : UInt8} (hc : l[k]? = some c) (h : (letB c || digB c) = false) : nameB l = false := by
  rw [Bool.or_eq_false_iff] at h
  exact nameB_no hc (by unfold okAt; simp [h.1, h.2])
end Go.Proofs.YtonndpcmadnpmaaDoor
/- The reference's l2Good, walked: it returns goodB. Conditions: none. -/
namespace Go.Proofs.YtonndpcmadnpmaaDoor
open Go.RowKit
theorem find_take {xs : List ByteArray} {k : Nat} {x : ByteArray} (hx : xs[k]? = some x) : hasB (xs.take k) x = true ↔ findI xs x ≠ (k : Int) := by
  rw [hasB_iff]
  constructor
  · intro h e
    obtain ⟨j, hj, hj2⟩ := List.mem_iff_getElem.1 h
    have hjk : j < k := by rw [List.length_take] at hj; omega
    have hjl : j < xs.length := by rw [List.length_take] at hj; omega
    have hxj : xs[j]? = some x := by rw [List.getElem?_eq_getElem hjl, ← hj2, List.getElem_take]
    -- the first place of x lies at j or before
    have key : ∀ (l : List ByteArray) (k0 j : Nat), l[j]? = some x → findFrom x l k0 ≤ ((k0 + j : Nat) : Int) := by
      intro l
      induction l with
      | nil => intro k0 j h; simp at h
      | cons y l ih =>
        intro k0 j h
        unfold findFrom
        by_cases hy : y = x
        · rw [if_pos hy]; omega
        · rw [if_neg hy]
          cases j with
          | zero => simp at h; exact absurd h hy
          | succ j => have := ih (k0 + 1) j (by simpa using h); omega
    have := key xs 0 j hxj
    unfold findI at e
    omega
  · intro h
    refine Classical.byContradiction fun hn => h ?_
    refine findI_at ?_ hx
    intro j hj hxj
    refine hn (List.mem_iff_getElem.2 ⟨j, ?_, ?_⟩)
    · rw [List.length_take]; have := (List.getElem?_eq_some_iff.1 hx).1; omega
    · obtain ⟨h1, h2⟩ := List.getElem?_eq_some_iff.1 hxj
      rw [List.getElem_take]; exact h2
theorem goodB_all {xs : List ByteArray} {fs : List Fib} (h1 : decide (2 ≤ xs.length ∧ xs.length ≤ 8) = true) (h2 : decide (fs.length ≤ 14) = true) (h3 : allTo (nameAt xs) xs.length) (h4 : allTo (fibAt xs.length fs) fs.length) : goodB xs fs = true := by
  rw [goodB_rest h3 h4, h1, h2]; rfl
end Go.Proofs.YtonndpcmadnpmaaDoor
/- A network in memory, under one word; its two looks under that word. Conditions: none. -/
namespace Go.Proofs.YtonndpcmadnpmaaDoor
open Go.RowKit
/-- The value is a network that shows the names xs and the fibers fs. -/
def NetIs (w : World) (A : Option Addr) (n c : Nat) (A' : Option Addr) (m d : Nat) (xs : List ByteArray) (fs : List Fib) : Prop :=
  (n ≤ c ∧ n ≤ 1048576) ∧ (m ≤ d ∧ m ≤ 1048576) ∧ Sees elStr w w.heap.size A n xs ∧ Sees elFib w w.heap.size A' m fs ∧ ∀ x ∈ xs, x.size ≤ maxLen
section
variable {w w' : World} {n c m d : Nat} {A A' : Option Addr} {xs : List ByteArray} {fs : List Fib}
theorem NetIs.grow (h : NetIs w A n c A' m d xs fs) (hb : Below w.heap.size w w') : NetIs w' A n c A' m d xs fs :=
  ⟨h.1, h.2.1, (h.2.2.1.grow hb).more hb.size, (h.2.2.2.1.grow hb).more hb.size, h.2.2.2.2⟩
theorem NetIs.strs (h : NetIs w A n c A' m d xs fs) : Sees elStr w w.heap.size A n xs := h.2.2.1
theorem NetIs.fibs (h : NetIs w A n c A' m d xs fs) : Sees elFib w w.heap.size A' m fs := h.2.2.2.1
theorem NetIs.nle (h : NetIs w A n c A' m d xs fs) : n ≤ 1048576 := h.1.2
theorem NetIs.mle (h : NetIs w A n c A' m d xs fs) : m ≤ 1048576 := h.2.1.2
theorem NetIs.xlen (h : NetIs w A n c A' m d xs fs) : xs.length = n := h.2.2.1.len
theorem NetIs.flen (h : NetIs w A n c A' m d xs fs) : fs.length = m := h.2.2.2.1.len
theorem NetOwn.is {base : Nat} (h : NetOwn w base A n c A' m d xs fs) (hn : n ≤ 1048576) (hm : m ≤ 1048576) (hx : ∀ x ∈ xs, x.size ≤ maxLen) : NetIs w A n c A' m d xs fs :=
  ⟨⟨h.1, hn⟩, ⟨h.2.2.1, hm⟩, h.strs, h.fibs, hx⟩
end
theorem goodB_bd {xs : List ByteArray} {fs : List Fib} (h : goodB xs fs = true) : 2 ≤ xs.length ∧ xs.length ≤ 8 ∧ fs.length ≤ 14 := by
  unfold goodB at h; simp at h; omega
theorem goodB_fibB {xs : List ByteArray} {fs : List Fib} (h : goodB xs fs = true) {f : Fib} (hf : f ∈ fs) : fibB xs.length f = true := by
  obtain ⟨k, hk, e⟩ := List.mem_iff_getElem.1 hf
  unfold goodB at h
  rw [Bool.and_eq_true] at h
  have := allB_iff.1 h.2 k hk
  unfold fibAt at this
  rw [Bool.and_eq_true, getD_of (x := f) (by rw [List.getElem?_eq_getElem hk, e])] at this
  exact this.1
end Go.Proofs.YtonndpcmadnpmaaDoor
/- The other end of a fiber: the program's and the reference's functions, walked. Conditions: none. -/
namespace Go.Proofs.YtonndpcmadnpmaaDoor
open Go.RowKit
def otherF (f : Fib) (v : Int) : Int := if v = f.a then f.b else if v = f.b then f.a else -1
theorem otherF_bd {n : Nat} {f : Fib} (h : fibB n f = true) (v : Int) : -1 ≤ otherF f v ∧ otherF f v < n := by
  unfold fibB at h; simp at h; unfold otherF; split <;> (try split) <;> omega
theorem otherF_out {n : Nat} {f : Fib} {v : Int} (h : fibB n f = true) (hv : inB 0 ((n : Int) - 1) v = false) : otherF f v = -1 := by
  unfold fibB at h; simp at h; unfold inB at hv; simp at hv; unfold otherF; rw [if_neg (by omega), if_neg (by omega)]
section
variable {n c m d : Nat} {A A' : Option Addr} {xs : List ByteArray} {fs : List Fib}
end
end Go.Proofs.YtonndpcmadnpmaaDoor
/- Routes: the nodes they come by, in plain Lean; a route in memory. Conditions: none. -/
namespace Go.Proofs.YtonndpcmadnpmaaDoor
open Go.RowKit
/-- The node after k fibers. -/
def atW (fs : List Fib) (s : Int) (ids : List Int) : Nat → Int
  | 0 => s
  | k + 1 => otherF (fs.getD (ids.getD k 0).toNat ⟨0, 0, 0, 0⟩) (atW fs s ids k)
/-- The nodes up to there. -/
def outW (fs : List Fib) (s : Int) (ids : List Int) (k : Nat) : List Int := (List.range (k + 1)).map (atW fs s ids)
theorem outW_len (fs : List Fib) (s : Int) (ids : List Int) (k : Nat) : (outW fs s ids k).length = k + 1 := by simp [outW]
theorem outW_zero (fs : List Fib) (s : Int) (ids : List Int) : outW fs s ids 0 = [s] := rfl
theorem outW_succ (fs : List Fib) (s : Int) (ids : List Int) (k : Nat) : outW fs s ids (k + 1) = outW fs s ids k ++ [atW fs s ids (k + 1)] := by unfold outW; rw [List.range_succ (n := k + 1), List.map_append]; rfl
theorem outW_get (fs : List Fib) (s : Int) (ids : List Int) (k : Nat) : (outW fs s ids k)[k]? = some (atW fs s ids k) := by simp [outW]
theorem atW_succ {fs : List Fib} {s : Int} {ids : List Int} {k : Nat} {i : Int} {f : Fib} (hi : ids[k]? = some i) (hf : fs[i.toNat]? = some f) : atW fs s ids (k + 1) = otherF f (atW fs s ids k) := by
  show otherF _ _ = _
  rw [getD_of hi, getD_of hf]
/-- Step k is one that a route may take. -/
def okW (m : Nat) (fs : List Fib) (s : Int) (ids : List Int) (k : Nat) : Bool :=
  inB 0 ((m : Int) - 1) (ids.getD k 0) && (!decide (atW fs s ids (k + 1) < 0) && !hasB (outW fs s ids k) (atW fs s ids (k + 1)))
/-- Is it a route (of a network that is valid)? -/
def rtB (n : Nat) (fs : List Fib) (s : Int) (ids : List Int) : Bool := inB 0 ((n : Int) - 1) s && (!(ids.length == 0) && allB (okW fs.length fs s ids) ids.length)
/-- Its nodes; none of what is no route. -/
def rtL (n : Nat) (fs : List Fib) (s : Int) (ids : List Int) : List Int := if rtB n fs s ids then outW fs s ids ids.length else []
theorem rtL_yes {n : Nat} {fs : List Fib} {s : Int} {ids : List Int} (h : rtB n fs s ids = true) : rtL n fs s ids = outW fs s ids ids.length := if_pos h
theorem rtL_no {n : Nat} {fs : List Fib} {s : Int} {ids : List Int} (h : rtB n fs s ids = false) : rtL n fs s ids = [] := by unfold rtL; rw [h]; rfl
/-- .. of a network that may be invalid. -/
def routeB (xs : List ByteArray) (fs : List Fib) (s : Int) (ids : List Int) : Bool := goodB xs fs && rtB xs.length fs s ids
/-- A route lies in memory. -/
def RtIs (w : World) (R : Option Addr) (k e : Nat) (ids : List Int) : Prop := (k ≤ e ∧ k ≤ 1048576) ∧ Sees elInt w w.heap.size R k ids
section
variable {w w' : World} {R : Option Addr} {k e : Nat} {ids : List Int}
theorem RtIs.grow (h : RtIs w R k e ids) (hb : Below w.heap.size w w') : RtIs w' R k e ids := ⟨h.1, (h.2.grow hb).more hb.size⟩
theorem RtIs.len (h : RtIs w R k e ids) : ids.length = k := h.2.len
theorem RtIs.le (h : RtIs w R k e ids) : k ≤ 1048576 := h.1.2
end
end Go.Proofs.YtonndpcmadnpmaaDoor
/- eqStringS, walked: two slices that show one list are equal. Conditions: none. -/
namespace Go.Proofs.YtonndpcmadnpmaaDoor
open Go.RowKit
end Go.Proofs.YtonndpcmadnpmaaDoor
/- eqFiber, eqFiberS and eqNetwork, walked: what shows one list is equal. Conditions: none. -/
namespace Go.Proofs.YtonndpcmadnpmaaDoor
open Go.RowKit
end Go.Proofs.YtonndpcmadnpmaaDoor
/- heldIntSS, walked. Conditions: at most 1048576 rows and numbers in a row; the last mark below 2^40. -/
namespace Go.Proofs.YtonndpcmadnpmaaDoor
open Go.RowKit
end Go.Proofs.YtonndpcmadnpmaaDoor
/- A ledger of what a walk has made in memory: the blocks of each thing, and how it reads. Conditions: none. -/
namespace Go.Proofs.YtonndpcmadnpmaaDoor
open Go.RowKit
/-- One thing in memory: its blocks; how it reads. -/
structure Thing where
  S : Nat → Prop
  is : World → Prop
  st : ∀ w w' : World, is w → w.heap.size ≤ w'.heap.size → (∀ b, S b → w'.heap[b]? = w.heap[b]?) → is w'
  lies : ∀ w, is w → ∀ b, S b → b < w.heap.size
/-- From w0 to w these things have been made, no two of which share a block; what was there at w0 is as it was. -/
structure Led (w0 w : World) (L : List Thing) : Prop where
  bl : Below w0.heap.size w0 w
  all : ∀ (i : Nat) t, L[i]? = some t → t.is w ∧ ∀ b, t.S b → w0.heap.size ≤ b
  apart : ∀ (i j : Nat) a b, i ≠ j → L[i]? = some a → L[j]? = some b → ∀ k, a.S k → ¬ b.S k
section
variable {w0 w w' : World} {L : List Thing}
theorem Led.nil (w : World) : Led w w [] := ⟨Below.refl _ _, fun i t h => by simp at h, fun i j a b _ h => by simp at h⟩
theorem Led.step (h : Led w0 w L) (hb : Below w.heap.size w w') : Led w0 w' L :=
  ⟨bl_then h.bl hb, fun i t ht => ⟨t.st w w' (h.all i t ht).1 hb.size (fun b hS => hb.block b (t.lies w (h.all i t ht).1 b hS)), (h.all i t ht).2⟩, h.apart⟩
theorem Led.put (h : Led w0 w L) (hb : Below w.heap.size w w') (t : Thing) (hS : ∀ b, t.S b → w.heap.size ≤ b) (hi : t.is w') : Led w0 w' (t :: L) := by
  have h' := h.step hb
  refine ⟨h'.bl, fun i u hu => ?_, fun i j a b hij ha hb2 k h1 h2 => ?_⟩
  · cases i with
    | zero => simp at hu; subst hu; exact ⟨hi, fun b hb3 => Nat.le_trans h.bl.size (hS b hb3)⟩
    | succ i => simp at hu; exact h'.all i u hu
  · cases i with
    | zero =>
      cases j with
      | zero => exact hij rfl
      | succ j =>
        simp at ha hb2; subst ha
        have := hS k h1
        have := b.lies w (h.all j b hb2).1 k h2
        omega
    | succ i =>
      cases j with
      | zero =>
        simp at ha hb2; subst hb2
        have := hS k h2
        have := a.lies w (h.all i a ha).1 k h1
        omega
      | succ j =>
        simp at ha hb2
        exact h.apart i j a b (by omega) ha hb2 k h1 h2
theorem Led.get (h : Led w0 w L) (i : Nat) {t : Thing} (hi : L[i]? = some t) : t.is w := (h.all i t hi).1
theorem Led.touch (h : Led w0 w L) (i : Nat) {t t' : Thing} (hi : L[i]? = some t) (hS : t'.S = t.S) (ht : Touch t.S w w') (his : t'.is w') : Led w0 w' (L.set i t') := by
  refine ⟨h.bl.trans (ht.below (B := w0.heap.size) (h.all i t hi).2 h.bl.size), fun j u hu => ?_, fun j k a b hjk ha hb x h1 h2 => ?_⟩
  · rw [List.getElem?_set] at hu
    by_cases hij : i = j
    · subst hij
      rw [if_pos rfl] at hu
      split at hu
      · injection hu with hu; subst hu; exact ⟨his, by rw [hS]; exact (h.all i t hi).2⟩
      · cases hu
    · rw [if_neg hij] at hu
      exact ⟨u.st w w' (h.all j u hu).1 ht.size (fun b hb => ht.block b (u.lies w (h.all j u hu).1 b hb) (h.apart j i u t (by omega) hu hi b hb)), (h.all j u hu).2⟩
  · have key : ∀ (j : Nat) a, (L.set i t')[j]? = some a → ∃ a', L[j]? = some a' ∧ a.S = a'.S := by
      intro j a ha
      rw [List.getElem?_set] at ha
      by_cases hij : i = j
      · subst hij
        rw [if_pos rfl] at ha
        split at ha
        · injection ha with ha; subst ha; exact ⟨t, hi, hS⟩
        · cases ha
      · rw [if_neg hij] at ha; exact ⟨a, ha, rfl⟩
    obtain ⟨a', ha', ea⟩ := key j a ha
    obtain ⟨b', hb', eb⟩ := key k b hb
    rw [ea] at h1; rw [eb] at h2
    exact h.apart j k a' b' hjk ha' hb' x h1 h2
/-- Forget the newest but n. -/
theorem Led.drop (h : Led w0 w L) (n : Nat) : Led w0 w (L.drop n) :=
  ⟨h.bl, fun i t hi => h.all (n + i) t (by rwa [List.getElem?_drop] at hi), fun i j a b hij ha hb => h.apart (n + i) (n + j) a b (by omega) (by rwa [List.getElem?_drop] at ha) (by rwa [List.getElem?_drop] at hb)⟩
theorem Owns.st {α : Type} {E : El α} {base : Nat} {e : TypeId} {v : Value} {xs : List α} (h : Owns E w base e v xs) (hk : ∀ b, v.ownBlock = some b → w'.heap[b]? = w.heap[b]?) : Owns E w' base e v xs := by
  refine ⟨h.1, ?_⟩
  rcases h.2 with h0 | ⟨g, cap, cur, hv, hg, hh, r⟩
  · exact .inl h0
  · exact .inr ⟨g, cap, cur, hv, hg, (hk g (by rw [hv]; rfl)).trans hh, r⟩
end
def tBlk (g : Nat) (e : TypeId) (cur : Array Value) : Thing := ⟨fun b => b = g, fun w => Blk w g e cur, fun _ _ h _ hb => (hb g rfl).trans h, fun _ h b e => by subst e; exact h.lt⟩
def tOwns {α : Type} (E : El α) (base : Nat) (e : TypeId) (v : Value) (xs : List α) : Thing :=
  ⟨fun b => v.ownBlock = some b, fun w => Owns E w base e v xs, fun _ _ h _ hb => h.st hb, fun _ h b e => (h.lies b e).2⟩
def tNet (base : Nat) (A : Option Addr) (n c : Nat) (A' : Option Addr) (m d : Nat) (xs : List ByteArray) (fs : List Fib) : Thing :=
  ⟨fun b => (Value.slice A n c).ownBlock = some b ∨ (Value.slice A' m d).ownBlock = some b, fun w => NetOwn w base A n c A' m d xs fs,
    fun _ _ ⟨a, b, c, d, e, f, g, i⟩ _ hb => ⟨a, b, c, d, e, f, g.st (fun b h => hb b (.inl h)), i.st (fun b h => hb b (.inr h))⟩,
    fun _ ⟨_, _, _, _, _, _, g, i⟩ b e => by rcases e with e | e; exact (g.lies b e).2; exact (i.lies b e).2⟩
def tSS (base : Nat) (v : Value) (ss : List Sl) (rows : List (List Int)) : Thing :=
  ⟨fun b => v.ownBlock = some b ∨ ∃ (i : Nat) (s : Sl), ss[i]? = some s ∧ (slV s).ownBlock = some b, fun w => OwnsSS w base v ss rows,
    fun _ _ ⟨a, b, c, d⟩ _ hb => ⟨a.st (fun b h => hb b (.inl h)), b, fun i s r h1 h2 => (c i s r h1 h2).st (fun g h => hb g (.inr ⟨i, s, h1, h⟩)), d⟩,
    fun _ ⟨a, b, c, _⟩ g e => by
      rcases e with e | ⟨i, s, h1, e⟩
      · exact (a.lies g e).2
      · obtain ⟨r, hr⟩ : ∃ r, rows[i]? = some r := ⟨rows[i]'(by rw [← b]; exact (List.getElem?_eq_some_iff.1 h1).1), List.getElem?_eq_getElem _⟩
        exact ((c i s r h1 hr).lies g e).2⟩
section
variable {w0 w w' : World} {L : List Thing}
theorem Led.blk (h : Led w0 w L) (e : TypeId) (cur : Array Value) : Led w0 (w.alloc (.cells cur e)) (tBlk w.heap.size e cur :: L) :=
  h.put (bl_alloc (Below.refl _ _) _) _ (fun b e => by cases e; exact Nat.le_refl _) (Blk.new w e cur)
theorem Led.owns {α : Type} {E : El α} {e : TypeId} {v : Value} {xs : List α} (h : Led w0 w L) (hb : Below w.heap.size w w') (ho : Owns E w' w.heap.size e v xs) : Led w0 w' (tOwns E w.heap.size e v xs :: L) :=
  h.put hb _ (fun b e => (ho.lies b e).1) ho
theorem Led.net {A A' : Option Addr} {n c m d : Nat} {xs : List ByteArray} {fs : List Fib} (h : Led w0 w L) (hb : Below w.heap.size w w') (ho : NetOwn w' w.heap.size A n c A' m d xs fs) : Led w0 w' (tNet w.heap.size A n c A' m d xs fs :: L) :=
  h.put hb _ (fun b e => by obtain ⟨_, _, _, _, _, _, g, i⟩ := ho; rcases e with e | e; exact (g.lies b e).1; exact (i.lies b e).1) ho
theorem OwnsSS.lies {base : Nat} {v : Value} {ss : List Sl} {rows : List (List Int)} (h : OwnsSS w base v ss rows) {b : Nat} (hb : v.ownBlock = some b ∨ ∃ (i : Nat) (s : Sl), ss[i]? = some s ∧ (slV s).ownBlock = some b) : base ≤ b := by
  rcases hb with e | ⟨i, s, h1, e⟩
  · exact (h.1.lies b e).1
  · obtain ⟨r, hr⟩ : ∃ r, rows[i]? = some r := ⟨rows[i]'(by rw [← h.2.1]; exact (List.getElem?_eq_some_iff.1 h1).1), List.getElem?_eq_getElem _⟩
    exact ((h.2.2.1 i s r h1 hr).lies b e).1
theorem Led.ss {v : Value} {ss : List Sl} {rows : List (List Int)} (h : Led w0 w L) (hb : Below w.heap.size w w') (ho : OwnsSS w' w.heap.size v ss rows) : Led w0 w' (tSS w.heap.size v ss rows :: L) :=
  h.put hb _ (fun _ e => ho.lies e) ho
/-- A network and a row of numbers, made by one call. -/
theorem Led.net_owns {A A' : Option Addr} {n c m d : Nat} {xs : List ByteArray} {fs : List Fib} {v : Value} {is : List Int} (h : Led w0 w L) (hb : Below w.heap.size w w') (ho : NetOwn w' w.heap.size A n c A' m d xs fs) (hi : Owns elInt w' w.heap.size 3 v is) :
    Led w0 w' (tOwns elInt w.heap.size 3 v is :: tNet w.heap.size A n c A' m d xs fs :: L) := by
  have h1 := h.net hb ho
  have h2 := h.owns hb hi
  refine ⟨h1.bl, fun i t ht => ?_, fun i j a b hij ha hb2 k k1 k2 => ?_⟩
  · cases i with
    | zero => exact h2.all 0 t ht
    | succ i => exact h1.all i t ht
  · have key : ∀ k, (tOwns elInt w.heap.size 3 v is).S k → ¬ (tNet w.heap.size A n c A' m d xs fs).S k := by
      intro k e1 e2
      obtain ⟨_, _, _, _, _, _, g, i⟩ := ho
      rcases e2 with e2 | e2
      · exact owns_ne g hi (by decide) k e1 e2
      · exact owns_ne i hi (by decide) k e1 e2
    rcases i with _ | _ | i
    · rcases j with _ | _ | j
      · exact hij rfl
      · simp at ha hb2; subst ha; subst hb2; exact key k k1 k2
      · exact h2.apart 0 (j + 1) a b (by omega) ha hb2 k k1 k2
    · rcases j with _ | _ | j
      · simp at ha hb2; subst ha; subst hb2; exact key k k2 k1
      · exact hij rfl
      · exact h1.apart 0 (j + 1) a b (by omega) ha hb2 k k1 k2
    · rcases j with _ | _ | j
      · exact h2.apart (i + 1) 0 a b (by omega) ha hb2 k k1 k2
      · exact h1.apart (i + 1) 0 a b (by omega) ha hb2 k k1 k2
      · exact h1.apart (i + 1) (j + 1) a b (by omega) ha hb2 k k1 k2
end
/-! ### Marks in words of one shape -/
theorem ss_n {w : World} {base n c : Nat} {A : Option Addr} {ss : List Sl} {rows : List (List Int)} (h : OwnsSS w base (.slice A n c) ss rows) : n = rows.length := by
  obtain ⟨A', c', hv, _⟩ := h.1.form
  injection hv with _ e2 _
  rw [e2, h.2.1]
theorem ss_rows {w : World} {base : Nat} {v : Value} {ss : List Sl} {rows : List (List Int)} (h : (tSS base v ss rows).is w) : ss.length = rows.length := (show OwnsSS w base v ss rows from h).2.1
/-! ### Looks into the ledger -/
section
variable {w0 w : World} {L : List Thing}
theorem Led.cell (h : Led w0 w L) (i j : Nat) {g : Nat} {e : TypeId} {l : List Value} {u : Value} (hi : L[i]? = some (tBlk g e l.toArray)) (hj : l[j]? = some u) : w.cell? ⟨g, j, none⟩ = some u := by
  have hb : Blk w g e l.toArray := h.get i hi
  rw [hb.cell]; simpa using hj
theorem Led.frozen (h : Led w0 w L) (i j : Nat) {g : Nat} {e : TypeId} {l : List Value} (hi : L[i]? = some (tBlk g e l.toArray)) : w.frozen? ⟨g, j, none⟩ = false := Blk.frozen (h.get i hi) j
theorem Led.seesI (h : Led w0 w L) (i : Nat) {base c : Nat} {A : Option Addr} {xs : List Int} (hi : L[i]? = some (tOwns elInt base 3 (.slice A xs.length c) xs)) : Sees elInt w w.heap.size A xs.length xs := Owns.sees (h.get i hi)
theorem Led.rt (h : Led w0 w L) (i : Nat) {base c : Nat} {A : Option Addr} {xs : List Int} (hi : L[i]? = some (tOwns elInt base 3 (.slice A xs.length c) xs)) (hk : xs.length ≤ 1048576) : RtIs w A xs.length c xs := by
  have ho : Owns elInt w base _ _ xs := h.get i hi
  obtain ⟨A', c', hv, h1, _, _⟩ := ho.form
  injection hv with _ _ e3
  exact ⟨⟨by omega, hk⟩, ho.sees⟩
theorem Led.netIs (h : Led w0 w L) (i : Nat) {base n c m d : Nat} {A A' : Option Addr} {xs : List ByteArray} {fs : List Fib} (hi : L[i]? = some (tNet base A n c A' m d xs fs)) (hn : n ≤ 1048576) (hm : m ≤ 1048576) (hx : ∀ x ∈ xs, x.size ≤ maxLen) : NetIs w A n c A' m d xs fs :=
  NetOwn.is (h.get i hi) hn hm hx
/-- A block made by the walk, under the walk's name for its address. -/
theorem Led.blk_ (h : Led w0 w L) (g : Nat) (hg : g = w.heap.size) (e : TypeId) (cur : Array Value) : Led w0 (w.alloc (.cells cur e)) (tBlk g e cur :: L) := by subst hg; exact h.blk e cur
end
end Go.Proofs.YtonndpcmadnpmaaDoor
/- The ledger in a function's own walk: appends, stores, new rows. Conditions: at most 1099511627776 elements. -/
namespace Go.Proofs.YtonndpcmadnpmaaDoor
open Go.RowKit
section
variable {w0 w w' : World} {L : List Thing}
/-- One thing grows: into its own blocks or into new ones. -/
theorem Led.regrow (h : Led w0 w L) (i : Nat) {t t' : Thing} (hi : L[i]? = some t) (ht : Touch t.S w w') (hS : ∀ b, t'.S b → t.S b ∨ w.heap.size ≤ b) (his : t'.is w') : Led w0 w' (L.set i t') := by
  refine ⟨h.bl.trans (ht.below (B := w0.heap.size) (h.all i t hi).2 h.bl.size), fun j u hu => ?_, fun j k a b hjk ha hb x h1 h2 => ?_⟩
  · rw [List.getElem?_set] at hu
    by_cases hij : i = j
    · subst hij
      rw [if_pos rfl] at hu
      split at hu
      · injection hu with hu; subst hu
        refine ⟨his, fun b hb => ?_⟩
        rcases hS b hb with h1 | h1
        · exact (h.all i t hi).2 b h1
        · exact Nat.le_trans h.bl.size h1
      · cases hu
    · rw [if_neg hij] at hu
      exact ⟨u.st w w' (h.all j u hu).1 ht.size (fun b hb => ht.block b (u.lies w (h.all j u hu).1 b hb) (h.apart j i u t (by omega) hu hi b hb)), (h.all j u hu).2⟩
  · have key : ∀ (j : Nat) a, (L.set i t')[j]? = some a → (j = i ∧ a = t') ∨ (j ≠ i ∧ L[j]? = some a) := by
      intro j a ha
      rw [List.getElem?_set] at ha
      by_cases hij : i = j
      · subst hij
        rw [if_pos rfl] at ha
        split at ha
        · injection ha with ha; exact .inl ⟨rfl, ha.symm⟩
        · cases ha
      · rw [if_neg hij] at ha; exact .inr ⟨fun e => hij e.symm, ha⟩
    rcases key j a ha with ⟨rfl, rfl⟩ | ⟨hji, ha'⟩
    · rcases key k b hb with ⟨rfl, rfl⟩ | ⟨hki, hb'⟩
      · exact hjk rfl
      · rcases hS x h1 with h3 | h3
        · exact h.apart j k t b hjk hi hb' x h3 h2
        · have := b.lies w (h.all k b hb').1 x h2; omega
    · rcases key k b hb with ⟨rfl, rfl⟩ | ⟨hki, hb'⟩
      · rcases hS x h2 with h3 | h3
        · exact h.apart j k a t hjk ha' hi x h1 h3
        · have := a.lies w (h.all j a ha').1 x h1; omega
      · exact h.apart j k a b hjk ha' hb' x h1 h2
/-- A store into a block of the ledger. -/
theorem Led.set (h : Led w0 w L) (i : Nat) {g : Nat} {e : TypeId} {l : List Value} (hi : L[i]? = some (tBlk g e l.toArray)) (j : Nat) (u : Value) : Led w0 (w.setCell ⟨g, j, none⟩ u) (L.set i (tBlk g e (l.set j u).toArray)) :=
  h.touch i hi rfl (Touch.set (S := fun b => b = g) w (p := ⟨g, j, none⟩) rfl u) (by
    have hb : Blk w g e l.toArray := h.get i hi
    have := hb.set j u
    have e1 : l.toArray.setIfInBounds j u = (l.set j u).toArray := by simp
    rw [e1] at this
    exact this)
/-- A row made by a call. -/
theorem Led.owns_ {α : Type} {E : El α} {e : TypeId} {v : Value} {xs : List α} {base b0 : Nat} (h : Led w0 w L) (hb : Below w.heap.size w w') (ho : Owns E w' base e v xs) (hB : w.heap.size ≤ base) (h0 : b0 ≤ base) : Led w0 w' (tOwns E b0 e v xs :: L) :=
  h.put hb (tOwns E b0 e v xs) (fun b e => Nat.le_trans hB (ho.lies b e).1) (ho.base h0)
/-- A row of no elements, in a block of its own. -/
theorem Led.empty {α : Type} (h : Led w0 w L) (E : El α) (e : TypeId) (g : Nat) (hg : g = w.heap.size) (b0 : Nat) (h0 : b0 ≤ g) : Led w0 (w.alloc (.cells #[] e)) (tOwns E b0 e (.slice (some ⟨g, 0, none⟩) 0 0) [] :: L) := by
  subst hg
  exact h.owns_ (bl_alloc (Below.refl _ _) _) (Owns.of_blk (n := 0) (cap := 0) (cur := #[]) (Blk.new w e #[]) (Nat.le_refl _) rfl (Nat.le_refl _) (by simp) (by decide) (Filled.zero _ _ _)) (Nat.le_refl _) h0
theorem filled_single {α : Type} (E : El α) (x : α) : Filled E (E.cells x).toArray [x] 1 := by
  intro j y hj hy i u hu
  obtain rfl : j = 0 := by omega
  simp at hy; subst hy
  simpa using hu
/-- A row of one element, in a block of its own. -/
theorem Led.single {α : Type} (h : Led w0 w L) (E : El α) (x : α) (e : TypeId) (g : Nat) (hg : g = w.heap.size) (b0 : Nat) (h0 : b0 ≤ g) : Led w0 (w.alloc (.cells (E.cells x).toArray e)) (tOwns E b0 e (.slice (some ⟨g, 0, none⟩) 1 1) [x] :: L) := by
  subst hg
  exact h.owns_ (bl_alloc (Below.refl _ _) _) (Owns.of_blk (n := 1) (cap := 1) (cur := (E.cells x).toArray) (Blk.new w e _) (Nat.le_refl _) rfl (Nat.le_refl _) (by simp [E.len]) (by decide) (filled_single E x)) (Nat.le_refl _) h0
/-- The nil slice. -/
theorem Led.nilS {α : Type} (h : Led w0 w L) (E : El α) (e : TypeId) (b0 : Nat) : Led w0 w (tOwns E b0 e (.slice none 0 0) [] :: L) :=
  h.put (Below.refl _ _) (tOwns E b0 e (.slice none 0 0) []) (fun b e => by cases e) (World.ownsRow_nil _ _ _ _)
theorem Led.sees {α : Type} {E : El α} (h : Led w0 w L) (i : Nat) {base c n : Nat} {e : TypeId} {A : Option Addr} {xs : List α} (hi : L[i]? = some (tOwns E base e (.slice A n c) xs)) (hn : n = xs.length) : Sees E w w.heap.size A n xs := by
  subst hn
  exact Owns.sees (show Owns E w base e (.slice A xs.length c) xs from h.get i hi)
theorem Led.form {α : Type} {E : El α} (h : Led w0 w L) (i : Nat) {base : Nat} {e : TypeId} {v : Value} {xs : List α} (hi : L[i]? = some (tOwns E base e v xs)) : ∃ A c, v = .slice A xs.length c ∧ xs.length ≤ c := by
  obtain ⟨A, c, h1, h2, _⟩ := Owns.form (show Owns E w base e v xs from h.get i hi)
  exact ⟨A, c, h1, h2⟩
theorem Led.own {α : Type} {E : El α} (h : Led w0 w L) (i : Nat) {base : Nat} {e : TypeId} {v : Value} {xs : List α} (hi : L[i]? = some (tOwns E base e v xs)) : Owns E w base e v xs := h.get i hi
end
/-- A new block shows its one element. -/
theorem sees_new {α : Type} (E : El α) (w : World) (x : α) (e : TypeId) (g : Nat) (hg : g = w.heap.size) : Sees E (w.alloc (.cells (E.cells x).toArray e)) (w.heap.size + 1) (some ⟨g, 0, none⟩) 1 [x] := by
  subst hg
  refine ⟨rfl, .inr ⟨w.heap.size, 0, rfl, Nat.lt_succ_self _, fun k y hy j u hu => ?_⟩⟩
  have hb : Blk (w.alloc (.cells (E.cells x).toArray e)) w.heap.size e (E.cells x).toArray := Blk.new _ _ _
  have hk : k = 0 := by have := (List.getElem?_eq_some_iff.1 hy).1; simp at this; omega
  subst hk
  simp at hy; subst hy
  rw [hb.cell]; simpa using hu
section
variable {P : Program}
/-- append onto a row of the call's own, of whatever is seen. -/
theorem run_append_all {α : Type} {E : El α} {w : World} {base : Nat} {e t ty : TypeId} {v : Value} {xs ys : List α} {A : Option Addr} {n c B : Nat} {i : TypeInfo} {z : Value} (ht : P.underlying t = some (.slice e)) (hi : P.info? e = some i) (hz0 : i.zero = some z) (hz1 : i.size = E.sz)
    (hzs : z.cells.size = E.sz) (ho : Owns E w base e v xs) (hy : Sees E w B A n ys) (h63 : xs.length + n ≤ 1099511627776) (hby : i.bytes ≤ 64) (hbase : base ≤ w.heap.size) :
    ∃ A' c' w', (Builtin.append_ #[t, t] ty #[v, .slice A n c]).run P w = .ok (.slice A' (xs.length + n) c') w' ∧ Owns E w' base e (.slice A' (xs.length + n) c') (xs ++ ys) ∧ w.grownBy w' v.ownBlock ∧
      ∀ g, (Value.slice A' (xs.length + n) c').ownBlock = some g → v.ownBlock = some g ∨ g = w.heap.size := by
  have hyl := hy.len
  rcases A with _ | ad
  · have hn : n = 0 := by
      rcases hy.2 with h | ⟨b, o, h, _⟩
      · exact h
      · cases h
    subst hn
    have hys : ys = [] := List.eq_nil_of_length_eq_zero hyl
    subst hys
    obtain ⟨A1, c1, rfl, hc1, _, _⟩ := ho.form
    refine ⟨A1, c1, w, ?_, by simpa using ho, ⟨rfl, rfl, rfl, Nat.le_refl _, fun _ _ _ => rfl⟩, fun g hg => .inl hg⟩
    have h1 := run_append_nothing (P := P) w t t ty e i ht hi A1 xs.length c1 hc1 (.slice none 0 c) (Src.ofNil w ht c)
    simpa using h1
  · have hcells : ∀ j u, (ys.flatMap E.cells)[j]? = some u → w.cell? (ad.add j) = some u := by
      intro j u hj
      rcases hy.2 with h | ⟨b, o, h, _, hc⟩
      · subst h
        rw [List.eq_nil_of_length_eq_zero hyl] at hj; simp at hj
      · injection h with h; subst h
        have hpos := E.pos
        have hjl : j < ys.length * E.sz := by rw [← flat_len]; exact (List.getElem?_eq_some_iff.1 hj).1
        have hk : j / E.sz < ys.length := (Nat.div_lt_iff_lt_mul hpos).2 hjl
        obtain ⟨y, hyk⟩ : ∃ y, ys[j / E.sz]? = some y := ⟨ys[j / E.sz], List.getElem?_eq_getElem hk⟩
        have hm : j % E.sz < (E.cells y).length := by rw [E.len]; exact Nat.mod_lt _ hpos
        have h1 := hc (j / E.sz) y hyk (j % E.sz) _ (List.getElem?_eq_getElem hm)
        have h2 := flat_get E ys (j / E.sz) y hyk (j % E.sz) _ (List.getElem?_eq_getElem hm)
        have e1 : j / E.sz * E.sz + j % E.sz = j := by rw [Nat.mul_comm]; exact Nat.div_add_mod j E.sz
        rw [e1] at h2
        rw [hj] at h2
        injection h2 with h2
        rw [← h2] at h1
        have e2 : o + j / E.sz * E.sz + j % E.sz = o + j := by omega
        rw [e2] at h1
        rw [← h1]
        unfold Addr.add
        split
        · rename_i h0; rw [h0, Nat.add_zero]
        · rfl
    have h1c : ∀ u ∈ ys.flatMap E.cells, u.oneCell' = true := fun u hu => by
      obtain ⟨y, _, h2⟩ := List.mem_flatMap.1 hu
      exact E.one y u h2
    obtain ⟨v', w', hr, h2, h3, _, h5⟩ := run_append_own_at (P := P) w base t ty e i z E.sz i.bytes ht hi hz0 hz1 rfl hzs E.pos v xs.length (xs.flatMap E.cells) ho ad n c (ys.flatMap E.cells) (by rw [flat_len, hyl]) hcells h1c (by unfold maxLen; omega)
      (by have : (xs.length + n) * i.bytes ≤ 1099511627776 * 64 := Nat.mul_le_mul h63 hby; omega) hbase
    have ho' : Owns E w' base e v' (xs ++ ys) := by
      unfold Owns
      rw [List.length_append, hyl, List.flatMap_append]
      exact h2
    obtain ⟨A', c', hv, _⟩ := ho'.form
    rw [List.length_append, hyl] at hv
    subst hv
    refine ⟨A', c', w', hr, ho', h3, fun g hg => ?_⟩
    rcases h5 with h5 | h5
    · exact .inl (by rw [← h5]; exact hg)
    · exact .inr (by rw [h5] at hg; injection hg with hg; exact hg.symm)
variable {w0 w : World} {L : List Thing} {ops : Array Oper} {rest : List Oper} {o : Oper} {a : Act} {Q : Exit → Act → World → Prop}
theorem wp_append_led {α : Type} {E : El α} {K : Act → World → Prop} (s x : Operand) (t : TypeId) (ho : o.op = .call { callee := .builtin .append, args := #[s, x], argTypes := #[t, t] }) (hS : Led w0 w L) (j : Nat) {base : Nat} {e : TypeId} {v : Value} {xs ys : List α}
    (hj : L[j]? = some (tOwns E base e v xs)) {A : Option Addr} {n c B : Nat} {i : TypeInfo} {z : Value} (ht : P.underlying t = some (.slice e)) (hi : P.info? e = some i) (hz0 : i.zero = some z) (hz1 : i.size = E.sz) (hby : i.bytes ≤ 64) (hzs : z.cells.size = E.sz)
    (hs : a.eval s = v) (hx : a.eval x = .slice A n c) (hy : Sees E w B A n ys) (h63 : xs.length + n ≤ 1099511627776) (hbase : base ≤ w.heap.size)
    (h : ∀ A' c' w', Led w0 w' (L.set j (tOwns E base e (.slice A' (xs.length + n) c') (xs ++ ys))) → K (a.put o.dst (.slice A' (xs.length + n) c')) w') : o.wp P a w K Q := by
  obtain ⟨A', c', w', hr, h2, h3, h4⟩ := run_append_all (P := P) (ty := o.type) (c := c) ht hi hz0 hz1 hzs (hS.own j hj) hy h63 hby hbase
  unfold Oper.wp execOp
  simp only [ho, resolve, invoke, builtin, Sem.run_bind, Sem.run_pure, Result.andThen_ok, List.map_toArray, List.map_cons, List.map_nil, hs, hx, hr]
  refine h A' c' w' (hS.regrow j hj ⟨h3.os, h3.tape, h3.output, h3.size, fun k hk hn => h3.block k hk (fun e => hn e.symm)⟩ (fun b hb => ?_) h2)
  rcases h4 b hb with h5 | h5
  · exact .inl h5
  · exact .inr (by omega)
theorem wpList_append_led {α : Type} {E : El α} (hgd : o.guard = none) (s x : Operand) (t : TypeId) (ho : o.op = .call { callee := .builtin .append, args := #[s, x], argTypes := #[t, t] }) (hS : Led w0 w L) (j : Nat) {base : Nat} {e : TypeId} {v : Value} {xs ys : List α}
    (hj : L[j]? = some (tOwns E base e v xs)) {A : Option Addr} {n c B : Nat} {i : TypeInfo} {z : Value} (ht : P.underlying t = some (.slice e)) (hi : P.info? e = some i) (hz0 : i.zero = some z) (hz1 : i.size = E.sz) (hby : i.bytes ≤ 64) (hzs : z.cells.size = E.sz)
    (hs : a.eval s = v) (hx : a.eval x = .slice A n c) (hy : Sees E w B A n ys) (h63 : xs.length + n ≤ 1099511627776) (hbase : base ≤ w.heap.size)
    (h : ∀ A' c' w', Led w0 w' (L.set j (tOwns E base e (.slice A' (xs.length + n) c') (xs ++ ys))) → wpList P ops Q rest (a.put o.dst (.slice A' (xs.length + n) c')) w') : wpList P ops Q (o :: rest) a w :=
  wpList_plain hgd fun _ hK => wp_append_led s x t ho hS j hj ht hi hz0 hz1 hby hzs hs hx hy h63 hbase fun A' c' w' h2 => hK _ _ (h A' c' w' h2)
theorem step_append_led {α : Type} {E : El α} {K : Act → World → Prop} {F : Prop} (hgd : o.guard = none) (s x : Operand) (t : TypeId) (ho : o.op = .call { callee := .builtin .append, args := #[s, x], argTypes := #[t, t] }) (hS : Led w0 w L) (j : Nat) {base : Nat} {e : TypeId} {v : Value} {xs ys : List α}
    (hj : L[j]? = some (tOwns E base e v xs)) {A : Option Addr} {n c B : Nat} {i : TypeInfo} {z : Value} (ht : P.underlying t = some (.slice e)) (hi : P.info? e = some i) (hz0 : i.zero = some z) (hz1 : i.size = E.sz) (hby : i.bytes ≤ 64) (hzs : z.cells.size = E.sz)
    (hs : a.eval s = v) (hx : a.eval x = .slice A n c) (hy : Sees E w B A n ys) (h63 : xs.length + n ≤ 1099511627776) (hbase : base ≤ w.heap.size)
    (h : ∀ A' c' w', Led w0 w' (L.set j (tOwns E base e (.slice A' (xs.length + n) c') (xs ++ ys))) → K (a.put o.dst (.slice A' (xs.length + n) c')) w') : if Region.wanted o (yielded ops a.tmps) = true then Oper.wp P o a w K Q else F := by
  have hw : Region.wanted o (yielded ops a.tmps) = true := by simp [Region.wanted, hgd]
  rw [if_pos hw]
  exact wp_append_led s x t ho hS j hj ht hi hz0 hz1 hby hzs hs hx hy h63 hbase h
end
end Go.Proofs.YtonndpcmadnpmaaDoor
