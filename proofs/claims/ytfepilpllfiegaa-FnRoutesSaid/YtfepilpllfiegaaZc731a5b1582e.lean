/- Lemmas and walks that the claim rests on, laid together. Conditions: none. -/
import Derived.ProofKit
import Derived.WalkKit
import Derived.Deep.Slices
import Derived.Deep.Fields
import Derived.Lib.SmallJoins
import Derived.StillTailTactics
import Derived.Deep.QuietTactic
import Derived.BigQuiet
import Derived.Test.YtfepilpllfiegaaRows
import Derived.Below
/- Common words of these proofs: how a slice shows a list, how a law that returns true and leaves old memory alone meets its row. No program in sight. Conditions: none. -/
namespace Go.Proofs.Ytfepilpllfiegaa
open Go.ChangeShapes Go.WideShapes Go.ChangeAt Go.RowKit Go.Deep

/-- A fact kept from the walk. -/
theorem hid {p : Prop} (h : p) : Hid p := h

theorem ret_bool {a b : Bool} (h : a = b) : Ending.returned (.bool a) = .returned (.bool b) := by rw [h]

/-- Strings compared, as the walk writes it. -/
theorem str_ne {a b : ByteArray} (h : a ≠ b) : (a.toList == b.toList) = false := by
  rw [ByteArray.toList_eq, ByteArray.toList_eq, beq_eq_false_iff_ne]
  exact fun e => h (bytes_inj e)

/-! ### Old memory stands -/
theorem bl_alloc {w w1 : World} (h : Below w.heap.size w w1) (o : Obj) : Below w.heap.size w (w1.alloc o) := h.alloc h.size o
theorem bl_drewN {B : Nat} {w w1 : World} (h : Below B w w1) (n : Nat) : Below B w (w1.drewN n) := ⟨h.os, h.tape, h.output, h.size, h.block⟩
theorem bl_then {w w1 w2 : World} (h : Below w.heap.size w w1) (k : Below w1.heap.size w1 w2) : Below w.heap.size w w2 := h.trans (k.mono h.size)
theorem bl_set {w w1 : World} (h : Below w.heap.size w w1) {p : Addr} (u : Value) (hp : w.heap.size ≤ p.block) : Below w.heap.size w (w1.setCell p u) := h.setCell hp u
theorem bl_cell {w w1 : World} (h : Below w.heap.size w w1) {b o : Nat} {v : Value} (hc : w.cell? ⟨b, o, none⟩ = some v) : w1.cell? ⟨b, o, none⟩ = some v :=
  (h.cell (World.block_lt_of_cell? w _ hc)).trans hc
/-- A region whose head reads and calls without a trace and whose tail is forced. -/
theorem region_tail {P : Program} {id : Nat} {Q : Exit → Act → World → Prop} {a : Act} {w : World} {l : List Oper} (n : Nat) (hm : P.follows .mixedOrders = true) (hB : Region.lexTailB .any l.toArray n = true)
    (h : wpStill P l.toArray w.drew (fun a' => wpList P l.toArray Q (l.drop n) a' w.drew) (l.take n) a) : (Code.region id l.toArray true).wp P Q a w :=
  wp_region_still_tail n hm hB h
/-! ### A region that draws its order, whose operations read old memory alone and whose callees leave old memory alone -/
/-- The worlds in which what was there at w is as it was. -/
def Cls (w w' : World) : Prop := Below w.heap.size w w'
theorem Cls.refl (w : World) : Cls w w := Below.refl _ _
theorem Cls.cell {w w1 : World} (h : Cls w w1) {b o : Nat} {v : Value} (hc : w.cell? ⟨b, o, none⟩ = some v) : w1.cell? ⟨b, o, none⟩ = some v := bl_cell h hc
/-- The whole region by one walk of the text's order. -/
theorem region_cls {P : Program} {id : Nat} {Q : Exit → Act → World → Prop} {a : Act} {w : World} {l : List Oper} (hm : P.follows .mixedOrders = true) (hB : Region.lexB .any l.toArray = true)
    (h : wpQuiet P l.toArray (Cls w) (fun a' => ∀ w', Cls w w' → Q .normal a' w') l a) : (Code.region id l.toArray true).wp P Q a w :=
  wp_region_quiet (C := Cls w) hm hB (show Cls w w.drew from (Below.refl _ _).drew) (by simpa using h)
/-- One operation of it: wanted, or passed over. -/
theorem quiet_pos {P : Program} {ops : Array Oper} {C : World → Prop} {Q : Act → Prop} {o : Oper} {rest : List Oper} {a : Act} (hg : Region.wanted o (yielded ops a.tmps) = true)
    (h : ∀ K : Act → Prop, (∀ a, wpQuiet P ops C Q rest a → K a) → ∃ v, (∀ w, C w → o.quietAt P a C w v) ∧ K (a.put o.dst v)) : wpQuiet P ops C Q (o :: rest) a :=
  wpQuiet_step fun K hK => by rw [if_pos hg]; exact h K hK
theorem quiet_neg {P : Program} {ops : Array Oper} {C : World → Prop} {Q : Act → Prop} {o : Oper} {rest : List Oper} {a : Act} (hg : Region.wanted o (yielded ops a.tmps) = false)
    (h : ∀ K : Act → Prop, (∀ a, wpQuiet P ops C Q rest a → K a) → K (a.put o.dst undef)) : wpQuiet P ops C Q (o :: rest) a :=
  wpQuiet_step fun K hK => by rw [if_neg (by rw [hg]; decide)]; exact h K hK
theorem Cls.sees {w w1 : World} (h : Cls w w1) (p : World → Prop) (hp : ∀ w', Below w.heap.size w w' → p w') : p w1 := hp _ h
theorem Cls.call {P : Program} {f : FuncId} {args : Array Value} {w w1 : World} {v : Value} (h : Cls w w1)
    (c : Calls P f args w1 fun e w2 => e = .returned v ∧ Below w1.heap.size w1 w2) : Calls P f args w1 fun e w2 => e = .returned v ∧ Cls w w2 :=
  c.mono fun _ _ hh => ⟨hh.1, bl_then h hh.2⟩
theorem Cls.drew (w : World) : Cls w w.drew := (Below.refl _ _).drew
theorem Cls.next {w w1 w2 : World} (k : Below w1.heap.size w1 w2) (h : Cls w w1) : Cls w w2 := bl_then h k
theorem Cls.same {P : Program} {f : FuncId} {args : Array Value} {w w1 : World} {v : Value} (h : Cls w w1)
    (c : Calls P f args w1 fun e w2 => e = .returned v ∧ w1 = w2) : Calls P f args w1 fun e w2 => e = .returned v ∧ Cls w w2 :=
  c.mono fun _ _ hh => ⟨hh.1, hh.2 ▸ h⟩
theorem Cls.drewN {P : Program} {f : FuncId} {args : Array Value} {w w1 : World} {v : Value} (h : Cls w w1)
    (c : Calls P f args w1 fun e w2 => e = .returned v ∧ ∃ n, w2 = w1.drewN n) : Calls P f args w1 fun e w2 => e = .returned v ∧ Cls w w2 :=
  c.mono fun _ _ hh => ⟨hh.1, by obtain ⟨n, rfl⟩ := hh.2; exact bl_drewN h n⟩

/-! ### From a walk to the row -/
section
variable {H : Type} {enc : TypeId × Value → H} {P : Program}

theorem trodAll_below (hl : laidOutB P = true) {W W' : World} (hb : Below W.heap.size W W') :
    ∀ {ts : List TypeId} {vs : List Value} {ds : List (DataW H)} {ps : List MemPlace}, ts.all (fun t => P.readableRec t && decide (t < P.types.size)) = true →
      DataW.TrodAll enc P W 0 (fun _ => true) true ts vs ds ps → (∀ x ∈ ps, x.block < W.heap.size) → DataW.TrodAll enc P W' 0 (fun b => decide (b < W.heap.size)) true ts vs ds ps := by
  intro ts
  induction ts with
  | nil =>
    intro vs ds ps _ h _
    cases vs <;> cases ds <;> simp_all [DataW.TrodAll]
  | cons t ts ih =>
    intro vs ds ps hr h hlt
    match vs, ds, h with
    | v :: vs, d :: ds, h =>
      obtain ⟨p, q, h1, h2, rfl⟩ := h
      simp only [List.all_cons, Bool.and_eq_true, decide_eq_true_eq] at hr
      exact ⟨p, q, Below.trod hl hr.1.1 hr.1.2 h1 hb (fun x hx => hlt x (by simp [hx])), ih (by simpa using hr.2) h2 (fun x hx => hlt x (by simp [hx])), rfl⟩

theorem trodAll_len {W : World} : ∀ {ts : List TypeId} {vs : List Value} {ds : List (DataW H)} {ps : List MemPlace} {b : Nat} {sp : Nat → Bool} {hd : Bool},
    DataW.TrodAll enc P W b sp hd ts vs ds ps → ds.length = ts.length := by
  intro ts
  induction ts with
  | nil => intro vs ds ps _ _ _ h; cases vs <;> cases ds <;> simp_all [DataW.TrodAll]
  | cons t ts ih =>
    intro vs ds ps _ _ _ h
    match vs, ds, h with
    | v :: vs, d :: ds, h => obtain ⟨p, q, _, h2, _⟩ := h; simp [ih h2]

/-- What a law's row asks: the call returns true and below the heap's old size nothing has turned. -/
theorem law_contract {F : FuncId} {f : Func} {s : ChangeSpec} {tb : TypeId} (hl : laidOutB P = true) (hread : f.params.toList.all (fun t => P.readableRec t && decide (t < P.types.size)) = true)
    (hres : f.resultTypes = #[tb]) (hb : P.underlying tb = some .bool) (hv : s.vars = [])
    (hs : ∀ ds : List (DataW H), ds.length = f.params.toList.length → (s.fn H ds).results = [.lit (.bool true)] ∧ (s.fn H ds).args = ds ∧ (s.fn H ds).vars = [])
    (W : World) (args : Array Value) (ds gs : List (DataW H)) (before : List MemPlace)
    (hW : DataW.Whole enc P f.params.toList s.vars false W args.toList ds gs before)
    (walk : ∀ p, DataW.TrodAll enc P W 0 (fun _ => true) true f.params.toList args.toList ds p → Calls P F args W fun e W' => e = .returned (.bool true) ∧ Below W.heap.size W W') :
    Calls P F args W fun e W' => ∃ v, e = .returned v ∧ s.post enc P f false true false false W args v W' := by
  have hW' := hW
  obtain ⟨p, q, hA, hV, hpq, hfz, hnd⟩ := hW
  refine (walk p hA).mono fun e W' ⟨he, hbel⟩ => ⟨_, he, ?_⟩
  rw [hv] at hV
  obtain ⟨rfl, rfl⟩ : gs = [] ∧ q = [] := by cases gs <;> simp_all [DataW.TrodVars]
  have hlt := hW'.lt
  rw [hpq] at hlt
  obtain ⟨h1, h2, h3⟩ := hs ds (trodAll_len hA)
  refine ⟨ds, [], before, [], p, [], hW', ?_, ?_, ?_, hbel.frame _, fun h => by cases h⟩
  · rw [List.append_nil, h1, hres]
    exact trodAll_mk1 (shut_bool hb true)
  · rw [List.append_nil, h2]
    exact trodAll_below hl hbel hread hA (fun x hx => hlt x (by simp [hx]))
  · rw [List.append_nil, h3, hv]
    rfl
end

/-! ### Slices that show a list -/
/-- An element's type: its cells. -/
structure El (α : Type) where
  sz : Nat
  cells : α → List Value
  len : ∀ x, (cells x).length = sz
  pos : 0 < sz
  one : ∀ x, ∀ u ∈ cells x, u.oneCell' = true

def elInt : El Int := ⟨1, fun n => [.int .i64 n], fun _ => rfl, by decide, fun _ u h => by simp at h; subst h; rfl⟩
def elStr : El ByteArray := ⟨1, fun s => [.string s], fun _ => rfl, by decide, fun _ u h => by simp at h; subst h; rfl⟩
def elByte : El UInt8 := ⟨1, fun c => [.int .u8 c.toNat], fun _ => rfl, by decide, fun _ u h => by simp at h; subst h; rfl⟩

/-- The slice at A of length n shows the list xs, all of it below block B. -/
def Sees {α : Type} (E : El α) (w : World) (B : Nat) (A : Option Addr) (n : Nat) (xs : List α) : Prop :=
  xs.length = n ∧ (n = 0 ∨ ∃ b o, A = some ⟨b, o, none⟩ ∧ b < B ∧ ∀ k x, xs[k]? = some x → ∀ j u, (E.cells x)[j]? = some u → w.cell? ⟨b, o + k * E.sz + j, none⟩ = some u)

section
variable {α : Type} {E : El α} {w w' : World} {B B' : Nat} {A : Option Addr} {n : Nat} {xs : List α}
theorem Sees.len (h : Sees E w B A n xs) : xs.length = n := h.1
theorem Sees.nil (E : El α) (w : World) (B : Nat) (A : Option Addr) : Sees E w B A 0 [] := ⟨rfl, .inl rfl⟩
theorem Sees.keep (h : Sees E w B A n xs) (hk : ∀ p : Addr, p.block < B → w'.cell? p = w.cell? p) : Sees E w' B A n xs := by
  refine ⟨h.1, ?_⟩
  rcases h.2 with h0 | ⟨b, o, rfl, hb, hc⟩
  · exact .inl h0
  · exact .inr ⟨b, o, rfl, hb, fun k x hx j u hu => (hk _ hb).trans (hc k x hx j u hu)⟩
theorem Sees.more (h : Sees E w B A n xs) (hB : B ≤ B') : Sees E w B' A n xs := by
  refine ⟨h.1, ?_⟩
  rcases h.2 with h0 | ⟨b, o, rfl, hb, hc⟩
  · exact .inl h0
  · exact .inr ⟨b, o, rfl, by omega, hc⟩
theorem Sees.below (h : Sees E w B A n xs) (hb : Below B w w') : Sees E w' B A n xs := h.keep fun _ hp => hb.cell hp
theorem Sees.drewN (h : Sees E w B A n xs) (q : Nat) : Sees E (w.drewN q) B A n xs := h.keep fun _ _ => rfl
theorem Sees.grow (h : Sees E w B A n xs) (hb : Below w.heap.size w w') : Sees E w' B A n xs := by
  refine ⟨h.1, ?_⟩
  rcases h.2 with h0 | ⟨b, o, rfl, hB, hc⟩
  · exact .inl h0
  · exact .inr ⟨b, o, rfl, hB, fun k x hx j u hu => bl_cell hb (hc k x hx j u hu)⟩
/-- The address, asked for where there is an element. -/
theorem Sees.at_ {k : Nat} (h : Sees E w B A n xs) (hk : k < n) : ∃ b o, A = some ⟨b, o, none⟩ ∧ b < B ∧ ∀ k x, xs[k]? = some x → ∀ j u, (E.cells x)[j]? = some u → w.cell? ⟨b, o + k * E.sz + j, none⟩ = some u := by
  rcases h.2 with h0 | h0
  · omega
  · exact h0
theorem Sees.cell {b o : Nat} (h : Sees E w B (some ⟨b, o, none⟩) n xs) {k : Nat} {x : α} (hx : xs[k]? = some x) {j : Nat} {u : Value} (hu : (E.cells x)[j]? = some u) : w.cell? ⟨b, o + k * E.sz + j, none⟩ = some u := by
  rcases h.2 with h0 | ⟨b', o', e, _, hc⟩
  · have := h.1; rw [h0] at this; rw [List.eq_nil_of_length_eq_zero this] at hx; simp at hx
  · injection e with e; injection e with e1 e2; subst e1 e2; exact hc k x hx j u hu
theorem Sees.blt {b o : Nat} (h : Sees E w B (some ⟨b, o, none⟩) n xs) (hn : 0 < n) : b < B := by
  rcases h.2 with h0 | ⟨b', o', e, hb, _⟩
  · omega
  · injection e with e; injection e with e1 e2; subst e1; exact hb
/-- A front part. -/
theorem Sees.take (h : Sees E w B A n xs) {k : Nat} (hk : k ≤ n) : Sees E w B A k (xs.take k) := by
  refine ⟨by rw [List.length_take, h.1]; omega, ?_⟩
  rcases h.2 with h0 | ⟨b, o, rfl, hb, hc⟩
  · exact .inl (by omega)
  · refine .inr ⟨b, o, rfl, hb, fun j x hx => hc j x ?_⟩
    rw [List.getElem?_take] at hx
    split at hx
    · exact hx
    · cases hx
end
/-- A row of the call's own shows what it holds. -/
theorem flat_get {α : Type} (E : El α) (xs : List α) (k : Nat) (x : α) (hx : xs[k]? = some x) (j : Nat) (u : Value) (hu : (E.cells x)[j]? = some u) : (xs.flatMap E.cells)[k * E.sz + j]? = some u := by
  induction xs generalizing k with
  | nil => simp at hx
  | cons y ys ih =>
    rw [List.flatMap_cons]
    cases k with
    | zero =>
      simp at hx; subst hx
      have hj : j < (E.cells y).length := (List.getElem?_eq_some_iff.1 hu).1
      rw [Nat.zero_mul, Nat.zero_add, List.getElem?_append_left hj]; exact hu
    | succ k =>
      simp at hx
      rw [List.getElem?_append_right (by rw [E.len, Nat.add_mul]; omega), E.len, show (k + 1) * E.sz + j - E.sz = k * E.sz + j by rw [Nat.add_mul]; omega]
      exact ih k hx
theorem flat_len {α : Type} (E : El α) (xs : List α) : (xs.flatMap E.cells).length = xs.length * E.sz := by
  induction xs with
  | nil => simp
  | cons y ys ih => rw [List.flatMap_cons, List.length_append, E.len, ih, List.length_cons, Nat.add_mul]; omega

/-- The row v of element type e, from block base on, is the call's own and holds xs. -/
def Owns {α : Type} (E : El α) (w : World) (base : Nat) (e : TypeId) (v : Value) (xs : List α) : Prop := w.ownsRow base e E.sz v xs.length (xs.flatMap E.cells)
theorem Owns.form {α : Type} {E : El α} {w : World} {base : Nat} {e : TypeId} {v : Value} {xs : List α} (h : Owns E w base e v xs) :
    ∃ A c, v = .slice A xs.length c ∧ xs.length ≤ c ∧ c ≤ maxLen ∧ Sees E w w.heap.size A xs.length xs := by
  rcases h.2 with ⟨rfl, hn⟩ | ⟨g, cap, cur, rfl, hb, hg, hnc, hcm, hcs, ht⟩
  · have : xs = [] := List.eq_nil_of_length_eq_zero hn
    subst this
    exact ⟨none, 0, rfl, by simp, by simp, Sees.nil _ _ _ _⟩
  · refine ⟨_, cap, rfl, hnc, hcm, rfl, ?_⟩
    refine .inr ⟨g, 0, rfl, (Array.getElem?_eq_some_iff.1 hg).1, fun k x hx j u hu => ?_⟩
    have := World.ownsRow.cells h (g := g) rfl _ u (flat_get E xs k x hx j u hu)
    unfold Addr.add at this
    split at this
    · rename_i h0; rw [Nat.zero_add, h0]; exact this
    · simpa using this
theorem Owns.below {α : Type} {E : El α} {w w' : World} {base : Nat} {e : TypeId} {v : Value} {xs : List α} (h : Owns E w base e v xs) (hb : Below w.heap.size w w') : Owns E w' base e v xs := by
  refine ⟨h.1, ?_⟩
  rcases h.2 with hn | ⟨g, cap, cur, hv, hg, hh, r⟩
  · exact .inl hn
  · exact .inr ⟨g, cap, cur, hv, hg, (hb.block g (Array.getElem?_eq_some_iff.1 hh).1).trans hh, r⟩
theorem Owns.base {α : Type} {E : El α} {w : World} {base base' : Nat} {e : TypeId} {v : Value} {xs : List α} (h : Owns E w base e v xs) (hb : base' ≤ base) : Owns E w base' e v xs := by
  refine ⟨h.1, ?_⟩
  rcases h.2 with hn | ⟨g, cap, cur, hv, hg, r⟩
  · exact .inl hn
  · exact .inr ⟨g, cap, cur, hv, by omega, r⟩
/-- A store into a block that is not the row's. -/
theorem Owns.far {α : Type} {E : El α} {w : World} {base : Nat} {e : TypeId} {v : Value} {xs : List α} (h : Owns E w base e v xs) {p : Addr} (hp : p.block < base) (u : Value) : Owns E (w.setCell p u) base e v xs :=
  ownsRow_setCell_below h hp u
/-- A block that is known whole. -/
def Blk (w : World) (g : Nat) (e : TypeId) (cur : Array Value) : Prop := w.heap[g]? = some (.cells cur e (0, 0))
section
variable {w w' : World} {g : Nat} {e : TypeId} {cur : Array Value}
theorem Blk.new (w : World) (e : TypeId) (cur : Array Value) : Blk (w.alloc (.cells cur e)) w.heap.size e cur := heap_alloc_new w _
theorem Blk.lt (h : Blk w g e cur) : g < w.heap.size := (Array.getElem?_eq_some_iff.1 h).1
theorem Blk.cell (h : Blk w g e cur) (i : Nat) : w.cell? ⟨g, i, none⟩ = cur[i]? := cell_of_row w g i cur e (0, 0) h
theorem Blk.cell_ (h : Blk w g e cur) {i : Nat} (hi : i < cur.size) : ∃ u, w.cell? ⟨g, i, none⟩ = some u := ⟨cur[i], by rw [h.cell, Array.getElem?_eq_getElem hi]⟩
theorem Blk.frozen (h : Blk w g e cur) (i : Nat) : w.frozen? ⟨g, i, none⟩ = false := by unfold Blk at h; simp [World.frozen?, h]
theorem Blk.set (h : Blk w g e cur) (i : Nat) (u : Value) : Blk (w.setCell ⟨g, i, none⟩ u) g e (cur.setIfInBounds i u) := by unfold Blk at h ⊢; simp [World.setCell, Array.getElem?_modify, h]
theorem Blk.below {B : Nat} (h : Blk w g e cur) (hb : Below B w w') (hg : g < B) : Blk w' g e cur := (hb.block g hg).trans h
theorem Blk.alloc (h : Blk w g e cur) (o : Obj) : Blk (w.alloc o) g e cur := (Below.heap_alloc w o g h.lt).trans h
end
theorem bl_at {B g : Nat} {w w' : World} (hb : Below B w w') (hg : g < B) {e : TypeId} {cur : Array Value} (h : Blk w g e cur) : Blk w' g e cur := h.below hb hg
theorem size_set (w : World) (p : Addr) (u : Value) : (w.setCell p u).heap.size = w.heap.size := by simp [World.setCell]
theorem Blk.far {w : World} {g : Nat} {e : TypeId} {cur : Array Value} (h : Blk w g e cur) {p : Addr} (hp : g ≠ p.block) (u : Value) : Blk (w.setCell p u) g e cur := (Below.heap_setCell w p u g hp).trans h
/-- The first k elements stand in the row. -/
def Filled {α : Type} (E : El α) (cur : Array Value) (xs : List α) (k : Nat) : Prop := ∀ j x, j < k → xs[j]? = some x → ∀ i u, (E.cells x)[i]? = some u → cur[j * E.sz + i]? = some u
theorem Filled.zero {α : Type} (E : El α) (cur : Array Value) (xs : List α) : Filled E cur xs 0 := fun j _ hj => by omega
theorem Filled.step {α : Type} {E : El α} {cur cur' : Array Value} {xs : List α} {k : Nat} {x : α} (h : Filled E cur xs k) (hx : xs[k]? = some x) (hold : ∀ i, i < k * E.sz → cur'[i]? = cur[i]?)
    (hnew : ∀ i u, (E.cells x)[i]? = some u → cur'[k * E.sz + i]? = some u) : Filled E cur' xs (k + 1) := by
  intro j y hj hy i u hu
  rcases Nat.lt_succ_iff_lt_or_eq.1 hj with hlt | rfl
  · have hi : i < E.sz := by rw [← E.len y]; exact (List.getElem?_eq_some_iff.1 hu).1
    rw [hold]
    · exact h j y hlt hy i u hu
    · have : (j + 1) * E.sz ≤ k * E.sz := Nat.mul_le_mul_right _ hlt
      rw [Nat.add_mul] at this; omega
  · rw [hx] at hy; injection hy with hy; subst hy; exact hnew i u hu
theorem flat_ext {α : Type} (E : El α) : ∀ (xs : List α) (l : List Value), l.length = xs.length * E.sz → (∀ j x, xs[j]? = some x → ∀ i u, (E.cells x)[i]? = some u → l[j * E.sz + i]? = some u) → l = xs.flatMap E.cells := by
  intro xs
  induction xs with
  | nil => intro l hl _; simp at hl; simp [hl]
  | cons y ys ih =>
    intro l hl h
    rw [List.length_cons, Nat.add_mul, Nat.one_mul] at hl
    rw [List.flatMap_cons, ← List.take_append_drop E.sz l]
    congr 1
    · apply List.ext_getElem?
      intro i
      by_cases hi : i < E.sz
      · rw [List.getElem?_take, if_pos hi]
        have hy : i < (E.cells y).length := by rw [E.len]; exact hi
        have := h 0 y rfl i _ (List.getElem?_eq_getElem hy)
        rw [Nat.zero_mul, Nat.zero_add] at this
        rw [this, List.getElem?_eq_getElem hy]
      · rw [List.getElem?_take, if_neg hi, List.getElem?_eq_none (by rw [E.len]; omega)]
    · refine ih _ (by rw [List.length_drop]; omega) (fun j x hx i u hu => ?_)
      rw [List.getElem?_drop, show E.sz + (j * E.sz + i) = (j + 1) * E.sz + i by rw [Nat.add_mul]; omega]
      exact h (j + 1) x (by simpa using hx) i u hu
/-- A row that is filled is the call's own. -/
theorem Owns.of_filled {α : Type} {E : El α} {w : World} {base g n : Nat} {e : TypeId} {cur : Array Value} {xs : List α} (h : Blk w g e cur) (hb : base ≤ g) (hl : xs.length = n) (hs : cur.size = n * E.sz) (hn : n ≤ maxLen)
    (hf : Filled E cur xs n) : Owns E w base e (.slice (some ⟨g, 0, none⟩) n n) xs := by
  refine ⟨flat_len E xs, .inr ⟨g, n, cur, by rw [hl], hb, h, by omega, hn, hs, ?_⟩⟩
  rw [hl, List.take_of_length_le (by simp [hs])]
  refine flat_ext E xs _ (by simp [hs, hl]) (fun j x hx i u hu => ?_)
  have hj : j < n := by rw [← hl]; exact (List.getElem?_eq_some_iff.1 hx).1
  simpa using hf j x hj hx i u hu
/-- make of a variable length. -/
theorem make_n {P : Program} {t e : TypeId} {i : TypeInfo} {z : Value} (ht : P.underlying t = some (.slice e)) (hi : P.info? e = some i) (hz : i.zero = some z) {n : Nat} (hbytes : i.bytes * n ≤ 281474976710656) (h63 : n ≤ 9223372036854775807) (w : World) :
    (Instr.makeSlice t (.int .i64 (n : Int)) (.int .i64 (n : Int))).run P w = .ok (.slice (some ⟨w.heap.size, 0, none⟩) n n) (w.alloc (.cells (madeCells z.cells (n * i.size)) e)) := by
  have hb : (i.bytes : Int) * (n : Int) ≤ 281474976710656 := by
    have h : ((i.bytes * n : Nat) : Int) ≤ 281474976710656 := by omega
    rwa [Int.natCast_mul] at h
  have hr := run_make (P := P) w t e i z ht hi hz .i64 .i64 n n (by omega) (by omega) hb (by omega)
  simp only [Int.toNat_natCast] at hr
  exact hr
end Go.Proofs.Ytfepilpllfiegaa
/- What a call may have turned: blocks of a set alone; rows that are marked. Conditions: none. -/
namespace Go.Proofs.Ytfepilpllfiegaa
open Go.RowKit
/-- Of the old blocks only those of S may have turned. -/
structure Touch (S : Nat → Prop) (w w' : World) : Prop where
  os : w'.os = w.os
  tape : w'.tape = w.tape
  output : w'.output = w.output
  size : w.heap.size ≤ w'.heap.size
  block : ∀ k, k < w.heap.size → ¬ S k → w'.heap[k]? = w.heap[k]?
section
variable {S S' : Nat → Prop} {w w' w2 : World}
theorem Touch.refl (S : Nat → Prop) (w : World) : Touch S w w := ⟨rfl, rfl, rfl, Nat.le_refl _, fun _ _ _ => rfl⟩
theorem Touch.of_below (h : Below w.heap.size w w') : Touch S w w' := ⟨h.os, h.tape, h.output, h.size, fun k hk _ => h.block k hk⟩
theorem Touch.trans (h : Touch S w w') (k : Touch S w' w2) : Touch S w w2 :=
  ⟨k.os.trans h.os, k.tape.trans h.tape, k.output.trans h.output, Nat.le_trans h.size k.size, fun i hi hn => (k.block i (Nat.lt_of_lt_of_le hi h.size) hn).trans (h.block i hi hn)⟩
theorem Touch.mono (h : Touch S w w') (hS : ∀ k, S k → S' k) : Touch S' w w' := ⟨h.os, h.tape, h.output, h.size, fun k hk hn => h.block k hk (fun hs => hn (hS k hs))⟩
theorem Touch.set (w : World) {p : Addr} (hp : S p.block) (u : Value) : Touch S w (w.setCell p u) :=
  ⟨rfl, rfl, rfl, by simp [World.setCell], fun k _ hn => Below.heap_setCell _ _ _ _ (fun e => hn (e ▸ hp))⟩
theorem Touch.then_ (h : Touch S w w') (k : Below w'.heap.size w' w2) : Touch S w w2 := h.trans (.of_below k)
theorem Touch.below {B : Nat} (h : Touch S w w') (hS : ∀ k, S k → B ≤ k) (hB : B ≤ w.heap.size) : Below B w w' :=
  ⟨h.os, h.tape, h.output, h.size, fun k hk => h.block k (by omega) (fun hs => by have := hS k hs; omega)⟩
theorem Blk.touch {g : Nat} {e : TypeId} {cur : Array Value} (h : Blk w g e cur) (t : Touch S w w') (hn : ¬ S g) : Blk w' g e cur := (t.block g h.lt hn).trans h
theorem Owns.touch {α : Type} {E : El α} {base : Nat} {e : TypeId} {v : Value} {xs : List α} (h : Owns E w base e v xs) (t : Touch S w w') (hn : ∀ g, v.ownBlock = some g → ¬ S g) : Owns E w' base e v xs := by
  refine ⟨h.1, ?_⟩
  rcases h.2 with h0 | ⟨g, cap, cur, hv, hg, hh, r⟩
  · exact .inl h0
  · exact .inr ⟨g, cap, cur, hv, hg, (t.block g (Array.getElem?_eq_some_iff.1 hh).1 (hn g (by rw [hv]; rfl))).trans hh, r⟩
theorem Sees.touch {α : Type} {E : El α} {B n : Nat} {A : Option Addr} {xs : List α} (h : Sees E w B A n xs) (t : Touch S w w') (hS : ∀ k, S k → B ≤ k) : Sees E w' B A n xs := by
  refine ⟨h.1, ?_⟩
  rcases h.2 with h0 | ⟨b, o, rfl, hb, hc⟩
  · exact .inl h0
  · refine .inr ⟨b, o, rfl, hb, fun k x hx j u hu => ?_⟩
    have h1 := hc k x hx j u hu
    exact (World.cell?_of_block (a := ⟨b, _, none⟩) (t.block b (World.block_lt_of_cell? w _ h1) (fun hs => by have := hS b hs; omega))).trans h1
end
/-- Where a row of the call's own lies. -/
theorem Owns.lies {α : Type} {E : El α} {w : World} {base : Nat} {e : TypeId} {v : Value} {xs : List α} (h : Owns E w base e v xs) : ∀ g, v.ownBlock = some g → base ≤ g ∧ g < w.heap.size := World.ownsRow.lt h
/-- Nil, or a block that is known. -/
theorem Owns.cases {α : Type} {E : El α} {w : World} {base : Nat} {e : TypeId} {v : Value} {xs : List α} (h : Owns E w base e v xs) :
    (v = .slice none 0 0 ∧ xs = []) ∨ ∃ g cap cur, v = .slice (some ⟨g, 0, none⟩) xs.length cap ∧ base ≤ g ∧ Blk w g e cur ∧ xs.length ≤ cap ∧ cap ≤ maxLen ∧ cur.size = cap * E.sz ∧ Filled E cur xs xs.length := by
  rcases h.2 with ⟨hv, hn⟩ | ⟨g, cap, cur, hv, hg, hh, h1, h2, h3, h4⟩
  · exact .inl ⟨hv, List.eq_nil_of_length_eq_zero hn⟩
  · refine .inr ⟨g, cap, cur, hv, hg, hh, h1, h2, h3, fun j x hj hx i u hu => ?_⟩
    have h5 := flat_get E xs j x hx i u hu
    rw [← h4, List.getElem?_take] at h5
    split at h5
    · simpa using h5
    · cases h5
theorem Owns.of_blk {α : Type} {E : El α} {w : World} {base g n cap : Nat} {e : TypeId} {cur : Array Value} {xs : List α} (h : Blk w g e cur) (hb : base ≤ g) (hl : xs.length = n) (hnc : n ≤ cap) (hs : cur.size = cap * E.sz) (hm : cap ≤ maxLen)
    (hf : Filled E cur xs n) : Owns E w base e (.slice (some ⟨g, 0, none⟩) n cap) xs := by
  refine ⟨flat_len E xs, .inr ⟨g, cap, cur, by rw [hl], hb, h, by omega, hm, hs, ?_⟩⟩
  rw [hl]
  have hle : n * E.sz ≤ cur.size := by rw [hs]; exact Nat.mul_le_mul_right _ hnc
  refine flat_ext E xs _ (by rw [List.length_take, Array.length_toList, hl]; omega) (fun j x hx i u hu => ?_)
  have hj : j < n := by rw [← hl]; exact (List.getElem?_eq_some_iff.1 hx).1
  have hi : i < E.sz := by rw [← E.len x]; exact (List.getElem?_eq_some_iff.1 hu).1
  have : (j + 1) * E.sz ≤ n * E.sz := Nat.mul_le_mul_right _ hj
  rw [Nat.add_mul] at this
  rw [List.getElem?_take, if_pos (by omega)]
  simpa using hf j x hj hx i u hu
/-- Rows of different element types lie apart. -/
theorem owns_ne {α β : Type} {E : El α} {E' : El β} {w : World} {b b' : Nat} {e e' : TypeId} {v v' : Value} {xs : List α} {ys : List β} (h : Owns E w b e v xs) (h' : Owns E' w b' e' v' ys) (hne : e ≠ e') : ∀ g, v'.ownBlock = some g → ¬ (v.ownBlock = some g) := by
  intro g hg hg'
  rcases h.cases with ⟨rfl, _⟩ | ⟨g1, c1, cur1, rfl, _, hb1, _⟩
  · simp [Value.ownBlock] at hg'
  · rcases h'.cases with ⟨rfl, _⟩ | ⟨g2, c2, cur2, rfl, _, hb2, _⟩
    · simp [Value.ownBlock] at hg
    · simp [Value.ownBlock] at hg hg'
      subst hg' hg
      unfold Blk at hb1 hb2
      rw [hb1] at hb2
      injection hb2 with hb2
      injection hb2 with _ ht
      exact hne ht
/-- The numbers from k on. -/
def marks (k : Int) (n : Nat) : List Int := (List.range n).map fun (j : Nat) => k + (j : Int)
theorem marks_len (k : Int) (n : Nat) : (marks k n).length = n := by simp [marks]
theorem marks_get {k : Int} {n j : Nat} (h : j < n) : (marks k n)[j]? = some (k + (j : Int)) := by simp [marks, h]
theorem filled_int {cur : Array Value} {xs : List Int} {j : Nat} {x : Int} (h : Filled elInt cur xs j) (hx : xs[j]? = some x) (hs : j < cur.size) : Filled elInt (cur.setIfInBounds j (.int .i64 x)) xs (j + 1) := by
  refine h.step hx (fun i hi => ?_) (fun i u hu => ?_)
  · rw [Array.getElem?_setIfInBounds_ne (by simp [elInt] at hi; omega)]
  · have hu' : [Value.int .i64 x][i]? = some u := hu
    match i, hu' with
    | 0, hu' =>
      have e : j * elInt.sz + 0 = j := by show j * 1 + 0 = j; omega
      rw [e, Array.getElem?_setIfInBounds_self_of_lt hs]; exact hu'
    | i + 1, hu' => simp at hu'
theorem filled_str {cur : Array Value} {xs : List ByteArray} {j : Nat} {x : ByteArray} (h : Filled elStr cur xs j) (hx : xs[j]? = some x) (hs : j < cur.size) : Filled elStr (cur.setIfInBounds j (.string x)) xs (j + 1) := by
  refine h.step hx (fun i hi => ?_) (fun i u hu => ?_)
  · rw [Array.getElem?_setIfInBounds_ne (by simp [elStr] at hi; omega)]
  · have hu' : [Value.string x][i]? = some u := hu
    match i, hu' with
    | 0, hu' =>
      have e : j * elStr.sz + 0 = j := by show j * 1 + 0 = j; omega
      rw [e, Array.getElem?_setIfInBounds_self_of_lt hs]; exact hu'
    | i + 1, hu' => simp at hu'
end Go.Proofs.Ytfepilpllfiegaa
/- What an append leaves, in the words of Owns and Below. Conditions: none. -/
namespace Go.Proofs.Ytfepilpllfiegaa
open Go.RowKit
theorem Owns.appended {α : Type} {E : El α} {w : World} {base : Nat} {e : TypeId} {v : Value} {xs : List α} {x : α} (h : w.ownsRow base e E.sz v (xs.length + 1) (xs.flatMap E.cells ++ E.cells x)) : Owns E w base e v (xs ++ [x]) := by
  unfold Owns; simpa using h
theorem Owns.sees {α : Type} {E : El α} {w : World} {base n c : Nat} {A : Option Addr} {e : TypeId} {xs : List α} (h : Owns E w base e (.slice A n c) xs) : Sees E w w.heap.size A xs.length xs := by
  obtain ⟨A', c', hv, _, _, hs⟩ := h.form
  injection hv with h1 h2 h3
  rw [h1]; exact hs
theorem bl_grown {w0 w w' : World} {v : Value} (hb : Below w0.heap.size w0 w) (hg : w.grownBy w' v.ownBlock) (hv : ∀ g, v.ownBlock = some g → w0.heap.size ≤ g) : Below w0.heap.size w0 w' :=
  hb.trans ⟨hg.os, hg.tape, hg.output, hg.size, fun k hk => hg.block k (Nat.lt_of_lt_of_le hk hb.size) (fun e => by have := hv k e.symm; omega)⟩
/-- Those of the first k numbers that pass p. -/
def idsTo (p : Nat → Bool) (k : Nat) : List Int := ((List.range k).filter p).map fun (j : Nat) => (j : Int)
theorem idsTo_zero (p : Nat → Bool) : idsTo p 0 = [] := rfl
theorem idsTo_yes {p : Nat → Bool} {k : Nat} (h : p k = true) : idsTo p (k + 1) = idsTo p k ++ [(k : Int)] := by simp [idsTo, List.range_succ, List.filter_append, h]
theorem idsTo_no {p : Nat → Bool} {k : Nat} (h : p k = false) : idsTo p (k + 1) = idsTo p k := by simp [idsTo, List.range_succ, List.filter_append, h]
theorem idsTo_len (p : Nat → Bool) (k : Nat) : (idsTo p k).length ≤ k := by
  unfold idsTo
  rw [List.length_map]
  exact Nat.le_trans (List.length_filter_le _ _) (by simp)
theorem idsTo_congr {p q : Nat → Bool} {k : Nat} (h : ∀ j, j < k → p j = q j) : idsTo p k = idsTo q k := by
  induction k with
  | zero => rfl
  | succ k ih =>
    have h1 := ih (fun j hj => h j (by omega))
    cases g : q k
    · rw [idsTo_no g, idsTo_no ((h k (by omega)).trans g), h1]
    · rw [idsTo_yes g, idsTo_yes ((h k (by omega)).trans g), h1]
theorem one_new (w : World) (x : Value) (t : TypeId) {b : Nat} (hb : b = w.heap.size) : ∀ j u, [x][j]? = some u → (w.alloc (.cells #[x] t)).cell? ((⟨b, 0, none⟩ : Addr).add j) = some u := by
  subst hb
  intro j u hj
  match j, hj with
  | 0, hj => simp at hj; subst hj; simp [Addr.add]
theorem int_info : (Try.prog.info? 3).map (fun i => (i.zero, i.size, i.bytes)) = some (some (.int .i64 0), 1, 8) := by kernel_rfl
end Go.Proofs.Ytfepilpllfiegaa
/- markIntS, heldIntS, eqIntS, walked. Conditions: at most 1048576 numbers, marks below 2^40. -/
namespace Go.Proofs.Ytfepilpllfiegaa
open Go.RowKit
end Go.Proofs.Ytfepilpllfiegaa
/- Rows of rows of numbers. Conditions: none. -/
namespace Go.Proofs.Ytfepilpllfiegaa
open Go.RowKit
/-- A slice, as a value. -/
structure Sl where
  A : Option Addr
  n : Nat
  c : Nat
def slV (s : Sl) : Value := .slice s.A s.n s.c
def elSl : El Sl := ⟨1, fun s => [slV s], fun _ => rfl, by decide, fun _ u h => by simp at h; subst h; rfl⟩
/-- The row v of slices is the call's own, and so is each of its slices; they hold rows; no two share memory. -/
def OwnsSS (w : World) (base : Nat) (v : Value) (ss : List Sl) (rows : List (List Int)) : Prop :=
  Owns elSl w base 33 v ss ∧ ss.length = rows.length ∧ (∀ (i : Nat) s r, ss[i]? = some s → rows[i]? = some r → Owns elInt w base 3 (slV s) r) ∧
    ∀ (i j : Nat) s t g, i < j → ss[i]? = some s → ss[j]? = some t → (slV s).ownBlock = some g → ¬ ((slV t).ownBlock = some g)
section
variable {w w' : World} {base : Nat} {v : Value} {ss : List Sl} {rows : List (List Int)}
theorem OwnsSS.below (h : OwnsSS w base v ss rows) (hb : Below w.heap.size w w') : OwnsSS w' base v ss rows :=
  ⟨h.1.below hb, h.2.1, fun i s r h1 h2 => (h.2.2.1 i s r h1 h2).below hb, h.2.2.2⟩
theorem OwnsSS.base_ {base' : Nat} (h : OwnsSS w base v ss rows) (hb : base' ≤ base) : OwnsSS w base' v ss rows :=
  ⟨h.1.base hb, h.2.1, fun i s r h1 h2 => (h.2.2.1 i s r h1 h2).base hb, h.2.2.2⟩
theorem OwnsSS.nil (w : World) (base : Nat) : OwnsSS w base (.slice none 0 0) [] [] :=
  ⟨World.ownsRow_nil _ _ _ _, rfl, fun i s r h1 => by simp at h1, fun i j s t g _ h1 => by simp at h1⟩
/-- One row more, made behind the others; the row of slices may have moved. -/
theorem OwnsSS.push {w2 w3 : World} {r0 : List Int} {s0 : Sl} {v' : Value} (h : OwnsSS w base v ss rows) (hb : Below w.heap.size w w2) (hbase : base ≤ w.heap.size) (hr : Owns elInt w2 w.heap.size 3 (slV s0) r0)
    (hown : Owns elSl w3 base 33 v' (ss ++ [s0])) (hg : w2.grownBy w3 v.ownBlock) : OwnsSS w3 base v' (ss ++ [s0]) (rows ++ [r0]) := by
  have h2 := h.below hb
  have ht : Touch (fun b => v.ownBlock = some b) w2 w3 := ⟨hg.os, hg.tape, hg.output, hg.size, fun k hk hn => hg.block k hk (fun e => hn e.symm)⟩
  refine ⟨hown, by simp [h.2.1], fun i s r h3 h4 => ?_, fun i j s t g hij h3 h4 h5 h6 => ?_⟩
  · rcases Nat.lt_or_ge i ss.length with hi | hi
    · rw [List.getElem?_append_left hi] at h3
      rw [List.getElem?_append_left (by rw [← h.2.1]; exact hi)] at h4
      have ho := h2.2.2.1 i s r h3 h4
      exact ho.touch ht (fun g hg' => owns_ne h2.1 ho (by decide) g hg')
    · rw [List.getElem?_append_right hi] at h3
      rw [List.getElem?_append_right (by rw [← h.2.1]; exact hi)] at h4
      have e1 : i - ss.length = 0 := by have := (List.getElem?_eq_some_iff.1 h3).1; simp at this; omega
      have e2 : i - rows.length = 0 := by rw [← h.2.1]; exact e1
      rw [e1] at h3; rw [e2] at h4
      simp at h3 h4; subst h3; subst h4
      exact (hr.touch ht (fun g hg' => owns_ne h2.1 hr (by decide) g hg')).base hbase
  · rcases Nat.lt_or_ge j ss.length with hj | hj
    · rw [List.getElem?_append_left hj] at h4
      rw [List.getElem?_append_left (by omega)] at h3
      exact h.2.2.2 i j s t g hij h3 h4 h5 h6
    · rw [List.getElem?_append_right hj] at h4
      have e1 : j - ss.length = 0 := by have := (List.getElem?_eq_some_iff.1 h4).1; simp at this; omega
      rw [e1] at h4; simp at h4; subst h4
      rw [List.getElem?_append_left (by omega)] at h3
      obtain ⟨r, hrr⟩ : ∃ r, rows[i]? = some r := ⟨rows[i]'(by rw [← h.2.1]; omega), List.getElem?_eq_getElem _⟩
      have a1 := ((h.2.2.1 i s r h3 hrr).lies g h5).2
      have a2 := (hr.lies g h6).1
      omega
end
theorem sl_info : (Try.prog.info? 33).map (fun i => (i.zero, i.size, i.bytes)) = some (some (.slice none 0 0), 1, 24) := by kernel_rfl
end Go.Proofs.Ytfepilpllfiegaa
/- Small functions of the networks' chapter, walked: ranges, names, comparing. Conditions: none. -/
namespace Go.Proofs.Ytfepilpllfiegaa
open Go.RowKit
/-- In a range. -/
def inB (lo hi n : Int) : Bool := decide (lo ≤ n ∧ n ≤ hi)
theorem within_any (n lo hi : Int) (w : World) :
    Calls Try.prog 107 #[.int .i64 n, .int .i64 lo, .int .i64 hi] w fun e w' => e = .returned (.bool (inB lo hi n)) ∧ w = w' := by
  by_cases h1 : lo ≤ n <;> by_cases h2 : n ≤ hi
  all_goals
    go_enter Try.func107, Try.ntmps107
    go_wp2
    go_ret
    exact ⟨by simp [inB, h1, h2], rfl⟩
theorem l1In_any (n lo hi : Int) (w : World) :
    Calls Try.prog 78 #[.int .i64 n, .int .i64 lo, .int .i64 hi] w fun e w' => e = .returned (.bool (inB lo hi n)) ∧ w = w' := by
  by_cases h1 : lo ≤ n <;> by_cases h2 : n ≤ hi
  all_goals
    go_enter Try.func78, Try.ntmps78
    go_wp2
    go_ret
    exact ⟨by simp [inB, h1, h2], rfl⟩
/-- Comparing numbers. -/
def cmpB (a b : Int) : Int := if a < b then -1 else if b < a then 1 else 0
theorem compare_any (a b : Int) (w : World) :
    Calls Try.prog 129 #[.int .i64 a, .int .i64 b] w fun e w' => e = .returned (.int .i64 (cmpB a b)) ∧ w = w' := by
  by_cases h1 : a < b
  · go_enter Try.func129, Try.ntmps129
    go_wp2
    go_ret
    exact ⟨by simp [cmpB, h1], rfl⟩
  · by_cases h2 : b < a
    · go_enter Try.func129, Try.ntmps129
      go_wp2
      go_ret
      exact ⟨by rw [cmpB, if_neg (by omega), if_pos (by omega)]; rfl, rfl⟩
    · go_enter Try.func129, Try.ntmps129
      go_wp2
      go_ret
      exact ⟨by rw [cmpB, if_neg (by omega), if_neg (by omega)]; rfl, rfl⟩
end Go.Proofs.Ytfepilpllfiegaa
/- The checksum of a list of bytes, in plain Lean: no program in sight. Conditions: none. -/
namespace Go.Proofs.Ytfepilpllfiegaa
namespace Chk
/-- One byte's turn. -/
def step (h : Int) (c : UInt8) : Int := (41 * h + (c.toNat : Int) + 1) % 999979
/-- The checksum. -/
def sum (l : List UInt8) : Int := l.foldl step 7
theorem step_bd (h : Int) (c : UInt8) : 0 ≤ step h c ∧ step h c < 999979 := by unfold step; omega
theorem sum_bd (l : List UInt8) : 0 ≤ sum l ∧ sum l < 999979 := by
  unfold sum
  have : ∀ (l : List UInt8) (a : Int), 0 ≤ a ∧ a < 999979 → 0 ≤ l.foldl step a ∧ l.foldl step a < 999979 := by
    intro l
    induction l with
    | nil => intro a h; exact h
    | cons c l ih => intro a _; exact ih _ (step_bd a c)
  exact this l 7 (by omega)
theorem sum_snoc (l : List UInt8) (c : UInt8) : sum (l ++ [c]) = (41 * sum l + (c.toNat : Int) + 1) % 999979 := by
  unfold sum; rw [List.foldl_append]; rfl
end Chk
theorem take_snoc (s : ByteArray) (k : Nat) (h : k < s.size) : s.data.toList.take (k + 1) = s.data.toList.take k ++ [s[k]] := by
  rw [List.take_succ_eq_append_getElem (by simpa using h)]; rfl
theorem ret_int {k : IntKind} {a b : Int} (h : a = b) : Ending.returned (.int k a) = .returned (.int k b) := by rw [h]
end Go.Proofs.Ytfepilpllfiegaa
/- Names, walked: the program's isName and the reference's l2Name are one function of the bytes. Conditions: none. -/
namespace Go.Proofs.Ytfepilpllfiegaa
open Go.RowKit
def letB (c : UInt8) : Bool := decide (97 ≤ c.toNat ∧ c.toNat ≤ 122)
def digB (c : UInt8) : Bool := decide (48 ≤ c.toNat ∧ c.toNat ≤ 57)
/-- What the bytes of a name pass, from place k on. -/
def okAt (k : Nat) (c : UInt8) : Bool := letB c || (digB c && !(k == 0))
def okTo (l : List UInt8) (k : Nat) : Prop := ∀ j c, j < k → l[j]? = some c → okAt j c = true
def nameB (l : List UInt8) : Bool := decide (1 ≤ l.length ∧ l.length ≤ 8) && (l.zipIdx.all fun x => okAt x.2 x.1)
theorem okTo_all {l : List UInt8} : okTo l l.length ↔ (l.zipIdx.all fun x => okAt x.2 x.1) = true := by
  constructor
  · intro h
    rw [List.all_eq_true]
    rintro ⟨c, j⟩ hx
    rw [List.mem_zipIdx_iff_getElem?] at hx
    exact h j c (List.getElem?_eq_some_iff.1 hx).1 hx
  · intro h j c hj hc
    rw [List.all_eq_true] at h
    exact h (c, j) (List.mem_zipIdx_iff_getElem?.2 hc)
theorem okTo_succ {l : List UInt8} {k : Nat} {c : UInt8} (h : okTo l k) (hc : l[k]? = some c) (ho : okAt k c = true) : okTo l (k + 1) := by
  intro j d hj hd
  rcases Nat.lt_succ_iff_lt_or_eq.1 hj with hlt | rfl
  · exact h j d hlt hd
  · rw [hc] at hd; injection hd with hd; subst hd; exact ho
theorem nameB_no {l : List UInt8} {k : Nat} {c : UInt8} (hc : l[k]? = some c) (ho : okAt k c = false) : nameB l = false := by
  unfold nameB
  rw [Bool.and_eq_false_iff]
  refine .inr ?_
  rw [← Bool.not_eq_true, ← okTo_all]
  intro h
  have := h k c (List.getElem?_eq_some_iff.1 hc).1 hc
  rw [ho] at this; cases this
theorem nameB_yes {l : List UInt8} (h : okTo l l.length) : nameB l = inB 1 8 l.length := by
  unfold nameB inB
  rw [okTo_all.1 h, Bool.and_true]
  rw [Bool.eq_iff_iff]; simp only [decide_eq_true_eq]; omega
theorem byte_cases (c : Nat) : c < 48 ∨ (48 ≤ c ∧ c ≤ 57) ∨ (58 ≤ c ∧ c < 97) ∨ (97 ≤ c ∧ c ≤ 122) ∨ 122 < c := by omega
theorem size_list (s : ByteArray) : s.data.toList.length = s.size := by simp
theorem get_list (s : ByteArray) (k : Nat) (h : k < s.size) : s.data.toList[k]? = some s[k] := by
  rw [List.getElem?_eq_getElem (by simpa using h)]; rfl
set_option maxHeartbeats 1000000 in
theorem isName_any (s : ByteArray) (w : World) (hs : s.size ≤ maxLen) :
    Calls Try.prog 105 #[.string s] w fun e w' => e = .returned (.bool (nameB s.data.toList)) ∧ ∃ n, w' = w.drewN n := by
  unfold maxLen at hs
  go_enter Try.func105, Try.ntmps105
  go_wp2
  go_loopw [8] (fun i wr => ∃ k n : Nat, k ≤ s.size ∧ i = .int .i64 k ∧ Hid (okTo s.data.toList k) ∧ wr = w.drewN n) (fun i _ => s.size - (intOf i).toNat)
  case atStart => exact ⟨0, 0, Nat.zero_le _, rfl, fun j c hj => by omega, rfl⟩
  case round =>
    obtain ⟨k, n, hk, rfl, hok, rfl⟩ := hrel
    by_cases hlt : k < s.size
    · have hg := get_list s k hlt
      have hb : (s[k].toNat : Int) < 256 := by have := s[k].toNat_lt; omega
      have hg' : ∀ b, okAt k s[k] = b → b = true → Hid (okTo s.data.toList (k + 1)) := fun b hb1 hb2 => okTo_succ hok hg (hb1.trans hb2)
      have hno : ∀ b, okAt k s[k] = b → b = false → Hid (nameB s.data.toList = false) := fun b hb1 hb2 => nameB_no hg (hb1.trans hb2)
      generalize hc : s[k] = c at hb hg hg' hno
      have hget : s[k] = c := hc
      clear hc
      rcases byte_cases c.toNat with h1 | ⟨h1, h2⟩ | ⟨h1, h2⟩ | ⟨h1, h2⟩ | h1
      · have d1 : decide ((97 : Int) ≤ (c.toNat : Int)) = false := by simp; omega
        have d3 : decide ((48 : Int) ≤ (c.toNat : Int)) = false := by simp; omega
        have HN := hno _ (by unfold okAt letB digB; simp; omega) rfl
        clear hg' hno hg
        go_wp2
        go_quiet (fail)
        go_wp2
        go_ret
        exact ⟨by rw [HN.out]; rfl, _, rfl⟩
      · by_cases hk0 : k = 0
        · subst hk0
          have d1 : decide ((97 : Int) ≤ (c.toNat : Int)) = false := by simp; omega
          have d3 : decide ((48 : Int) ≤ (c.toNat : Int)) = true := by simp; omega
          have d4 : decide ((c.toNat : Int) ≤ 57) = true := by simp; omega
          have HN := hno _ (by unfold okAt letB digB; simp; omega) rfl
          clear hg' hno hg
          go_wp2
          go_quiet (fail)
          go_wp2
          go_ret
          exact ⟨by rw [HN.out]; rfl, _, rfl⟩
        · have hk1 : ((k : Int) == 0) = false := by simp; omega
          have d1 : decide ((97 : Int) ≤ (c.toNat : Int)) = false := by simp; omega
          have d3 : decide ((48 : Int) ≤ (c.toNat : Int)) = true := by simp; omega
          have d4 : decide ((c.toNat : Int) ≤ 57) = true := by simp; omega
          have HY := hg' _ (by unfold okAt letB digB; simp; omega) rfl
          clear hg' hno hg
          go_wp2
          go_quiet (fail)
          go_wp2
          go_roundw
          case rel => exact ⟨k + 1, _, by omega, by go_num, HY, rfl⟩
          case measure => simp [intOf]; omega
      · have d1 : decide ((97 : Int) ≤ (c.toNat : Int)) = false := by simp; omega
        have d3 : decide ((48 : Int) ≤ (c.toNat : Int)) = true := by simp; omega
        have d4 : decide ((c.toNat : Int) ≤ 57) = false := by simp; omega
        have HN := hno _ (by unfold okAt letB digB; simp; omega) rfl
        clear hg' hno hg
        go_wp2
        go_quiet (fail)
        go_wp2
        go_ret
        exact ⟨by rw [HN.out]; rfl, _, rfl⟩
      · have d1 : decide ((97 : Int) ≤ (c.toNat : Int)) = true := by simp; omega
        have d2 : decide ((c.toNat : Int) ≤ 122) = true := by simp; omega
        have d3 : decide ((48 : Int) ≤ (c.toNat : Int)) = true := by simp; omega
        have d4 : decide ((c.toNat : Int) ≤ 57) = false := by simp; omega
        have HY := hg' _ (by unfold okAt letB digB; simp; omega) rfl
        clear hg' hno hg
        go_wp2
        go_quiet (fail)
        go_wp2
        go_roundw
        case rel => exact ⟨k + 1, _, by omega, by go_num, HY, rfl⟩
        case measure => simp [intOf]; omega
      · have d1 : decide ((97 : Int) ≤ (c.toNat : Int)) = true := by simp; omega
        have d2 : decide ((c.toNat : Int) ≤ 122) = false := by simp; omega
        have d3 : decide ((48 : Int) ≤ (c.toNat : Int)) = true := by simp; omega
        have d4 : decide ((c.toNat : Int) ≤ 57) = false := by simp; omega
        have HN := hno _ (by unfold okAt letB digB; simp; omega) rfl
        clear hg' hno hg
        go_wp2
        go_quiet (fail)
        go_wp2
        go_ret
        exact ⟨by rw [HN.out]; rfl, _, rfl⟩
    · go_wp2_with (go_at_call 107; refine (within_any _ _ _ _).mono ?_; rintro e w' ⟨rfl, rfl⟩)
      go_ret
      have : k = s.size := by omega
      subst this
      exact ⟨by rw [nameB_yes (by rw [size_list]; exact hok.out), size_list]; rfl, _, rfl⟩
end Go.Proofs.Ytfepilpllfiegaa
/- Finding a value in a list, in plain Lean. Conditions: none. -/
namespace Go.Proofs.Ytfepilpllfiegaa
/-- The index of the first x, counted from k; -1 if there is none. -/
def findFrom {α : Type} [DecidableEq α] (x : α) : List α → Nat → Int
  | [], _ => -1
  | y :: l, k => if y = x then (k : Int) else findFrom x l (k + 1)
def findI {α : Type} [DecidableEq α] (l : List α) (x : α) : Int := findFrom x l 0
section
variable {α : Type} {l : List α} {x : α}
/-- None of the first k is x. -/
def noneTo (l : List α) (x : α) (k : Nat) : Prop := ∀ j, j < k → l[j]? ≠ some x
theorem noneTo_zero : noneTo l x 0 := fun j hj => by omega
theorem noneTo_succ {k : Nat} {y : α} (h : noneTo l x k) (hy : l[k]? = some y) (hne : y ≠ x) : noneTo l x (k + 1) := by
  intro j hj
  rcases Nat.lt_succ_iff_lt_or_eq.1 hj with hlt | rfl
  · exact h j hlt
  · rw [hy]; intro e; injection e with e; exact hne e
theorem noneTo_not {n : Nat} (hn : l.length = n) (h : noneTo l x n) : x ∉ l := by
  intro hm
  obtain ⟨i, hi, e⟩ := List.mem_iff_getElem.1 hm
  exact h i (by omega) (by rw [List.getElem?_eq_getElem hi, e])
end
section
variable {α : Type} [DecidableEq α] {l : List α} {x : α}
theorem findFrom_at : ∀ {l : List α} {k0 k : Nat}, l[k]? = some x → (∀ j, j < k → l[j]? ≠ some x) → findFrom x l k0 = ((k0 + k : Nat) : Int) := by
  intro l
  induction l with
  | nil => intro k0 k h; simp at h
  | cons y l ih =>
    intro k0 k h hn
    unfold findFrom
    cases k with
    | zero => simp at h; rw [if_pos h]; rfl
    | succ k =>
      rw [if_neg (fun e => hn 0 (Nat.succ_pos _) (by simp [e]))]
      rw [ih (k := k) (by simpa using h) (fun j hj => by have := hn (j + 1) (by omega); simpa using this)]
      congr 1; omega
theorem findFrom_none : ∀ {l : List α} {k0 : Nat}, x ∉ l → findFrom x l k0 = -1 := by
  intro l
  induction l with
  | nil => intro k0 _; rfl
  | cons y l ih =>
    intro k0 h
    simp only [List.mem_cons, not_or] at h
    unfold findFrom
    rw [if_neg (fun e => h.1 e.symm), ih h.2]
theorem findI_at {k : Nat} (h : noneTo l x k) (hx : l[k]? = some x) : findI l x = k := by
  have := findFrom_at (k0 := 0) hx h
  simpa [findI] using this
theorem findI_none {n : Nat} (hn : l.length = n) (h : noneTo l x n) : findI l x = -1 := findFrom_none (noneTo_not hn h)
theorem findFrom_ge : ∀ {l : List α} {k0 : Nat}, (0 ≤ findFrom x l k0 ↔ x ∈ l) := by
  intro l
  induction l with
  | nil => intro k0; simp [findFrom]
  | cons y l ih =>
    intro k0
    unfold findFrom
    by_cases h : y = x
    · simp [h]
    · rw [if_neg h, ih]; simp [show x ≠ y from fun e => h e.symm]
theorem findI_ge : 0 ≤ findI l x ↔ x ∈ l := findFrom_ge
theorem findFrom_bd : ∀ {l : List α} {k0 : Nat}, -1 ≤ findFrom x l k0 ∧ findFrom x l k0 < k0 + l.length ∧ (0 ≤ findFrom x l k0 → (k0 : Int) ≤ findFrom x l k0) := by
  intro l
  induction l with
  | nil => intro k0; simp [findFrom]; omega
  | cons y l ih =>
    intro k0
    unfold findFrom
    by_cases h : y = x
    · rw [if_pos h]; simp only [List.length_cons]; omega
    · rw [if_neg h]; have := ih (k0 := k0 + 1); simp only [List.length_cons]; omega
theorem findI_bd : -1 ≤ findI l x ∧ findI l x < l.length := by
  have := findFrom_bd (x := x) (l := l) (k0 := 0); unfold findI; omega
/-- Is x in the list? -/
def hasB (l : List α) (x : α) : Bool := decide (0 ≤ findI l x)
theorem hasB_iff : hasB l x = true ↔ x ∈ l := by unfold hasB; rw [decide_eq_true_eq]; exact findI_ge
end
end Go.Proofs.Ytfepilpllfiegaa
/- Fibers: how they compare, in plain Lean. Conditions: none. -/
namespace Go.Proofs.Ytfepilpllfiegaa
/-- A fiber. -/
structure Fib where
  a : Int
  b : Int
  len : Int
  risk : Int
def fibV (f : Fib) : Value := .agg #[.int .i64 f.a, .int .i64 f.b, .int .i64 f.len, .int .i64 f.risk]
def elFib : El Fib := ⟨4, fun f => [.int .i64 f.a, .int .i64 f.b, .int .i64 f.len, .int .i64 f.risk], fun _ => rfl, by decide,
  fun _ u h => by simp at h; rcases h with rfl | rfl | rfl | rfl <;> rfl⟩
/-- The first number that is not 0. -/
def orI : List Int → Int
  | [] => 0
  | x :: l => if x = 0 then orI l else x
def cmpFib (f g : Fib) : Int := orI [cmpB f.a g.a, cmpB f.b g.b, cmpB f.len g.len, cmpB f.risk g.risk]
/-- The reference's number. -/
def befF (f g : Fib) : Int := if f.a = g.a then if f.b = g.b then if f.len = g.len then f.risk - g.risk else f.len - g.len else f.b - g.b else f.a - g.a
theorem cmpB_zero {a b : Int} : cmpB a b = 0 ↔ a = b := by unfold cmpB; split <;> (try split) <;> omega
theorem cmpB_pos {a b : Int} : 0 < cmpB a b ↔ b < a := by unfold cmpB; split <;> (try split) <;> omega
theorem cmpB_neg {a b : Int} : cmpB a b < 0 ↔ a < b := by unfold cmpB; split <;> (try split) <;> omega
theorem befF_pos (f g : Fib) : 0 < befF f g ↔ 0 < cmpFib f g := by
  unfold befF cmpFib orI orI orI orI orI
  simp only [cmpB_zero]
  split
  · split
    · split
      · split
        · rename_i h; simp [h]
        · rw [cmpB_pos]; omega
      · rw [cmpB_pos]; omega
    · rw [cmpB_pos]; omega
  · rw [cmpB_pos]; omega
theorem befF_le (f g : Fib) : befF f g ≤ 0 ↔ cmpFib f g ≤ 0 := by have := befF_pos f g; omega
/-- A row of fibers, one more written. -/
def put4 (cur : Array Value) (k : Nat) (f : Fib) : Array Value := (((cur.setIfInBounds (k * 4) (.int .i64 f.a)).setIfInBounds (k * 4 + 1) (.int .i64 f.b)).setIfInBounds (k * 4 + 2) (.int .i64 f.len)).setIfInBounds (k * 4 + 3) (.int .i64 f.risk)
theorem put4_size (cur : Array Value) (k : Nat) (f : Fib) : (put4 cur k f).size = cur.size := by simp [put4]
theorem put4_other {cur : Array Value} {k i : Nat} {f : Fib} (h : i < k * 4 ∨ k * 4 + 3 < i) : (put4 cur k f)[i]? = cur[i]? := by
  unfold put4
  rw [Array.getElem?_setIfInBounds_ne (by omega), Array.getElem?_setIfInBounds_ne (by omega), Array.getElem?_setIfInBounds_ne (by omega), Array.getElem?_setIfInBounds_ne (by omega)]
theorem put4_new {cur : Array Value} {k : Nat} {f : Fib} (hs : k * 4 + 3 < cur.size) : ∀ i u, (elFib.cells f)[i]? = some u → (put4 cur k f)[k * 4 + i]? = some u := by
  intro i u hu
  unfold put4
  match i, hu with
  | 0, hu =>
    rw [Array.getElem?_setIfInBounds_ne (by omega), Array.getElem?_setIfInBounds_ne (by omega), Array.getElem?_setIfInBounds_ne (by omega)]
    rw [Nat.add_zero, Array.getElem?_setIfInBounds_self_of_lt (by omega)]; exact hu
  | 1, hu =>
    rw [Array.getElem?_setIfInBounds_ne (by omega), Array.getElem?_setIfInBounds_ne (by omega)]
    rw [Array.getElem?_setIfInBounds_self_of_lt (by simp; omega)]; exact hu
  | 2, hu =>
    rw [Array.getElem?_setIfInBounds_ne (by omega)]
    rw [Array.getElem?_setIfInBounds_self_of_lt (by simp; omega)]; exact hu
  | 3, hu => rw [Array.getElem?_setIfInBounds_self_of_lt (by simp; omega)]; exact hu
  | i + 4, hu => simp [elFib] at hu
theorem Filled.put4 {cur : Array Value} {xs : List Fib} {k : Nat} {f : Fib} (h : Filled elFib cur xs k) (hx : xs[k]? = some f) (hs : k * 4 + 3 < cur.size) : Filled elFib (put4 cur k f) xs (k + 1) :=
  h.step hx (fun _ hi => put4_other (.inl hi)) (put4_new hs)
theorem Blk.put4 {w : World} {g : Nat} {e : TypeId} {cur : Array Value} (h : Blk w g e cur) (k : Nat) (f : Fib) :
    Blk ((((w.setCell ⟨g, k * 4, none⟩ (.int .i64 f.a)).setCell ⟨g, k * 4 + 1, none⟩ (.int .i64 f.b)).setCell ⟨g, k * 4 + 2, none⟩ (.int .i64 f.len)).setCell ⟨g, k * 4 + 3, none⟩ (.int .i64 f.risk)) g e (put4 cur k f) :=
  (((h.set _ _).set _ _).set _ _).set _ _
end Go.Proofs.Ytfepilpllfiegaa
/- Networks that are valid, in plain Lean. Conditions: none. -/
namespace Go.Proofs.Ytfepilpllfiegaa
/-- All of the first k pass. -/
def allTo (p : Nat → Bool) (k : Nat) : Prop := ∀ j, j < k → p j = true
def allB (p : Nat → Bool) (n : Nat) : Bool := (List.range n).all p
theorem allTo_zero (p : Nat → Bool) : allTo p 0 := fun j hj => by omega
theorem allTo_succ {p : Nat → Bool} {k : Nat} (h : allTo p k) (hk : p k = true) : allTo p (k + 1) := by
  intro j hj
  rcases Nat.lt_succ_iff_lt_or_eq.1 hj with hlt | rfl
  · exact h j hlt
  · exact hk
theorem allB_iff {p : Nat → Bool} {n : Nat} : allB p n = true ↔ allTo p n := by unfold allB allTo; simp
theorem allB_yes {p : Nat → Bool} {n k : Nat} (h : allTo p k) (hk : k = n) : allB p n = true := by subst hk; exact allB_iff.2 h
theorem allB_no {p : Nat → Bool} {n k : Nat} (hk : k < n) (h : p k = false) : allB p n = false := by
  rw [← Bool.not_eq_true, allB_iff]; intro ht; have := ht k hk; rw [h] at this; cases this
instance : Inhabited Fib := ⟨⟨0, 0, 0, 0⟩⟩
def nameAt (xs : List ByteArray) (k : Nat) : Bool := nameB (xs.getD k ByteArray.empty).data.toList && !hasB (xs.take k) (xs.getD k ByteArray.empty)
def fibB (n : Nat) (f : Fib) : Bool := decide (0 ≤ f.a ∧ f.a < f.b ∧ f.b < n ∧ 1 ≤ f.len ∧ f.len ≤ 5000 ∧ 0 ≤ f.risk ∧ f.risk ≤ 9)
def fibAt (n : Nat) (fs : List Fib) (k : Nat) : Bool := fibB n (fs.getD k default) && (k == 0 || decide (cmpFib (fs.getD (k - 1) default) (fs.getD k default) ≤ 0))
def goodB (xs : List ByteArray) (fs : List Fib) : Bool :=
  decide (2 ≤ xs.length ∧ xs.length ≤ 8) && decide (fs.length ≤ 14) && allB (nameAt xs) xs.length && allB (fibAt xs.length fs) fs.length
theorem goodB_len {xs : List ByteArray} {fs : List Fib} (h : decide (2 ≤ xs.length ∧ xs.length ≤ 8) = false) : goodB xs fs = false := by unfold goodB; rw [h]; simp
theorem goodB_fib {xs : List ByteArray} {fs : List Fib} (h : decide (fs.length ≤ 14) = false) : goodB xs fs = false := by unfold goodB; rw [h]; simp
theorem goodB_name {xs : List ByteArray} {fs : List Fib} {k : Nat} (hk : k < xs.length) (h : nameAt xs k = false) : goodB xs fs = false := by unfold goodB; rw [allB_no hk h]; simp
theorem goodB_fibAt {xs : List ByteArray} {fs : List Fib} {k : Nat} (hk : k < fs.length) (h : fibAt xs.length fs k = false) : goodB xs fs = false := by unfold goodB; rw [allB_no hk h]; simp
theorem goodB_rest {xs : List ByteArray} {fs : List Fib} (h1 : allTo (nameAt xs) xs.length) (h2 : allTo (fibAt xs.length fs) fs.length) :
    goodB xs fs = (decide (2 ≤ xs.length ∧ xs.length ≤ 8) && decide (fs.length ≤ 14)) := by unfold goodB; rw [allB_iff.2 h1, allB_iff.2 h2]; simp
theorem fib_cases (n : Nat) (f : Fib) : decide (f.a < 0) = true ∨ (decide (f.a < 0) = false ∧ (decide (f.b ≤ f.a) = true ∨ (decide (f.b ≤ f.a) = false ∧ (decide ((n : Int) ≤ f.b) = true ∨
    (decide ((n : Int) ≤ f.b) = false ∧ (inB 1 5000 f.len = false ∨ (inB 1 5000 f.len = true ∧ (inB 0 9 f.risk = false ∨ inB 0 9 f.risk = true)))))))) := by
  cases decide (f.a < 0) <;> cases decide (f.b ≤ f.a) <;> cases decide ((n : Int) ≤ f.b) <;> cases inB 1 5000 f.len <;> cases inB 0 9 f.risk <;> simp
theorem fibB_eq (n : Nat) (f : Fib) : fibB n f = (!decide (f.a < 0) && !decide (f.b ≤ f.a) && !decide ((n : Int) ≤ f.b) && inB 1 5000 f.len && inB 0 9 f.risk) := by
  unfold fibB inB; rw [Bool.eq_iff_iff]; simp; omega
theorem getD_of {α : Type} {l : List α} {k : Nat} {x d : α} (h : l[k]? = some x) : l.getD k d = x := by simp [List.getD, h]
theorem get_of {α : Type} {l : List α} {k n : Nat} (hl : l.length = n) (hk : k < n) : ∃ x, l[k]? = some x := ⟨l[k]'(by omega), List.getElem?_eq_getElem _⟩
end Go.Proofs.Ytfepilpllfiegaa
/- eqIntSS, walked. Conditions: at most 1048576 rows and numbers in a row. -/
namespace Go.Proofs.Ytfepilpllfiegaa
open Go.RowKit
/-- Rows of numbers as they read. -/
def SeesSS (w : World) (A : Option Addr) (n : Nat) (ss : List Sl) (rows : List (List Int)) : Prop :=
  Sees elSl w w.heap.size A n ss ∧ ss.length = rows.length ∧ ∀ (i : Nat) s r, ss[i]? = some s → rows[i]? = some r → s.n = r.length ∧ Sees elInt w w.heap.size s.A s.n r
theorem OwnsSS.sees {w : World} {base n c : Nat} {A : Option Addr} {ss : List Sl} {rows : List (List Int)} (h : OwnsSS w base (.slice A n c) ss rows) : SeesSS w A ss.length ss rows := by
  refine ⟨h.1.sees, h.2.1, fun i s r h1 h2 => ?_⟩
  have ho := h.2.2.1 i s r h1 h2
  obtain ⟨A', c', hv, _, _, hs⟩ := ho.form
  unfold slV at hv
  injection hv with e1 e2 e3
  exact ⟨e2, by rw [e1, e2]; exact hs⟩
theorem SeesSS.grow {w w' : World} {A : Option Addr} {n : Nat} {ss : List Sl} {rows : List (List Int)} (h : SeesSS w A n ss rows) (hb : Below w.heap.size w w') : SeesSS w' A n ss rows :=
  ⟨(h.1.grow hb).more hb.size, h.2.1, fun i s r h1 h2 => ⟨(h.2.2 i s r h1 h2).1, ((h.2.2 i s r h1 h2).2.grow hb).more hb.size⟩⟩
end Go.Proofs.Ytfepilpllfiegaa
/- markIntSS, walked. Conditions: at most 1048576 rows and numbers in a row; the last mark below 2^40. -/
namespace Go.Proofs.Ytfepilpllfiegaa
open Go.RowKit
/-- The mark at which row j begins. -/
def offS (k : Int) (rows : List (List Int)) (j : Nat) : Int := k + ((((rows.take j).map List.length).sum : Nat) : Int)
theorem offS_zero (k : Int) (rows : List (List Int)) : offS k rows 0 = k := by simp [offS]
theorem offS_succ {k : Int} {rows : List (List Int)} {j : Nat} {r : List Int} (h : rows[j]? = some r) : offS k rows (j + 1) = offS k rows j + (r.length : Int) := by
  unfold offS
  rw [List.take_add_one, h]
  simp
  omega
theorem offS_ge (k : Int) (rows : List (List Int)) (j : Nat) : k ≤ offS k rows j := by unfold offS; omega
theorem offS_le {k : Int} {rows : List (List Int)} : ∀ {d j : Nat}, j + d = rows.length → offS k rows j ≤ offS k rows rows.length := by
  intro d
  induction d with
  | zero => intro j h; rw [show j = rows.length by omega]; exact Int.le_refl _
  | succ d ih =>
    intro j h
    have h1 := ih (j := j + 1) (by omega)
    obtain ⟨r, hr⟩ : ∃ r, rows[j]? = some r := ⟨rows[j]'(by omega), List.getElem?_eq_getElem _⟩
    rw [offS_succ hr] at h1
    omega
/-- Row i behind j rows' marking. -/
def rowM (k : Int) (rows : List (List Int)) (j i : Nat) (r : List Int) : List Int := if i < j then marks (offS k rows i) r.length else r
/-- All rows, marked. -/
def marksSS (k : Int) (rows : List (List Int)) : List (List Int) := (List.range rows.length).map fun i => marks (offS k rows i) (rows.getD i []).length
theorem marksSS_get {k : Int} {rows : List (List Int)} {i : Nat} {r q : List Int} (h : rows[i]? = some r) (hq : (marksSS k rows)[i]? = some q) : q = marks (offS k rows i) r.length := by
  have hi := (List.getElem?_eq_some_iff.1 h).1
  unfold marksSS at hq
  rw [List.getElem?_map, List.getElem?_range hi] at hq
  simp [h] at hq
  exact hq.symm
end Go.Proofs.Ytfepilpllfiegaa
/- markText, walked: the letter m and the digits. Conditions: the number is at most 2^40 and a bit. -/
namespace Go.Proofs.Ytfepilpllfiegaa
open Go.RowKit Go.WideShapes
/-- The digits of k ahead of out, with fuel. -/
def mtGo : Nat → Nat → List UInt8 → List UInt8
  | 0, _, out => out
  | f + 1, k, out => if k = 0 then out else mtGo f (k / 10) (UInt8.ofNat (48 + k % 10) :: out)
theorem mtGo_zero (f : Nat) (out : List UInt8) : mtGo f 0 out = out := by cases f <;> simp [mtGo]
theorem mtGo_succ {f k : Nat} {out : List UInt8} (hk : 0 < k) (hf : k ≤ f) : ∃ f', k / 10 ≤ f' ∧ mtGo f k out = mtGo f' (k / 10) (UInt8.ofNat (48 + k % 10) :: out) := by
  cases f with
  | zero => omega
  | succ f => exact ⟨f, by omega, by rw [mtGo, if_neg (by omega)]⟩
def mtx (k : Nat) : ByteArray := ⟨(109 :: (if k = 0 then [48] else mtGo k k [])).toArray⟩
theorem bytes_cons (c : UInt8) (out : List UInt8) : (⟨#[c]⟩ : ByteArray) ++ ⟨out.toArray⟩ = ⟨(c :: out).toArray⟩ := by
  apply bytes_inj
  simp [ByteArray.data_append]
end Go.Proofs.Ytfepilpllfiegaa
/- markStringS and heldStringS, walked. Conditions: at most 1048576 strings, marks below 2^40. -/
namespace Go.Proofs.Ytfepilpllfiegaa
open Go.RowKit
/-- The texts of the numbers from k on. -/
def smarks (k : Int) (n : Nat) : List ByteArray := (List.range n).map fun (j : Nat) => mtx (k + (j : Int)).toNat
theorem smarks_len (k : Int) (n : Nat) : (smarks k n).length = n := by simp [smarks]
theorem smarks_get {k : Int} {n j : Nat} (h : j < n) : (smarks k n)[j]? = some (mtx (k + (j : Int)).toNat) := by simp [smarks, h]
end Go.Proofs.Ytfepilpllfiegaa
/- toStringS, walked: a new row that holds the same strings. Conditions: at most 1048576 of them. -/
namespace Go.Proofs.Ytfepilpllfiegaa
open Go.RowKit
theorem str_info : (Try.prog.info? 9).map (fun i => (i.zero, i.size, i.bytes)) = some (some (.string ByteArray.empty), 1, 16) := by kernel_rfl
end Go.Proofs.Ytfepilpllfiegaa
/- toFiber and toFiberS, walked: a new row that holds the same fibers. Conditions: at most 1048576 of them. -/
namespace Go.Proofs.Ytfepilpllfiegaa
open Go.RowKit
theorem fib_info : (Try.prog.info? 62).map (fun i => (i.zero, i.size, i.bytes)) = some (some (.agg #[.int .i64 0, .int .i64 0, .int .i64 0, .int .i64 0]), 4, 32) := by kernel_rfl
end Go.Proofs.Ytfepilpllfiegaa
/- toNetwork, walked: a network in new memory. Conditions: at most 1048576 names and fibers. -/
namespace Go.Proofs.Ytfepilpllfiegaa
open Go.RowKit
/-- A network of the call's own. -/
def NetOwn (w : World) (base : Nat) (A : Option Addr) (n c : Nat) (A' : Option Addr) (m d : Nat) (xs : List ByteArray) (fs : List Fib) : Prop :=
  n ≤ c ∧ c ≤ maxLen ∧ m ≤ d ∧ d ≤ maxLen ∧ xs.length = n ∧ fs.length = m ∧ Owns elStr w base 9 (.slice A n c) xs ∧ Owns elFib w base 62 (.slice A' m d) fs
section
variable {w w' : World} {base n c m d : Nat} {A A' : Option Addr} {xs : List ByteArray} {fs : List Fib}
theorem NetOwn.below (h : NetOwn w base A n c A' m d xs fs) (hb : Below w.heap.size w w') : NetOwn w' base A n c A' m d xs fs :=
  let ⟨a, b, c, d, e, f, g, i⟩ := h; ⟨a, b, c, d, e, f, g.below hb, i.below hb⟩
theorem NetOwn.from_ {base' : Nat} (h : NetOwn w base A n c A' m d xs fs) (hb : base' ≤ base) : NetOwn w base' A n c A' m d xs fs :=
  let ⟨a, b, c, d, e, f, g, i⟩ := h; ⟨a, b, c, d, e, f, g.base hb, i.base hb⟩
theorem NetOwn.strs (h : NetOwn w base A n c A' m d xs fs) : Sees elStr w w.heap.size A n xs := by
  obtain ⟨_, _, _, _, e, _, g, _⟩ := h
  obtain ⟨A1, c1, hv, _, _, hs⟩ := g.form
  injection hv with h1 h2 h3; subst h1; rw [e] at hs; exact hs
theorem NetOwn.fibs (h : NetOwn w base A n c A' m d xs fs) : Sees elFib w w.heap.size A' m fs := by
  obtain ⟨_, _, _, _, _, f, _, i⟩ := h
  obtain ⟨A1, c1, hv, _, _, hs⟩ := i.form
  injection hv with h1 h2 h3; subst h1; rw [f] at hs; exact hs
end
end Go.Proofs.Ytfepilpllfiegaa
/- markFiberS, heldFiberS, markNetwork, heldNetwork, walked. Conditions: at most 1048576 elements, marks below 2^39. -/
namespace Go.Proofs.Ytfepilpllfiegaa
open Go.RowKit
/-- The fibers that four numbers each make, from k on. -/
def fmarks (k : Int) (n : Nat) : List Fib := (List.range n).map fun (j : Nat) => ⟨k + 4 * (j : Int), k + 4 * (j : Int) + 1, k + 4 * (j : Int) + 1 + 1, k + 4 * (j : Int) + 1 + 1 + 1⟩
theorem fmarks_len (k : Int) (n : Nat) : (fmarks k n).length = n := by simp [fmarks]
theorem fmarks_get {k : Int} {n j : Nat} (h : j < n) : (fmarks k n)[j]? = some ⟨k + 4 * (j : Int), k + 4 * (j : Int) + 1, k + 4 * (j : Int) + 1 + 1, k + 4 * (j : Int) + 1 + 1 + 1⟩ := by simp [fmarks, h]
theorem Touch.set4 {S : Nat → Prop} (w : World) {g : Nat} (hg : S g) (j : Nat) (f : Fib) :
    Touch S w ((((w.setCell ⟨g, j * 4, none⟩ (.int .i64 f.a)).setCell ⟨g, j * 4 + 1, none⟩ (.int .i64 f.b)).setCell ⟨g, j * 4 + 2, none⟩ (.int .i64 f.len)).setCell ⟨g, j * 4 + 3, none⟩ (.int .i64 f.risk)) :=
  (((Touch.set w (p := ⟨g, j * 4, none⟩) hg _).trans (Touch.set _ (p := ⟨g, j * 4 + 1, none⟩) hg _)).trans (Touch.set _ (p := ⟨g, j * 4 + 2, none⟩) hg _)).trans (Touch.set _ (p := ⟨g, j * 4 + 3, none⟩) hg _)
section
variable {base n c m d : Nat} {A A' : Option Addr} {xs : List ByteArray} {fs : List Fib}
end
end Go.Proofs.Ytfepilpllfiegaa
/- slices.Index and slices.Contains over strings, walked. Conditions: none. -/
namespace Go.Proofs.Ytfepilpllfiegaa
open Go.RowKit
theorem indexS_any {B n c : Nat} {A : Option Addr} {xs : List ByteArray} (s : ByteArray) (w : World) (hA : Sees elStr w B A n xs) (hn : n ≤ maxLen) :
    Calls Try.prog 146 #[.slice A n c, .string s] w fun e w' => e = .returned (.int .i64 (findI xs s)) ∧ w = w' := by
  unfold maxLen at hn
  go_enter Try.func146, Try.ntmps146
  go_wp2
  go_loop [8] (fun i => ∃ k : Nat, k ≤ n ∧ i = .int .i64 k ∧ Hid (noneTo xs s k)) (fun i => n - (intOf i).toNat)
  case atStart => exact ⟨0, Nat.zero_le _, rfl, noneTo_zero⟩
  case round =>
    obtain ⟨k, hk, rfl, hno⟩ := hrel
    by_cases hlt : k < n
    · obtain ⟨b, o, rfl, _, hx⟩ := hA.at_ hlt
      obtain ⟨x, hxk⟩ : ∃ x, xs[k]? = some x := ⟨xs[k]'(by rw [hA.len]; exact hlt), List.getElem?_eq_getElem _⟩
      have hc := hx k x hxk 0 _ rfl
      simp only [elStr, Nat.mul_one, Nat.add_zero] at hc
      clear hx
      by_cases heq : x = s
      · subst heq
        have HF := hid (findI_at hno hxk)
        clear hxk
        go_wp2
        go_ret
        exact ⟨by rw [HF.out]; rfl, rfl⟩
      · have hne := str_ne (fun e : s = x => heq e.symm)
        have HN := hid (noneTo_succ hno hxk heq)
        clear hxk hno
        go_wp2
        go_round
        case rel => exact ⟨k + 1, by omega, by go_num, HN⟩
        case measure => simp [intOf]; omega
    · have HF : Hid (findI xs s = -1) := findI_none hA.len (by obtain rfl : k = n := (by omega); exact hno.out)
      go_wp2
      go_ret
      exact ⟨by rw [HF.out]; rfl, rfl⟩
theorem containsS_any {B n c : Nat} {A : Option Addr} {xs : List ByteArray} (s : ByteArray) (w : World) (hA : Sees elStr w B A n xs) (hn : n ≤ maxLen) :
    Calls Try.prog 106 #[.slice A n c, .string s] w fun e w' => e = .returned (.bool (hasB xs s)) ∧ w = w' := by
  go_enter Try.func106, Try.ntmps106
  go_wp2_with (go_at_call 146; refine (indexS_any s _ hA hn).mono ?_; rintro e w' ⟨rfl, rfl⟩)
  go_ret
  exact ⟨rfl, rfl⟩
end Go.Proofs.Ytfepilpllfiegaa
/- compareFibers, walked: it returns cmpFib. Conditions: none. -/
namespace Go.Proofs.Ytfepilpllfiegaa
open Go.RowKit
theorem or_any {b o c : Nat} {x0 x1 x2 x3 : Int} (w : World) (h0 : w.cell? ⟨b, o, none⟩ = some (.int .i64 x0)) (h1 : w.cell? ⟨b, o + 1, none⟩ = some (.int .i64 x1)) (h2 : w.cell? ⟨b, o + 2, none⟩ = some (.int .i64 x2)) (h3 : w.cell? ⟨b, o + 3, none⟩ = some (.int .i64 x3)) :
    Calls Try.prog 128 #[.slice (some ⟨b, o, none⟩) 4 c] w fun e w' => e = .returned (.int .i64 (orI [x0, x1, x2, x3])) ∧ w = w' := by
  go_enter Try.func128, Try.ntmps128
  go_wp2
  go_loop [8] (fun i => ∃ k : Nat, k ≤ 4 ∧ i = .int .i64 k ∧ Hid (orI [x0, x1, x2, x3] = orI ([x0, x1, x2, x3].drop k))) (fun i => 4 - (intOf i).toNat)
  case atStart => exact ⟨0, by omega, rfl, rfl⟩
  case round =>
    obtain ⟨k, hk, rfl, hor⟩ := hrel
    have hc : k < 4 → ∃ x, ([x0, x1, x2, x3].drop k) = x :: [x0, x1, x2, x3].drop (k + 1) ∧ w.cell? ⟨b, o + k, none⟩ = some (.int .i64 x) := by
      intro hlt
      have : k = 0 ∨ k = 1 ∨ k = 2 ∨ k = 3 := by omega
      rcases this with rfl | rfl | rfl | rfl
      · exact ⟨x0, rfl, h0⟩
      · exact ⟨x1, rfl, h1⟩
      · exact ⟨x2, rfl, h2⟩
      · exact ⟨x3, rfl, h3⟩
    by_cases hlt : k < 4
    · obtain ⟨x, hd, hx⟩ := hc hlt
      by_cases hz : x = 0
      · subst hz
        have HY : Hid (orI [x0, x1, x2, x3] = orI ([x0, x1, x2, x3].drop (k + 1))) := by rw [hor.out, hd]; simp [Hid, orI]
        clear hd hc h0 h1 h2 h3
        go_wp2
        go_round
        case rel => exact ⟨k + 1, by omega, by go_num, HY⟩
        case measure => simp [intOf]; omega
      · have hz' : (x == 0) = false := by simp [hz]
        have hz2 : (x != 0) = true := by simp [hz]
        have HY : Hid (orI [x0, x1, x2, x3] = x) := by rw [hor.out, hd]; simp [Hid, orI, hz]
        clear hd hc h0 h1 h2 h3
        go_wp2
        go_ret
        exact ⟨by rw [HY.out]; rfl, rfl⟩
    · have HY : Hid (orI [x0, x1, x2, x3] = 0) := by
        obtain rfl : k = 4 := by omega
        rw [hor.out]; rfl
      clear hc h0 h1 h2 h3
      go_wp2
      go_ret
      exact ⟨by rw [HY.out]; rfl, rfl⟩
set_option maxRecDepth 100000 in
theorem compareFibers_any (f g : Fib) (w : World) :
    Calls Try.prog 108 #[fibV f, fibV g] w fun e w' => e = .returned (.int .i64 (cmpFib f g)) ∧ Below w.heap.size w w' := by
  obtain ⟨fa, fb, fl, fr⟩ := f
  obtain ⟨ga, gb, gl, gr⟩ := g
  unfold fibV
  go_enter Try.func108, Try.ntmps108
  go_wp2
  refine region_tail 20 (by kernel_rfl) (by kernel_rfl) ?_
  simp only [List.take_succ_cons, List.take_zero, List.drop_succ_cons, List.drop_zero]
  repeat (first | still_step | still_call ((compare_any _ _ _).mono (fun _ _ h => ⟨h.1, h.2.symm⟩)))
  refine wpStill_nil ?_
  go_wp2_with fail
  refine (or_any (x0 := cmpB fa ga) (x1 := cmpB fb gb) (x2 := cmpB fl gl) (x3 := cmpB fr gr) _ (by go_simp) (by go_simp) (by go_simp) (by go_simp)).mono ?_
  rintro e w' ⟨rfl, rfl⟩
  go_wp2_with fail
  go_ret
  exact ⟨rfl, by repeat (first | exact Below.refl _ _ | apply Below.drew | apply bl_alloc)⟩
end Go.Proofs.Ytfepilpllfiegaa
