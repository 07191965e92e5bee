/- Lemmas and walks that the claim rests on, laid together. Conditions: none. -/
import Derived.ProofKit
import Derived.WalkKit
import Derived.Deep.Slices
import Derived.Deep.Fields
import Derived.Lib.SmallJoins
import Derived.StillTailTactics
import Derived.Deep.QuietTactic
import Derived.BigQuiet
import Derived.Test.YtgoegldffjfmdaaGreatRows
import Derived.Below
/- Common words of these proofs: how a slice shows a list, how a law that returns true and leaves old memory alone meets its row. No program in sight. Conditions: none. -/
namespace Go.Proofs.YtgoegldffjfmdaaGreat
open Go.ChangeShapes Go.WideShapes Go.ChangeAt Go.RowKit Go.Deep

/-- A fact kept from the walk. -/
theorem hid {p : Prop} (h : p) : Hid p := h

theorem ret_bool {a b : Bool} (h : a = b) : Ending.returned (.bool a) = .returned (.bool b) := by rw [h]

/-- Strings compared, as the walk writes it. -/
theorem str_ne {a b : ByteArray} (h : a ≠ b) : (a.toList == b.toList) = false := by
  rw [ByteArray.toList_eq, ByteArray.toList_eq, beq_eq_false_iff_ne]
  exact fun e => h (bytes_inj e)

/-! ### Old memory stands -/
theorem bl_alloc {w w1 : World} (h : Below w.heap.size w w1) (o : Obj) : Below w.heap.size w (w1.alloc o) := h.alloc h.size o
theorem bl_drewN {B : Nat} {w w1 : World} (h : Below B w w1) (n : Nat) : Below B w (w1.drewN n) := ⟨h.os, h.tape, h.output, h.size, h.block⟩
theorem bl_then {w w1 w2 : World} (h : Below w.heap.size w w1) (k : Below w1.heap.size w1 w2) : Below w.heap.size w w2 := h.trans (k.mono h.size)
theorem bl_set {w w1 : World} (h : Below w.heap.size w w1) {p : Addr} (u : Value) (hp : w.heap.size ≤ p.block) : Below w.heap.size w (w1.setCell p u) := h.setCell hp u
theorem bl_cell {w w1 : World} (h : Below w.heap.size w w1) {b o : Nat} {v : Value} (hc : w.cell? ⟨b, o, none⟩ = some v) : w1.cell? ⟨b, o, none⟩ = some v :=
  (h.cell (World.block_lt_of_cell? w _ hc)).trans hc
/-- A region whose head reads and calls without a trace and whose tail is forced. -/
theorem region_tail {P : Program} {id : Nat} {Q : Exit → Act → World → Prop} {a : Act} {w : World} {l : List Oper} (n : Nat) (hm : P.follows .mixedOrders = true) (hB : Region.lexTailB .any l.toArray n = true)
    (h : wpStill P l.toArray w.drew (fun a' => wpList P l.toArray Q (l.drop n) a' w.drew) (l.take n) a) : (Code.region id l.toArray true).wp P Q a w :=
  wp_region_still_tail n hm hB h
/-! ### A region that draws its order, whose operations read old memory alone and whose callees leave old memory alone -/
/-- The worlds in which what was there at w is as it was. -/
def Cls (w w' : World) : Prop := Below w.heap.size w w'
theorem Cls.refl (w : World) : Cls w w := Below.refl _ _
theorem Cls.cell {w w1 : World} (h : Cls w w1) {b o : Nat} {v : Value} (hc : w.cell? ⟨b, o, none⟩ = some v) : w1.cell? ⟨b, o, none⟩ = some v := bl_cell h hc
/-- The whole region by one walk of the text's order. -/
theorem region_cls {P : Program} {id : Nat} {Q : Exit → Act → World → Prop} {a : Act} {w : World} {l : List Oper} (hm : P.follows .mixedOrders = true) (hB : Region.lexB .any l.toArray = true)
    (h : wpQuiet P l.toArray (Cls w) (fun a' => ∀ w', Cls w w' → Q .normal a' w') l a) : (Code.region id l.toArray true).wp P Q a w :=
  wp_region_quiet (C := Cls w) hm hB (show Cls w w.drew from (Below.refl _ _).drew) (by simpa using h)
/-- One operation of it: wanted, or passed over. -/
theorem quiet_pos {P : Program} {ops : Array Oper} {C : World → Prop} {Q : Act → Prop} {o : Oper} {rest : List Oper} {a : Act} (hg : Region.wanted o (yielded ops a.tmps) = true)
    (h : ∀ K : Act → Prop, (∀ a, wpQuiet P ops C Q rest a → K a) → ∃ v, (∀ w, C w → o.quietAt P a C w v) ∧ K (a.put o.dst v)) : wpQuiet P ops C Q (o :: rest) a :=
  wpQuiet_step fun K hK => by rw [if_pos hg]; exact h K hK
theorem quiet_neg {P : Program} {ops : Array Oper} {C : World → Prop} {Q : Act → Prop} {o : Oper} {rest : List Oper} {a : Act} (hg : Region.wanted o (yielded ops a.tmps) = false)
    (h : ∀ K : Act → Prop, (∀ a, wpQuiet P ops C Q rest a → K a) → K (a.put o.dst undef)) : wpQuiet P ops C Q (o :: rest) a :=
  wpQuiet_step fun K hK => by rw [if_neg (by rw [hg]; decide)]; exact h K hK
theorem Cls.sees {w w1 : World} (h : Cls w w1) (p : World → Prop) (hp : ∀ w', Below w.heap.size w w' → p w') : p w1 := hp _ h
theorem Cls.call {P : Program} {f : FuncId} {args : Array Value} {w w1 : World} {v : Value} (h : Cls w w1)
    (c : Calls P f args w1 fun e w2 => e = .returned v ∧ Below w1.heap.size w1 w2) : Calls P f args w1 fun e w2 => e = .returned v ∧ Cls w w2 :=
  c.mono fun _ _ hh => ⟨hh.1, bl_then h hh.2⟩
theorem Cls.drew (w : World) : Cls w w.drew := (Below.refl _ _).drew
theorem Cls.next {w w1 w2 : World} (k : Below w1.heap.size w1 w2) (h : Cls w w1) : Cls w w2 := bl_then h k
theorem Cls.same {P : Program} {f : FuncId} {args : Array Value} {w w1 : World} {v : Value} (h : Cls w w1)
    (c : Calls P f args w1 fun e w2 => e = .returned v ∧ w1 = w2) : Calls P f args w1 fun e w2 => e = .returned v ∧ Cls w w2 :=
  c.mono fun _ _ hh => ⟨hh.1, hh.2 ▸ h⟩
theorem Cls.drewN {P : Program} {f : FuncId} {args : Array Value} {w w1 : World} {v : Value} (h : Cls w w1)
    (c : Calls P f args w1 fun e w2 => e = .returned v ∧ ∃ n, w2 = w1.drewN n) : Calls P f args w1 fun e w2 => e = .returned v ∧ Cls w w2 :=
  c.mono fun _ _ hh => ⟨hh.1, by obtain ⟨n, rfl⟩ := hh.2; exact bl_drewN h n⟩

/-! ### From a walk to the row -/
section
variable {H : Type} {enc : TypeId × Value → H} {P : Program}

theorem trodAll_below (hl : laidOutB P = true) {W W' : World} (hb : Below W.heap.size W W') :
    ∀ {ts : List TypeId} {vs : List Value} {ds : List (DataW H)} {ps : List MemPlace}, ts.all (fun t => P.readableRec t && decide (t < P.types.size)) = true →
      DataW.TrodAll enc P W 0 (fun _ => true) true ts vs ds ps → (∀ x ∈ ps, x.block < W.heap.size) → DataW.TrodAll enc P W' 0 (fun b => decide (b < W.heap.size)) true ts vs ds ps := by
  intro ts
  induction ts with
  | nil =>
    intro vs ds ps _ h _
    cases vs <;> cases ds <;> simp_all [DataW.TrodAll]
  | cons t ts ih =>
    intro vs ds ps hr h hlt
    match vs, ds, h with
    | v :: vs, d :: ds, h =>
      obtain ⟨p, q, h1, h2, rfl⟩ := h
      simp only [List.all_cons, Bool.and_eq_true, decide_eq_true_eq] at hr
      exact ⟨p, q, Below.trod hl hr.1.1 hr.1.2 h1 hb (fun x hx => hlt x (by simp [hx])), ih (by simpa using hr.2) h2 (fun x hx => hlt x (by simp [hx])), rfl⟩

theorem trodAll_len {W : World} : ∀ {ts : List TypeId} {vs : List Value} {ds : List (DataW H)} {ps : List MemPlace} {b : Nat} {sp : Nat → Bool} {hd : Bool},
    DataW.TrodAll enc P W b sp hd ts vs ds ps → ds.length = ts.length := by
  intro ts
  induction ts with
  | nil => intro vs ds ps _ _ _ h; cases vs <;> cases ds <;> simp_all [DataW.TrodAll]
  | cons t ts ih =>
    intro vs ds ps _ _ _ h
    match vs, ds, h with
    | v :: vs, d :: ds, h => obtain ⟨p, q, _, h2, _⟩ := h; simp [ih h2]

/-- What a law's row asks: the call returns true and below the heap's old size nothing has turned. -/
theorem law_contract {F : FuncId} {f : Func} {s : ChangeSpec} {tb : TypeId} (hl : laidOutB P = true) (hread : f.params.toList.all (fun t => P.readableRec t && decide (t < P.types.size)) = true)
    (hres : f.resultTypes = #[tb]) (hb : P.underlying tb = some .bool) (hv : s.vars = [])
    (hs : ∀ ds : List (DataW H), ds.length = f.params.toList.length → (s.fn H ds).results = [.lit (.bool true)] ∧ (s.fn H ds).args = ds ∧ (s.fn H ds).vars = [])
    (W : World) (args : Array Value) (ds gs : List (DataW H)) (before : List MemPlace)
    (hW : DataW.Whole enc P f.params.toList s.vars false W args.toList ds gs before)
    (walk : ∀ p, DataW.TrodAll enc P W 0 (fun _ => true) true f.params.toList args.toList ds p → Calls P F args W fun e W' => e = .returned (.bool true) ∧ Below W.heap.size W W') :
    Calls P F args W fun e W' => ∃ v, e = .returned v ∧ s.post enc P f false true false false W args v W' := by
  have hW' := hW
  obtain ⟨p, q, hA, hV, hpq, hfz, hnd⟩ := hW
  refine (walk p hA).mono fun e W' ⟨he, hbel⟩ => ⟨_, he, ?_⟩
  rw [hv] at hV
  obtain ⟨rfl, rfl⟩ : gs = [] ∧ q = [] := by cases gs <;> simp_all [DataW.TrodVars]
  have hlt := hW'.lt
  rw [hpq] at hlt
  obtain ⟨h1, h2, h3⟩ := hs ds (trodAll_len hA)
  refine ⟨ds, [], before, [], p, [], hW', ?_, ?_, ?_, hbel.frame _, fun h => by cases h⟩
  · rw [List.append_nil, h1, hres]
    exact trodAll_mk1 (shut_bool hb true)
  · rw [List.append_nil, h2]
    exact trodAll_below hl hbel hread hA (fun x hx => hlt x (by simp [hx]))
  · rw [List.append_nil, h3, hv]
    rfl
end

/-! ### Slices that show a list -/
/-- An element's type: its cells. -/
structure El (α : Type) where
  sz : Nat
  cells : α → List Value
  len : ∀ x, (cells x).length = sz
  pos : 0 < sz
  one : ∀ x, ∀ u ∈ cells x, u.oneCell' = true

def elInt : El Int := ⟨1, fun n => [.int .i64 n], fun _ => rfl, by decide, fun _ u h => by simp at h; subst h; rfl⟩
def elStr : El ByteArray := ⟨1, fun s => [.string s], fun _ => rfl, by decide, fun _ u h => by simp at h; subst h; rfl⟩
def elByte : El UInt8 := ⟨1, fun c => [.int .u8 c.toNat], fun _ => rfl, by decide, fun _ u h => by simp at h; subst h; rfl⟩

/-- The slice at A of length n shows the list xs, all of it below block B. -/
def Sees {α : Type} (E : El α) (w : World) (B : Nat) (A : Option Addr) (n : Nat) (xs : List α) : Prop :=
  xs.length = n ∧ (n = 0 ∨ ∃ b o, A = some ⟨b, o, none⟩ ∧ b < B ∧ ∀ k x, xs[k]? = some x → ∀ j u, (E.cells x)[j]? = some u → w.cell? ⟨b, o + k * E.sz + j, none⟩ = some u)

section
variable {α : Type} {E : El α} {w w' : World} {B B' : Nat} {A : Option Addr} {n : Nat} {xs : List α}
theorem Sees.len (h : Sees E w B A n xs) : xs.length = n := h.1
theorem Sees.nil (E : El α) (w : World) (B : Nat) (A : Option Addr) : Sees E w B A 0 [] := ⟨rfl, .inl rfl⟩
theorem Sees.keep (h : Sees E w B A n xs) (hk : ∀ p : Addr, p.block < B → w'.cell? p = w.cell? p) : Sees E w' B A n xs := by
  refine ⟨h.1, ?_⟩
  rcases h.2 with h0 | ⟨b, o, rfl, hb, hc⟩
  · exact .inl h0
  · exact .inr ⟨b, o, rfl, hb, fun k x hx j u hu => (hk _ hb).trans (hc k x hx j u hu)⟩
theorem Sees.more (h : Sees E w B A n xs) (hB : B ≤ B') : Sees E w B' A n xs := by
  refine ⟨h.1, ?_⟩
  rcases h.2 with h0 | ⟨b, o, rfl, hb, hc⟩
  · exact .inl h0
  · exact .inr ⟨b, o, rfl, by omega, hc⟩
theorem Sees.below (h : Sees E w B A n xs) (hb : Below B w w') : Sees E w' B A n xs := h.keep fun _ hp => hb.cell hp
theorem Sees.drewN (h : Sees E w B A n xs) (q : Nat) : Sees E (w.drewN q) B A n xs := h.keep fun _ _ => rfl
theorem Sees.grow (h : Sees E w B A n xs) (hb : Below w.heap.size w w') : Sees E w' B A n xs := by
  refine ⟨h.1, ?_⟩
  rcases h.2 with h0 | ⟨b, o, rfl, hB, hc⟩
  · exact .inl h0
  · exact .inr ⟨b, o, rfl, hB, fun k x hx j u hu => bl_cell hb (hc k x hx j u hu)⟩
/-- The address, asked for where there is an element. -/
theorem Sees.at_ {k : Nat} (h : Sees E w B A n xs) (hk : k < n) : ∃ b o, A = some ⟨b, o, none⟩ ∧ b < B ∧ ∀ k x, xs[k]? = some x → ∀ j u, (E.cells x)[j]? = some u → w.cell? ⟨b, o + k * E.sz + j, none⟩ = some u := by
  rcases h.2 with h0 | h0
  · omega
  · exact h0
theorem Sees.cell {b o : Nat} (h : Sees E w B (some ⟨b, o, none⟩) n xs) {k : Nat} {x : α} (hx : xs[k]? = some x) {j : Nat} {u : Value} (hu : (E.cells x)[j]? = some u) : w.cell? ⟨b, o + k * E.sz + j, none⟩ = some u := by
  rcases h.2 with h0 | ⟨b', o', e, _, hc⟩
  · have := h.1; rw [h0] at this; rw [List.eq_nil_of_length_eq_zero this] at hx; simp at hx
  · injection e with e; injection e with e1 e2; subst e1 e2; exact hc k x hx j u hu
theorem Sees.blt {b o : Nat} (h : Sees E w B (some ⟨b, o, none⟩) n xs) (hn : 0 < n) : b < B := by
  rcases h.2 with h0 | ⟨b', o', e, hb, _⟩
  · omega
  · injection e with e; injection e with e1 e2; subst e1; exact hb
/-- A front part. -/
theorem Sees.take (h : Sees E w B A n xs) {k : Nat} (hk : k ≤ n) : Sees E w B A k (xs.take k) := by
  refine ⟨by rw [List.length_take, h.1]; omega, ?_⟩
  rcases h.2 with h0 | ⟨b, o, rfl, hb, hc⟩
  · exact .inl (by omega)
  · refine .inr ⟨b, o, rfl, hb, fun j x hx => hc j x ?_⟩
    rw [List.getElem?_take] at hx
    split at hx
    · exact hx
    · cases hx
end
/-- A row of the call's own shows what it holds. -/
theorem flat_get {α : Type} (E : El α) (xs : List α) (k : Nat) (x : α) (hx : xs[k]? = some x) (j : Nat) (u : Value) (hu : (E.cells x)[j]? = some u) : (xs.flatMap E.cells)[k * E.sz + j]? = some u := by
  induction xs generalizing k with
  | nil => simp at hx
  | cons y ys ih =>
    rw [List.flatMap_cons]
    cases k with
    | zero =>
      simp at hx; subst hx
      have hj : j < (E.cells y).length := (List.getElem?_eq_some_iff.1 hu).1
      rw [Nat.zero_mul, Nat.zero_add, List.getElem?_append_left hj]; exact hu
    | succ k =>
      simp at hx
      rw [List.getElem?_append_right (by rw [E.len, Nat.add_mul]; omega), E.len, show (k + 1) * E.sz + j - E.sz = k * E.sz + j by rw [Nat.add_mul]; omega]
      exact ih k hx
theorem flat_len {α : Type} (E : El α) (xs : List α) : (xs.flatMap E.cells).length = xs.length * E.sz := by
  induction xs with
  | nil => simp
  | cons y ys ih => rw [List.flatMap_cons, List.length_append, E.len, ih, List.length_cons, Nat.add_mul]; omega

/-- The row v of element type e, from block base on, is the call's own and holds xs. -/
def Owns {α : Type} (E : El α) (w : World) (base : Nat) (e : TypeId) (v : Value) (xs : List α) : Prop := w.ownsRow base e E.sz v xs.length (xs.flatMap E.cells)
theorem Owns.form {α : Type} {E : El α} {w : World} {base : Nat} {e : TypeId} {v : Value} {xs : List α} (h : Owns E w base e v xs) :
    ∃ A c, v = .slice A xs.length c ∧ xs.length ≤ c ∧ c ≤ maxLen ∧ Sees E w w.heap.size A xs.length xs := by
  rcases h.2 with ⟨rfl, hn⟩ | ⟨g, cap, cur, rfl, hb, hg, hnc, hcm, hcs, ht⟩
  · have : xs = [] := List.eq_nil_of_length_eq_zero hn
    subst this
    exact ⟨none, 0, rfl, by simp, by simp, Sees.nil _ _ _ _⟩
  · refine ⟨_, cap, rfl, hnc, hcm, rfl, ?_⟩
    refine .inr ⟨g, 0, rfl, (Array.getElem?_eq_some_iff.1 hg).1, fun k x hx j u hu => ?_⟩
    have := World.ownsRow.cells h (g := g) rfl _ u (flat_get E xs k x hx j u hu)
    unfold Addr.add at this
    split at this
    · rename_i h0; rw [Nat.zero_add, h0]; exact this
    · simpa using this
theorem Owns.below {α : Type} {E : El α} {w w' : World} {base : Nat} {e : TypeId} {v : Value} {xs : List α} (h : Owns E w base e v xs) (hb : Below w.heap.size w w') : Owns E w' base e v xs := by
  refine ⟨h.1, ?_⟩
  rcases h.2 with hn | ⟨g, cap, cur, hv, hg, hh, r⟩
  · exact .inl hn
  · exact .inr ⟨g, cap, cur, hv, hg, (hb.block g (Array.getElem?_eq_some_iff.1 hh).1).trans hh, r⟩
theorem Owns.base {α : Type} {E : El α} {w : World} {base base' : Nat} {e : TypeId} {v : Value} {xs : List α} (h : Owns E w base e v xs) (hb : base' ≤ base) : Owns E w base' e v xs := by
  refine ⟨h.1, ?_⟩
  rcases h.2 with hn | ⟨g, cap, cur, hv, hg, r⟩
  · exact .inl hn
  · exact .inr ⟨g, cap, cur, hv, by omega, r⟩
/-- A store into a block that is not the row's. -/
theorem Owns.far {α : Type} {E : El α} {w : World} {base : Nat} {e : TypeId} {v : Value} {xs : List α} (h : Owns E w base e v xs) {p : Addr} (hp : p.block < base) (u : Value) : Owns E (w.setCell p u) base e v xs :=
  ownsRow_setCell_below h hp u
/-- A block that is known whole. -/
def Blk (w : World) (g : Nat) (e : TypeId) (cur : Array Value) : Prop := w.heap[g]? = some (.cells cur e (0, 0))
section
variable {w w' : World} {g : Nat} {e : TypeId} {cur : Array Value}
theorem Blk.new (w : World) (e : TypeId) (cur : Array Value) : Blk (w.alloc (.cells cur e)) w.heap.size e cur := heap_alloc_new w _
theorem Blk.lt (h : Blk w g e cur) : g < w.heap.size := (Array.getElem?_eq_some_iff.1 h).1
theorem Blk.cell (h : Blk w g e cur) (i : Nat) : w.cell? ⟨g, i, none⟩ = cur[i]? := cell_of_row w g i cur e (0, 0) h
theorem Blk.cell_ (h : Blk w g e cur) {i : Nat} (hi : i < cur.size) : ∃ u, w.cell? ⟨g, i, none⟩ = some u := ⟨cur[i], by rw [h.cell, Array.getElem?_eq_getElem hi]⟩
theorem Blk.frozen (h : Blk w g e cur) (i : Nat) : w.frozen? ⟨g, i, none⟩ = false := by unfold Blk at h; simp [World.frozen?, h]
theorem Blk.set (h : Blk w g e cur) (i : Nat) (u : Value) : Blk (w.setCell ⟨g, i, none⟩ u) g e (cur.setIfInBounds i u) := by unfold Blk at h ⊢; simp [World.setCell, Array.getElem?_modify, h]
theorem Blk.below {B : Nat} (h : Blk w g e cur) (hb : Below B w w') (hg : g < B) : Blk w' g e cur := (hb.block g hg).trans h
theorem Blk.alloc (h : Blk w g e cur) (o : Obj) : Blk (w.alloc o) g e cur := (Below.heap_alloc w o g h.lt).trans h
end
theorem bl_at {B g : Nat} {w w' : World} (hb : Below B w w') (hg : g < B) {e : TypeId} {cur : Array Value} (h : Blk w g e cur) : Blk w' g e cur := h.below hb hg
theorem size_set (w : World) (p : Addr) (u : Value) : (w.setCell p u).heap.size = w.heap.size := by simp [World.setCell]
theorem Blk.far {w : World} {g : Nat} {e : TypeId} {cur : Array Value} (h : Blk w g e cur) {p : Addr} (hp : g ≠ p.block) (u : Value) : Blk (w.setCell p u) g e cur := (Below.heap_setCell w p u g hp).trans h
/-- The first k elements stand in the row. -/
def Filled {α : Type} (E : El α) (cur : Array Value) (xs : List α) (k : Nat) : Prop := ∀ j x, j < k → xs[j]? = some x → ∀ i u, (E.cells x)[i]? = some u → cur[j * E.sz + i]? = some u
theorem Filled.zero {α : Type} (E : El α) (cur : Array Value) (xs : List α) : Filled E cur xs 0 := fun j _ hj => by omega
theorem Filled.step {α : Type} {E : El α} {cur cur' : Array Value} {xs : List α} {k : Nat} {x : α} (h : Filled E cur xs k) (hx : xs[k]? = some x) (hold : ∀ i, i < k * E.sz → cur'[i]? = cur[i]?)
    (hnew : ∀ i u, (E.cells x)[i]? = some u → cur'[k * E.sz + i]? = some u) : Filled E cur' xs (k + 1) := by
  intro j y hj hy i u hu
  rcases Nat.lt_succ_iff_lt_or_eq.1 hj with hlt | rfl
  · have hi : i < E.sz := by rw [← E.len y]; exact (List.getElem?_eq_some_iff.1 hu).1
    rw [hold]
    · exact h j y hlt hy i u hu
    · have : (j + 1) * E.sz ≤ k * E.sz := Nat.mul_le_mul_right _ hlt
      rw [Nat.add_mul] at this; omega
  · rw [hx] at hy; injection hy with hy; subst hy; exact hnew i u hu
theorem flat_ext {α : Type} (E : El α) : ∀ (xs : List α) (l : List Value), l.length = xs.length * E.sz → (∀ j x, xs[j]? = some x → ∀ i u, (E.cells x)[i]? = some u → l[j * E.sz + i]? = some u) → l = xs.flatMap E.cells := by
  intro xs
  induction xs with
  | nil => intro l hl _; simp at hl; simp [hl]
  | cons y ys ih =>
    intro l hl h
    rw [List.length_cons, Nat.add_mul, Nat.one_mul] at hl
    rw [List.flatMap_cons, ← List.take_append_drop E.sz l]
    congr 1
    · apply List.ext_getElem?
      intro i
      by_cases hi : i < E.sz
      · rw [List.getElem?_take, if_pos hi]
        have hy : i < (E.cells y).length := by rw [E.len]; exact hi
        have := h 0 y rfl i _ (List.getElem?_eq_getElem hy)
        rw [Nat.zero_mul, Nat.zero_add] at this
        rw [this, List.getElem?_eq_getElem hy]
      · rw [List.getElem?_take, if_neg hi, List.getElem?_eq_none (by rw [E.len]; omega)]
    · refine ih _ (by rw [List.length_drop]; omega) (fun j x hx i u hu => ?_)
      rw [List.getElem?_drop, show E.sz + (j * E.sz + i) = (j + 1) * E.sz + i by rw [Nat.add_mul]; omega]
      exact h (j + 1) x (by simpa using hx) i u hu
/-- A row that is filled is the call's own. -/
theorem Owns.of_filled {α : Type} {E : El α} {w : World} {base g n : Nat} {e : TypeId} {cur : Array Value} {xs : List α} (h : Blk w g e cur) (hb : base ≤ g) (hl : xs.length = n) (hs : cur.size = n * E.sz) (hn : n ≤ maxLen)
    (hf : Filled E cur xs n) : Owns E w base e (.slice (some ⟨g, 0, none⟩) n n) xs := by
  refine ⟨flat_len E xs, .inr ⟨g, n, cur, by rw [hl], hb, h, by omega, hn, hs, ?_⟩⟩
  rw [hl, List.take_of_length_le (by simp [hs])]
  refine flat_ext E xs _ (by simp [hs, hl]) (fun j x hx i u hu => ?_)
  have hj : j < n := by rw [← hl]; exact (List.getElem?_eq_some_iff.1 hx).1
  simpa using hf j x hj hx i u hu
/-- make of a variable length. -/
theorem make_n {P : Program} {t e : TypeId} {i : TypeInfo} {z : Value} (ht : P.underlying t = some (.slice e)) (hi : P.info? e = some i) (hz : i.zero = some z) {n : Nat} (hbytes : i.bytes * n ≤ 281474976710656) (h63 : n ≤ 9223372036854775807) (w : World) :
    (Instr.makeSlice t (.int .i64 (n : Int)) (.int .i64 (n : Int))).run P w = .ok (.slice (some ⟨w.heap.size, 0, none⟩) n n) (w.alloc (.cells (madeCells z.cells (n * i.size)) e)) := by
  have hb : (i.bytes : Int) * (n : Int) ≤ 281474976710656 := by
    have h : ((i.bytes * n : Nat) : Int) ≤ 281474976710656 := by omega
    rwa [Int.natCast_mul] at h
  have hr := run_make (P := P) w t e i z ht hi hz .i64 .i64 n n (by omega) (by omega) hb (by omega)
  simp only [Int.toNat_natCast] at hr
  exact hr
end Go.Proofs.YtgoegldffjfmdaaGreat
/- Small functions of the networks' chapter, walked: ranges, names, comparing. Conditions: none. -/
namespace Go.Proofs.YtgoegldffjfmdaaGreat
open Go.RowKit
/-- In a range. -/
def inB (lo hi n : Int) : Bool := decide (lo ≤ n ∧ n ≤ hi)
theorem within_any (n lo hi : Int) (w : World) :
    Calls Tryz.prog 61 #[.int .i64 n, .int .i64 lo, .int .i64 hi] w fun e w' => e = .returned (.bool (inB lo hi n)) ∧ w = w' := by
  by_cases h1 : lo ≤ n <;> by_cases h2 : n ≤ hi
  all_goals
    go_enter Tryz.func61, Tryz.ntmps61
    go_wp2
    go_ret
    exact ⟨by simp [inB, h1, h2], rfl⟩
theorem l1In_any (n lo hi : Int) (w : World) :
    Calls Tryz.prog 53 #[.int .i64 n, .int .i64 lo, .int .i64 hi] w fun e w' => e = .returned (.bool (inB lo hi n)) ∧ w = w' := by
  by_cases h1 : lo ≤ n <;> by_cases h2 : n ≤ hi
  all_goals
    go_enter Tryz.func53, Tryz.ntmps53
    go_wp2
    go_ret
    exact ⟨by simp [inB, h1, h2], rfl⟩
/-- Comparing numbers. -/
def cmpB (a b : Int) : Int := if a < b then -1 else if b < a then 1 else 0
theorem compare_any (a b : Int) (w : World) :
    Calls Tryz.prog 51 #[.int .i64 a, .int .i64 b] w fun e w' => e = .returned (.int .i64 (cmpB a b)) ∧ w = w' := by
  by_cases h1 : a < b
  · go_enter Tryz.func51, Tryz.ntmps51
    go_wp2
    go_ret
    exact ⟨by simp [cmpB, h1], rfl⟩
  · by_cases h2 : b < a
    · go_enter Tryz.func51, Tryz.ntmps51
      go_wp2
      go_ret
      exact ⟨by rw [cmpB, if_neg (by omega), if_pos (by omega)]; rfl, rfl⟩
    · go_enter Tryz.func51, Tryz.ntmps51
      go_wp2
      go_ret
      exact ⟨by rw [cmpB, if_neg (by omega), if_neg (by omega)]; rfl, rfl⟩
end Go.Proofs.YtgoegldffjfmdaaGreat
/- Fibers: how they compare, in plain Lean. Conditions: none. -/
namespace Go.Proofs.YtgoegldffjfmdaaGreat
/-- A fiber. -/
structure Fib where
  a : Int
  b : Int
  len : Int
  risk : Int
def fibV (f : Fib) : Value := .agg #[.int .i64 f.a, .int .i64 f.b, .int .i64 f.len, .int .i64 f.risk]
def elFib : El Fib := ⟨4, fun f => [.int .i64 f.a, .int .i64 f.b, .int .i64 f.len, .int .i64 f.risk], fun _ => rfl, by decide,
  fun _ u h => by simp at h; rcases h with rfl | rfl | rfl | rfl <;> rfl⟩
/-- The first number that is not 0. -/
def orI : List Int → Int
  | [] => 0
  | x :: l => if x = 0 then orI l else x
def cmpFib (f g : Fib) : Int := orI [cmpB f.a g.a, cmpB f.b g.b, cmpB f.len g.len, cmpB f.risk g.risk]
/-- The reference's number. -/
def befF (f g : Fib) : Int := if f.a = g.a then if f.b = g.b then if f.len = g.len then f.risk - g.risk else f.len - g.len else f.b - g.b else f.a - g.a
theorem cmpB_zero {a b : Int} : cmpB a b = 0 ↔ a = b := by unfold cmpB; split <;> (try split) <;> omega
theorem cmpB_pos {a b : Int} : 0 < cmpB a b ↔ b < a := by unfold cmpB; split <;> (try split) <;> omega
theorem cmpB_neg {a b : Int} : cmpB a b < 0 ↔ a < b := by unfold cmpB; split <;> (try split) <;> omega
theorem befF_pos (f g : Fib) : 0 < befF f g ↔ 0 < cmpFib f g := by
  unfold befF cmpFib orI orI orI orI orI
  simp only [cmpB_zero]
  split
  · split
    · split
      · split
        · rename_i h; simp [h]
        · rw [cmpB_pos]; omega
      · rw [cmpB_pos]; omega
    · rw [cmpB_pos]; omega
  · rw [cmpB_pos]; omega
theorem befF_le (f g : Fib) : befF f g ≤ 0 ↔ cmpFib f g ≤ 0 := by have := befF_pos f g; omega
/-- A row of fibers, one more written. -/
def put4 (cur : Array Value) (k : Nat) (f : Fib) : Array Value := (((cur.setIfInBounds (k * 4) (.int .i64 f.a)).setIfInBounds (k * 4 + 1) (.int .i64 f.b)).setIfInBounds (k * 4 + 2) (.int .i64 f.len)).setIfInBounds (k * 4 + 3) (.int .i64 f.risk)
theorem put4_size (cur : Array Value) (k : Nat) (f : Fib) : (put4 cur k f).size = cur.size := by simp [put4]
theorem put4_other {cur : Array Value} {k i : Nat} {f : Fib} (h : i < k * 4 ∨ k * 4 + 3 < i) : (put4 cur k f)[i]? = cur[i]? := by
  unfold put4
  rw [Array.getElem?_setIfInBounds_ne (by omega), Array.getElem?_setIfInBounds_ne (by omega), Array.getElem?_setIfInBounds_ne (by omega), Array.getElem?_setIfInBounds_ne (by omega)]
theorem put4_new {cur : Array Value} {k : Nat} {f : Fib} (hs : k * 4 + 3 < cur.size) : ∀ i u, (elFib.cells f)[i]? = some u → (put4 cur k f)[k * 4 + i]? = some u := by
  intro i u hu
  unfold put4
  match i, hu with
  | 0, hu =>
    rw [Array.getElem?_setIfInBounds_ne (by omega), Array.getElem?_setIfInBounds_ne (by omega), Array.getElem?_setIfInBounds_ne (by omega)]
    rw [Nat.add_zero, Array.getElem?_setIfInBounds_self_of_lt (by omega)]; exact hu
  | 1, hu =>
    rw [Array.getElem?_setIfInBounds_ne (by omega), Array.getElem?_setIfInBounds_ne (by omega)]
    rw [Array.getElem?_setIfInBounds_self_of_lt (by simp; omega)]; exact hu
  | 2, hu =>
    rw [Array.getElem?_setIfInBounds_ne (by omega)]
    rw [Array.getElem?_setIfInBounds_self_of_lt (by simp; omega)]; exact hu
  | 3, hu => rw [Array.getElem?_setIfInBounds_self_of_lt (by simp; omega)]; exact hu
  | i + 4, hu => simp [elFib] at hu
theorem Filled.put4 {cur : Array Value} {xs : List Fib} {k : Nat} {f : Fib} (h : Filled elFib cur xs k) (hx : xs[k]? = some f) (hs : k * 4 + 3 < cur.size) : Filled elFib (put4 cur k f) xs (k + 1) :=
  h.step hx (fun _ hi => put4_other (.inl hi)) (put4_new hs)
theorem Blk.put4 {w : World} {g : Nat} {e : TypeId} {cur : Array Value} (h : Blk w g e cur) (k : Nat) (f : Fib) :
    Blk ((((w.setCell ⟨g, k * 4, none⟩ (.int .i64 f.a)).setCell ⟨g, k * 4 + 1, none⟩ (.int .i64 f.b)).setCell ⟨g, k * 4 + 2, none⟩ (.int .i64 f.len)).setCell ⟨g, k * 4 + 3, none⟩ (.int .i64 f.risk)) g e (put4 cur k f) :=
  (((h.set _ _).set _ _).set _ _).set _ _
end Go.Proofs.YtgoegldffjfmdaaGreat
/- Sorted lists in plain Lean: one order, one list; a thing put at its place. Conditions: as each states. -/
namespace Go.Proofs.YtgoegldffjfmdaaGreat
section
variable {R : Type} {le : R → R → Prop}
/-- Two sorted lists of the same things are one. -/
theorem sorted_one (hanti : ∀ a b, le a b → le b a → a = b) : ∀ {l1 l2 : List R}, l1.Pairwise le → l2.Pairwise le → l1.Perm l2 → l1 = l2 := by
  intro l1
  induction l1 with
  | nil => intro l2 _ _ hp; exact (List.nil_perm.1 hp).symm
  | cons a l1 ih =>
    intro l2 h1 h2 hp
    cases l2 with
    | nil => exact absurd hp.length_eq (by simp)
    | cons b l2 =>
      rw [List.pairwise_cons] at h1 h2
      have ha : a ∈ b :: l2 := hp.mem_iff.1 (by simp)
      have hb : b ∈ a :: l1 := hp.mem_iff.2 (by simp)
      have e : a = b := by
        rcases List.mem_cons.1 ha with e | ha
        · exact e
        · rcases List.mem_cons.1 hb with e | hb
          · exact e.symm
          · exact hanti a b (h1.1 b hb) (h2.1 a ha)
      subst e
      rw [ih h1.2 h2.2 hp.cons_inv]
/-- A thing put at its place. -/
def putAt (l : List R) (p : Nat) (r : R) : List R := l.take p ++ r :: l.drop p
theorem putAt_len (l : List R) (p : Nat) (r : R) : (putAt l p r).length = l.length + 1 := by
  unfold putAt
  rw [List.length_append, List.length_cons, List.length_take, List.length_drop]; omega
theorem putAt_perm (l : List R) (p : Nat) (r : R) : (putAt l p r).Perm (r :: l) := by
  unfold putAt
  have h := List.perm_middle (a := r) (l₁ := l.take p) (l₂ := l.drop p)
  rwa [List.take_append_drop] at h
theorem putAt_sorted {l : List R} {p : Nat} {r : R} (h : l.Pairwise le) (h1 : ∀ e ∈ l.take p, le e r) (h2 : ∀ e ∈ l.drop p, le r e) : (putAt l p r).Pairwise le := by
  unfold putAt
  have hd := (List.take_append_drop p l).symm ▸ h
  rw [List.pairwise_append] at hd
  rw [List.pairwise_append, List.pairwise_cons]
  refine ⟨hd.1, ⟨h2, hd.2.1⟩, fun a ha b hb => ?_⟩
  rcases List.mem_cons.1 hb with e | hb
  · rw [e]; exact h1 a ha
  · exact hd.2.2 a ha b hb
/-- Where a thing is put: behind the last that is not greater. -/
theorem place_ok {l : List R} {p : Nat} {r : R} (htr : ∀ a b c, le a b → le b c → le a c) (h : l.Pairwise le) (hp : p ≤ l.length) (hb : ∀ j e, p ≤ j → l[j]? = some e → le r e) (hs : p = 0 ∨ ∃ e, l[p - 1]? = some e ∧ le e r) : (putAt l p r).Pairwise le := by
  refine putAt_sorted h (fun e he => ?_) (fun e he => ?_)
  · rcases hs with h0 | ⟨x, hx, hxr⟩
    · subst h0; simp at he
    · obtain ⟨j, hj⟩ := List.getElem?_of_mem he
      rw [List.getElem?_take] at hj
      split at hj
      · rename_i hjp
        rcases Nat.lt_or_ge j (p - 1) with hlt | hge
        · have h3 := List.pairwise_iff_getElem.1 h j (p - 1) (List.getElem?_eq_some_iff.1 hj).1 (List.getElem?_eq_some_iff.1 hx).1 hlt
          rw [(List.getElem?_eq_some_iff.1 hj).2, (List.getElem?_eq_some_iff.1 hx).2] at h3
          exact htr _ _ _ h3 hxr
        · have : j = p - 1 := by omega
          rw [this, hx] at hj
          injection hj with hj
          rw [← hj]; exact hxr
      · cases hj
  · obtain ⟨j, hj⟩ := List.getElem?_of_mem he
    rw [List.getElem?_drop] at hj
    exact hb (p + j) e (by omega) hj
/-- All put in one after another: a sorted list of them all. -/
theorem fold_put {ins : List R → R → List R} (hperm : ∀ l r, (ins l r).Perm (r :: l)) (hsort : ∀ l r, l.Pairwise le → (ins l r).Pairwise le) : ∀ (D l : List R), l.Pairwise le → (D.foldl ins l).Pairwise le ∧ (D.foldl ins l).Perm (D ++ l) := by
  intro D
  induction D with
  | nil => intro l h; exact ⟨h, List.Perm.refl _⟩
  | cons r D ih =>
    intro l h
    rw [List.foldl_cons]
    obtain ⟨h1, h2⟩ := ih (ins l r) (hsort l r h)
    refine ⟨h1, h2.trans ?_⟩
    exact ((hperm l r).append_left D).trans List.perm_middle
end
end Go.Proofs.YtgoegldffjfmdaaGreat
/- The checksum of a list of bytes, in plain Lean: no program in sight. Conditions: none. -/
namespace Go.Proofs.YtgoegldffjfmdaaGreat
namespace Chk
/-- One byte's turn. -/
def step (h : Int) (c : UInt8) : Int := (41 * h + (c.toNat : Int) + 1) % 999979
/-- The checksum. -/
def sum (l : List UInt8) : Int := l.foldl step 7
theorem step_bd (h : Int) (c : UInt8) : 0 ≤ step h c ∧ step h c < 999979 := by unfold step; omega
theorem sum_bd (l : List UInt8) : 0 ≤ sum l ∧ sum l < 999979 := by
  unfold sum
  have : ∀ (l : List UInt8) (a : Int), 0 ≤ a ∧ a < 999979 → 0 ≤ l.foldl step a ∧ l.foldl step a < 999979 := by
    intro l
    induction l with
    | nil => intro a h; exact h
    | cons c l ih => intro a _; exact ih _ (step_bd a c)
  exact this l 7 (by omega)
theorem sum_snoc (l : List UInt8) (c : UInt8) : sum (l ++ [c]) = (41 * sum l + (c.toNat : Int) + 1) % 999979 := by
  unfold sum; rw [List.foldl_append]; rfl
end Chk
theorem take_snoc (s : ByteArray) (k : Nat) (h : k < s.size) : s.data.toList.take (k + 1) = s.data.toList.take k ++ [s[k]] := by
  rw [List.take_succ_eq_append_getElem (by simpa using h)]; rfl
theorem ret_int {k : IntKind} {a b : Int} (h : a = b) : Ending.returned (.int k a) = .returned (.int k b) := by rw [h]
end Go.Proofs.YtgoegldffjfmdaaGreat
/- Names, walked: the program's isName and the reference's l2Name are one function of the bytes. Conditions: none. -/
namespace Go.Proofs.YtgoegldffjfmdaaGreat
open Go.RowKit
def letB (c : UInt8) : Bool := decide (97 ≤ c.toNat ∧ c.toNat ≤ 122)
def digB (c : UInt8) : Bool := decide (48 ≤ c.toNat ∧ c.toNat ≤ 57)
/-- What the bytes of a name pass, from place k on. -/
def okAt (k : Nat) (c : UInt8) : Bool := letB c || (digB c && !(k == 0))
def okTo (l : List UInt8) (k : Nat) : Prop := ∀ j c, j < k → l[j]? = some c → okAt j c = true
def nameB (l : List UInt8) : Bool := decide (1 ≤ l.length ∧ l.length ≤ 8) && (l.zipIdx.all fun x => okAt x.2 x.1)
theorem okTo_all {l : List UInt8} : okTo l l.length ↔ (l.zipIdx.all fun x => okAt x.2 x.1) = true := by
  constructor
  · intro h
    rw [List.all_eq_true]
    rintro ⟨c, j⟩ hx
    rw [List.mem_zipIdx_iff_getElem?] at hx
    exact h j c (List.getElem?_eq_some_iff.1 hx).1 hx
  · intro h j c hj hc
    rw [List.all_eq_true] at h
    exact h (c, j) (List.mem_zipIdx_iff_getElem?.2 hc)
theorem okTo_succ {l : List UInt8} {k : Nat} {c : UInt8} (h : okTo l k) (hc : l[k]? = some c) (ho : okAt k c = true) : okTo l (k + 1) := by
  intro j d hj hd
  rcases Nat.lt_succ_iff_lt_or_eq.1 hj with hlt | rfl
  · exact h j d hlt hd
  · rw [hc] at hd; injection hd with hd; subst hd; exact ho
theorem nameB_no {l : List UInt8} {k : Nat} {c : UInt8} (hc : l[k]? = some c) (ho : okAt k c = false) : nameB l = false := by
  unfold nameB
  rw [Bool.and_eq_false_iff]
  refine .inr ?_
  rw [← Bool.not_eq_true, ← okTo_all]
  intro h
  have := h k c (List.getElem?_eq_some_iff.1 hc).1 hc
  rw [ho] at this; cases this
theorem nameB_yes {l : List UInt8} (h : okTo l l.length) : nameB l = inB 1 8 l.length := by
  unfold nameB inB
  rw [okTo_all.1 h, Bool.and_true]
  rw [Bool.eq_iff_iff]; simp only [decide_eq_true_eq]; omega
theorem byte_cases (c : Nat) : c < 48 ∨ (48 ≤ c ∧ c ≤ 57) ∨ (58 ≤ c ∧ c < 97) ∨ (97 ≤ c ∧ c ≤ 122) ∨ 122 < c := by omega
theorem size_list (s : ByteArray) : s.data.toList.length = s.size := by simp
theorem get_list (s : ByteArray) (k : Nat) (h : k < s.size) : s.data.toList[k]? = some s[k] := by
  rw [List.getElem?_eq_getElem (by simpa using h)]; rfl
set_option maxHeartbeats 1000000 in
theorem isName_any (s : ByteArray) (w : World) (hs : s.size ≤ maxLen) :
    Calls Tryz.prog 91 #[.string s] w fun e w' => e = .returned (.bool (nameB s.data.toList)) ∧ ∃ n, w' = w.drewN n := by
  unfold maxLen at hs
  go_enter Tryz.func91, Tryz.ntmps91
  go_wp2
  go_loopw [8] (fun i wr => ∃ k n : Nat, k ≤ s.size ∧ i = .int .i64 k ∧ Hid (okTo s.data.toList k) ∧ wr = w.drewN n) (fun i _ => s.size - (intOf i).toNat)
  case atStart => exact ⟨0, 0, Nat.zero_le _, rfl, fun j c hj => by omega, rfl⟩
  case round =>
    obtain ⟨k, n, hk, rfl, hok, rfl⟩ := hrel
    by_cases hlt : k < s.size
    · have hg := get_list s k hlt
      have hb : (s[k].toNat : Int) < 256 := by have := s[k].toNat_lt; omega
      have hg' : ∀ b, okAt k s[k] = b → b = true → Hid (okTo s.data.toList (k + 1)) := fun b hb1 hb2 => okTo_succ hok hg (hb1.trans hb2)
      have hno : ∀ b, okAt k s[k] = b → b = false → Hid (nameB s.data.toList = false) := fun b hb1 hb2 => nameB_no hg (hb1.trans hb2)
      generalize hc : s[k] = c at hb hg hg' hno
      have hget : s[k] = c := hc
      clear hc
      rcases byte_cases c.toNat with h1 | ⟨h1, h2⟩ | ⟨h1, h2⟩ | ⟨h1, h2⟩ | h1
      · have d1 : decide ((97 : Int) ≤ (c.toNat : Int)) = false := by simp; omega
        have d3 : decide ((48 : Int) ≤ (c.toNat : Int)) = false := by simp; omega
        have HN := hno _ (by unfold okAt letB digB; simp; omega) rfl
        clear hg' hno hg
        go_wp2
        go_quiet (fail)
        go_wp2
        go_ret
        exact ⟨by rw [HN.out]; rfl, _, rfl⟩
      · by_cases hk0 : k = 0
        · subst hk0
          have d1 : decide ((97 : Int) ≤ (c.toNat : Int)) = false := by simp; omega
          have d3 : decide ((48 : Int) ≤ (c.toNat : Int)) = true := by simp; omega
          have d4 : decide ((c.toNat : Int) ≤ 57) = true := by simp; omega
          have HN := hno _ (by unfold okAt letB digB; simp; omega) rfl
          clear hg' hno hg
          go_wp2
          go_quiet (fail)
          go_wp2
          go_ret
          exact ⟨by rw [HN.out]; rfl, _, rfl⟩
        · have hk1 : ((k : Int) == 0) = false := by simp; omega
          have d1 : decide ((97 : Int) ≤ (c.toNat : Int)) = false := by simp; omega
          have d3 : decide ((48 : Int) ≤ (c.toNat : Int)) = true := by simp; omega
          have d4 : decide ((c.toNat : Int) ≤ 57) = true := by simp; omega
          have HY := hg' _ (by unfold okAt letB digB; simp; omega) rfl
          clear hg' hno hg
          go_wp2
          go_quiet (fail)
          go_wp2
          go_roundw
          case rel => exact ⟨k + 1, _, by omega, by go_num, HY, rfl⟩
          case measure => simp [intOf]; omega
      · have d1 : decide ((97 : Int) ≤ (c.toNat : Int)) = false := by simp; omega
        have d3 : decide ((48 : Int) ≤ (c.toNat : Int)) = true := by simp; omega
        have d4 : decide ((c.toNat : Int) ≤ 57) = false := by simp; omega
        have HN := hno _ (by unfold okAt letB digB; simp; omega) rfl
        clear hg' hno hg
        go_wp2
        go_quiet (fail)
        go_wp2
        go_ret
        exact ⟨by rw [HN.out]; rfl, _, rfl⟩
      · have d1 : decide ((97 : Int) ≤ (c.toNat : Int)) = true := by simp; omega
        have d2 : decide ((c.toNat : Int) ≤ 122) = true := by simp; omega
        have d3 : decide ((48 : Int) ≤ (c.toNat : Int)) = true := by simp; omega
        have d4 : decide ((c.toNat : Int) ≤ 57) = false := by simp; omega
        have HY := hg' _ (by unfold okAt letB digB; simp; omega) rfl
        clear hg' hno hg
        go_wp2
        go_quiet (fail)
        go_wp2
        go_roundw
        case rel => exact ⟨k + 1, _, by omega, by go_num, HY, rfl⟩
        case measure => simp [intOf]; omega
      · have d1 : decide ((97 : Int) ≤ (c.toNat : Int)) = true := by simp; omega
        have d2 : decide ((c.toNat : Int) ≤ 122) = false := by simp; omega
        have d3 : decide ((48 : Int) ≤ (c.toNat : Int)) = true := by simp; omega
        have d4 : decide ((c.toNat : Int) ≤ 57) = false := by simp; omega
        have HN := hno _ (by unfold okAt letB digB; simp; omega) rfl
        clear hg' hno hg
        go_wp2
        go_quiet (fail)
        go_wp2
        go_ret
        exact ⟨by rw [HN.out]; rfl, _, rfl⟩
    · go_wp2_with (go_at_call 61; refine (within_any _ _ _ _).mono ?_; rintro e w' ⟨rfl, rfl⟩)
      go_ret
      have : k = s.size := by omega
      subst this
      exact ⟨by rw [nameB_yes (by rw [size_list]; exact hok.out), size_list]; rfl, _, rfl⟩
end Go.Proofs.YtgoegldffjfmdaaGreat
/- Finding a value in a list, in plain Lean. Conditions: none. -/
namespace Go.Proofs.YtgoegldffjfmdaaGreat
/-- The index of the first x, counted from k; -1 if there is none. -/
def findFrom {α : Type} [DecidableEq α] (x : α) : List α → Nat → Int
  | [], _ => -1
  | y :: l, k => if y = x then (k : Int) else findFrom x l (k + 1)
def findI {α : Type} [DecidableEq α] (l : List α) (x : α) : Int := findFrom x l 0
section
variable {α : Type} {l : List α} {x : α}
/-- None of the first k is x. -/
def noneTo (l : List α) (x : α) (k : Nat) : Prop := ∀ j, j < k → l[j]? ≠ some x
theorem noneTo_zero : noneTo l x 0 := fun j hj => by omega
theorem noneTo_succ {k : Nat} {y : α} (h : noneTo l x k) (hy : l[k]? = some y) (hne : y ≠ x) : noneTo l x (k + 1) := by
  intro j hj
  rcases Nat.lt_succ_iff_lt_or_eq.1 hj with hlt | rfl
  · exact h j hlt
  · rw [hy]; intro e; injection e with e; exact hne e
theorem noneTo_not {n : Nat} (hn : l.length = n) (h : noneTo l x n) : x ∉ l := by
  intro hm
  obtain ⟨i, hi, e⟩ := List.mem_iff_getElem.1 hm
  exact h i (by omega) (by rw [List.getElem?_eq_getElem hi, e])
end
section
variable {α : Type} [DecidableEq α] {l : List α} {x : α}
theorem findFrom_at : ∀ {l : List α} {k0 k : Nat}, l[k]? = some x → (∀ j, j < k → l[j]? ≠ some x) → findFrom x l k0 = ((k0 + k : Nat) : Int) := by
  intro l
  induction l with
  | nil => intro k0 k h; simp at h
  | cons y l ih =>
    intro k0 k h hn
    unfold findFrom
    cases k with
    | zero => simp at h; rw [if_pos h]; rfl
    | succ k =>
      rw [if_neg (fun e => hn 0 (Nat.succ_pos _) (by simp [e]))]
      rw [ih (k := k) (by simpa using h) (fun j hj => by have := hn (j + 1) (by omega); simpa using this)]
      congr 1; omega
theorem findFrom_none : ∀ {l : List α} {k0 : Nat}, x ∉ l → findFrom x l k0 = -1 := by
  intro l
  induction l with
  | nil => intro k0 _; rfl
  | cons y l ih =>
    intro k0 h
    simp only [List.mem_cons, not_or] at h
    unfold findFrom
    rw [if_neg (fun e => h.1 e.symm), ih h.2]
theorem findI_at {k : Nat} (h : noneTo l x k) (hx : l[k]? = some x) : findI l x = k := by
  have := findFrom_at (k0 := 0) hx h
  simpa [findI] using this
theorem findI_none {n : Nat} (hn : l.length = n) (h : noneTo l x n) : findI l x = -1 := findFrom_none (noneTo_not hn h)
theorem findFrom_ge : ∀ {l : List α} {k0 : Nat}, (0 ≤ findFrom x l k0 ↔ x ∈ l) := by
  intro l
  induction l with
  | nil => intro k0; simp [findFrom]
  | cons y l ih =>
    intro k0
    unfold findFrom
    by_cases h : y = x
    · simp [h]
    · rw [if_neg h, ih]; simp [show x ≠ y from fun e => h e.symm]
theorem findI_ge : 0 ≤ findI l x ↔ x ∈ l := findFrom_ge
theorem findFrom_bd : ∀ {l : List α} {k0 : Nat}, -1 ≤ findFrom x l k0 ∧ findFrom x l k0 < k0 + l.length ∧ (0 ≤ findFrom x l k0 → (k0 : Int) ≤ findFrom x l k0) := by
  intro l
  induction l with
  | nil => intro k0; simp [findFrom]; omega
  | cons y l ih =>
    intro k0
    unfold findFrom
    by_cases h : y = x
    · rw [if_pos h]; simp only [List.length_cons]; omega
    · rw [if_neg h]; have := ih (k0 := k0 + 1); simp only [List.length_cons]; omega
theorem findI_bd : -1 ≤ findI l x ∧ findI l x < l.length := by
  have := findFrom_bd (x := x) (l := l) (k0 := 0); unfold findI; omega
/-- Is x in the list? -/
def hasB (l : List α) (x : α) : Bool := decide (0 ≤ findI l x)
theorem hasB_iff : hasB l x = true ↔ x ∈ l := by unfold hasB; rw [decide_eq_true_eq]; exact findI_ge
end
end Go.Proofs.YtgoegldffjfmdaaGreat
/- Networks that are valid, in plain Lean. Conditions: none. -/
namespace Go.Proofs.YtgoegldffjfmdaaGreat
/-- All of the first k pass. -/
def allTo (p : Nat → Bool) (k : Nat) : Prop := ∀ j, j < k → p j = true
def allB (p : Nat → Bool) (n : Nat) : Bool := (List.range n).all p
theorem allTo_zero (p : Nat → Bool) : allTo p 0 := fun j hj => by omega
theorem allTo_succ {p : Nat → Bool} {k : Nat} (h : allTo p k) (hk : p k = true) : allTo p (k + 1) := by
  intro j hj
  rcases Nat.lt_succ_iff_lt_or_eq.1 hj with hlt | rfl
  · exact h j hlt
  · exact hk
theorem allB_iff {p : Nat → Bool} {n : Nat} : allB p n = true ↔ allTo p n := by unfold allB allTo; simp
theorem allB_yes {p : Nat → Bool} {n k : Nat} (h : allTo p k) (hk : k = n) : allB p n = true := by subst hk; exact allB_iff.2 h
theorem allB_no {p : Nat → Bool} {n k : Nat} (hk : k < n) (h : p k = false) : allB p n = false := by
  rw [← Bool.not_eq_true, allB_iff]; intro ht; have := ht k hk; rw [h] at this; cases this
instance : Inhabited Fib := ⟨⟨0, 0, 0, 0⟩⟩
def nameAt (xs : List ByteArray) (k : Nat) : Bool := nameB (xs.getD k ByteArray.empty).data.toList && !hasB (xs.take k) (xs.getD k ByteArray.empty)
def fibB (n : Nat) (f : Fib) : Bool := decide (0 ≤ f.a ∧ f.a < f.b ∧ f.b < n ∧ 1 ≤ f.len ∧ f.len ≤ 5000 ∧ 0 ≤ f.risk ∧ f.risk ≤ 9)
def fibAt (n : Nat) (fs : List Fib) (k : Nat) : Bool := fibB n (fs.getD k default) && (k == 0 || decide (cmpFib (fs.getD (k - 1) default) (fs.getD k default) ≤ 0))
def goodB (xs : List ByteArray) (fs : List Fib) : Bool :=
  decide (2 ≤ xs.length ∧ xs.length ≤ 8) && decide (fs.length ≤ 14) && allB (nameAt xs) xs.length && allB (fibAt xs.length fs) fs.length
theorem goodB_len {xs : List ByteArray} {fs : List Fib} (h : decide (2 ≤ xs.length ∧ xs.length ≤ 8) = false) : goodB xs fs = false := by unfold goodB; rw [h]; simp
theorem goodB_fib {xs : List ByteArray} {fs : List Fib} (h : decide (fs.length ≤ 14) = false) : goodB xs fs = false := by unfold goodB; rw [h]; simp
theorem goodB_name {xs : List ByteArray} {fs : List Fib} {k : Nat} (hk : k < xs.length) (h : nameAt xs k = false) : goodB xs fs = false := by unfold goodB; rw [allB_no hk h]; simp
theorem goodB_fibAt {xs : List ByteArray} {fs : List Fib} {k : Nat} (hk : k < fs.length) (h : fibAt xs.length fs k = false) : goodB xs fs = false := by unfold goodB; rw [allB_no hk h]; simp
theorem goodB_rest {xs : List ByteArray} {fs : List Fib} (h1 : allTo (nameAt xs) xs.length) (h2 : allTo (fibAt xs.length fs) fs.length) :
    goodB xs fs = (decide (2 ≤ xs.length ∧ xs.length ≤ 8) && decide (fs.length ≤ 14)) := by unfold goodB; rw [allB_iff.2 h1, allB_iff.2 h2]; simp
theorem fib_cases (n : Nat) (f : Fib) : decide (f.a < 0) = true ∨ (decide (f.a < 0) = false ∧ (decide (f.b ≤ f.a) = true ∨ (decide (f.b ≤ f.a) = false ∧ (decide ((n : Int) ≤ f.b) = true ∨
    (decide ((n : Int) ≤ f.b) = false ∧ (inB 1 5000 f.len = false ∨ (inB 1 5000 f.len = true ∧ (inB 0 9 f.risk = false ∨ inB 0 9 f.risk = true)))))))) := by
  cases decide (f.a < 0) <;> cases decide (f.b ≤ f.a) <;> cases decide ((n : Int) ≤ f.b) <;> cases inB 1 5000 f.len <;> cases inB 0 9 f.risk <;> simp
theorem fibB_eq (n : Nat) (f : Fib) : fibB n f = (!decide (f.a < 0) && !decide (f.b ≤ f.a) && !decide ((n : Int) ≤ f.b) && inB 1 5000 f.len && inB 0 9 f.risk) := by
  unfold fibB inB; rw [Bool.eq_iff_iff]; simp; omega
theorem getD_of {α : Type} {l : List α} {k : Nat} {x d : α} (h : l[k]? = some x) : l.getD k d = x := by simp [List.getD, h]
theorem get_of {α : Type} {l : List α} {k n : Nat} (hl : l.length = n) (hk : k < n) : ∃ x, l[k]? = some x := ⟨l[k]'(by omega), List.getElem?_eq_getElem _⟩
end Go.Proofs.YtgoegldffjfmdaaGreat
/- slices.Index and slices.Contains over strings, walked. Conditions: none. -/
namespace Go.Proofs.YtgoegldffjfmdaaGreat
open Go.RowKit
theorem indexS_any {B n c : Nat} {A : Option Addr} {xs : List ByteArray} (s : ByteArray) (w : World) (hA : Sees elStr w B A n xs) (hn : n ≤ maxLen) :
    Calls Tryz.prog 107 #[.slice A n c, .string s] w fun e w' => e = .returned (.int .i64 (findI xs s)) ∧ w = w' := by
  unfold maxLen at hn
  go_enter Tryz.func107, Tryz.ntmps107
  go_wp2
  go_loop [8] (fun i => ∃ k : Nat, k ≤ n ∧ i = .int .i64 k ∧ Hid (noneTo xs s k)) (fun i => n - (intOf i).toNat)
  case atStart => exact ⟨0, Nat.zero_le _, rfl, noneTo_zero⟩
  case round =>
    obtain ⟨k, hk, rfl, hno⟩ := hrel
    by_cases hlt : k < n
    · obtain ⟨b, o, rfl, _, hx⟩ := hA.at_ hlt
      obtain ⟨x, hxk⟩ : ∃ x, xs[k]? = some x := ⟨xs[k]'(by rw [hA.len]; exact hlt), List.getElem?_eq_getElem _⟩
      have hc := hx k x hxk 0 _ rfl
      simp only [elStr, Nat.mul_one, Nat.add_zero] at hc
      clear hx
      by_cases heq : x = s
      · subst heq
        have HF := hid (findI_at hno hxk)
        clear hxk
        go_wp2
        go_ret
        exact ⟨by rw [HF.out]; rfl, rfl⟩
      · have hne := str_ne (fun e : s = x => heq e.symm)
        have HN := hid (noneTo_succ hno hxk heq)
        clear hxk hno
        go_wp2
        go_round
        case rel => exact ⟨k + 1, by omega, by go_num, HN⟩
        case measure => simp [intOf]; omega
    · have HF : Hid (findI xs s = -1) := findI_none hA.len (by obtain rfl : k = n := (by omega); exact hno.out)
      go_wp2
      go_ret
      exact ⟨by rw [HF.out]; rfl, rfl⟩
theorem containsS_any {B n c : Nat} {A : Option Addr} {xs : List ByteArray} (s : ByteArray) (w : World) (hA : Sees elStr w B A n xs) (hn : n ≤ maxLen) :
    Calls Tryz.prog 92 #[.slice A n c, .string s] w fun e w' => e = .returned (.bool (hasB xs s)) ∧ w = w' := by
  go_enter Tryz.func92, Tryz.ntmps92
  go_wp2_with (go_at_call 107; refine (indexS_any s _ hA hn).mono ?_; rintro e w' ⟨rfl, rfl⟩)
  go_ret
  exact ⟨rfl, rfl⟩
end Go.Proofs.YtgoegldffjfmdaaGreat
/- compareFibers, walked: it returns cmpFib. Conditions: none. -/
namespace Go.Proofs.YtgoegldffjfmdaaGreat
open Go.RowKit
theorem or_any {b o c : Nat} {x0 x1 x2 x3 : Int} (w : World) (h0 : w.cell? ⟨b, o, none⟩ = some (.int .i64 x0)) (h1 : w.cell? ⟨b, o + 1, none⟩ = some (.int .i64 x1)) (h2 : w.cell? ⟨b, o + 2, none⟩ = some (.int .i64 x2)) (h3 : w.cell? ⟨b, o + 3, none⟩ = some (.int .i64 x3)) :
    Calls Tryz.prog 103 #[.slice (some ⟨b, o, none⟩) 4 c] w fun e w' => e = .returned (.int .i64 (orI [x0, x1, x2, x3])) ∧ w = w' := by
  go_enter Tryz.func103, Tryz.ntmps103
  go_wp2
  go_loop [8] (fun i => ∃ k : Nat, k ≤ 4 ∧ i = .int .i64 k ∧ Hid (orI [x0, x1, x2, x3] = orI ([x0, x1, x2, x3].drop k))) (fun i => 4 - (intOf i).toNat)
  case atStart => exact ⟨0, by omega, rfl, rfl⟩
  case round =>
    obtain ⟨k, hk, rfl, hor⟩ := hrel
    have hc : k < 4 → ∃ x, ([x0, x1, x2, x3].drop k) = x :: [x0, x1, x2, x3].drop (k + 1) ∧ w.cell? ⟨b, o + k, none⟩ = some (.int .i64 x) := by
      intro hlt
      have : k = 0 ∨ k = 1 ∨ k = 2 ∨ k = 3 := by omega
      rcases this with rfl | rfl | rfl | rfl
      · exact ⟨x0, rfl, h0⟩
      · exact ⟨x1, rfl, h1⟩
      · exact ⟨x2, rfl, h2⟩
      · exact ⟨x3, rfl, h3⟩
    by_cases hlt : k < 4
    · obtain ⟨x, hd, hx⟩ := hc hlt
      by_cases hz : x = 0
      · subst hz
        have HY : Hid (orI [x0, x1, x2, x3] = orI ([x0, x1, x2, x3].drop (k + 1))) := by rw [hor.out, hd]; simp [Hid, orI]
        clear hd hc h0 h1 h2 h3
        go_wp2
        go_round
        case rel => exact ⟨k + 1, by omega, by go_num, HY⟩
        case measure => simp [intOf]; omega
      · have hz' : (x == 0) = false := by simp [hz]
        have hz2 : (x != 0) = true := by simp [hz]
        have HY : Hid (orI [x0, x1, x2, x3] = x) := by rw [hor.out, hd]; simp [Hid, orI, hz]
        clear hd hc h0 h1 h2 h3
        go_wp2
        go_ret
        exact ⟨by rw [HY.out]; rfl, rfl⟩
    · have HY : Hid (orI [x0, x1, x2, x3] = 0) := by
        obtain rfl : k = 4 := by omega
        rw [hor.out]; rfl
      clear hc h0 h1 h2 h3
      go_wp2
      go_ret
      exact ⟨by rw [HY.out]; rfl, rfl⟩
set_option maxRecDepth 100000 in
theorem compareFibers_any (f g : Fib) (w : World) :
    Calls Tryz.prog 93 #[fibV f, fibV g] w fun e w' => e = .returned (.int .i64 (cmpFib f g)) ∧ Below w.heap.size w w' := by
  obtain ⟨fa, fb, fl, fr⟩ := f
  obtain ⟨ga, gb, gl, gr⟩ := g
  unfold fibV
  go_enter Tryz.func93, Tryz.ntmps93
  go_wp2
  refine region_tail 20 (by kernel_rfl) (by kernel_rfl) ?_
  simp only [List.take_succ_cons, List.take_zero, List.drop_succ_cons, List.drop_zero]
  repeat (first | still_step | still_call ((compare_any _ _ _).mono (fun _ _ h => ⟨h.1, h.2.symm⟩)))
  refine wpStill_nil ?_
  go_wp2_with fail
  refine (or_any (x0 := cmpB fa ga) (x1 := cmpB fb gb) (x2 := cmpB fl gl) (x3 := cmpB fr gr) _ (by go_simp) (by go_simp) (by go_simp) (by go_simp)).mono ?_
  rintro e w' ⟨rfl, rfl⟩
  go_wp2_with fail
  go_ret
  exact ⟨rfl, by repeat (first | exact Below.refl _ _ | apply Below.drew | apply bl_alloc)⟩
end Go.Proofs.YtgoegldffjfmdaaGreat
