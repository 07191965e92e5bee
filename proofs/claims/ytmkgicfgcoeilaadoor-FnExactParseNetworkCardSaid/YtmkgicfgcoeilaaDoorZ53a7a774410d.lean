/- Lemmas and walks that the claim rests on, laid together. Conditions: none. -/
import Derived.ProofKit
import Derived.WalkKit
import Derived.Deep.Slices
import Derived.Deep.Fields
import Derived.Lib.SmallJoins
import Derived.StillTailTactics
import Derived.Deep.QuietTactic
import Derived.BigQuiet
import Derived.Lib.Join
import Derived.Lib.IndexLaws
import Derived.Lib.ItoaMem
import Derived.Lib.Atoi
import Derived.Lib.SplitLaws
import Derived.Lib.IndexMore
import Derived.Test.YtmkgicfgcoeilaaDoorRows
import Derived.Below
/- Common words of these proofs: how a slice shows a list, how a law that returns true and leaves old memory alone meets its row. No program in sight. Conditions: none. -/
namespace Go.Proofs.YtmkgicfgcoeilaaDoor
open Go.ChangeShapes Go.WideShapes Go.ChangeAt Go.RowKit Go.Deep

/-- A fact kept from the walk. -/
theorem hid {p : Prop} (h : p) : Hid p := h

theorem ret_bool {a b : Bool} (h : a = b) : Ending.returned (.bool a) = .returned (.bool b) := by rw [h]

/-- Strings compared, as the walk writes it. -/
theorem str_ne {a b : ByteArray} (h : a ≠ b) : (a.toList == b.toList) = false := by
  rw [ByteArray.toList_eq, ByteArray.toList_eq, beq_eq_false_iff_ne]
  exact fun e => h (bytes_inj e)

/-! ### Old memory stands -/
theorem bl_alloc {w w1 : World} (h : Below w.heap.size w w1) (o : Obj) : Below w.heap.size w (w1.alloc o) := h.alloc h.size o
theorem bl_drewN {B : Nat} {w w1 : World} (h : Below B w w1) (n : Nat) : Below B w (w1.drewN n) := ⟨h.os, h.tape, h.output, h.size, h.block⟩
theorem bl_then {w w1 w2 : World} (h : Below w.heap.size w w1) (k : Below w1.heap.size w1 w2) : Below w.heap.size w w2 := h.trans (k.mono h.size)
theorem bl_set {w w1 : World} (h : Below w.heap.size w w1) {p : Addr} (u : Value) (hp : w.heap.size ≤ p.block) : Below w.heap.size w (w1.setCell p u) := h.setCell hp u
theorem bl_cell {w w1 : World} (h : Below w.heap.size w w1) {b o : Nat} {v : Value} (hc : w.cell? ⟨b, o, none⟩ = some v) : w1.cell? ⟨b, o, none⟩ = some v :=
  (h.cell (World.block_lt_of_cell? w _ hc)).trans hc
/-- A region whose head reads and calls without a trace and whose tail is forced. -/
theorem region_tail {P : Program} {id : Nat} {Q : Exit → Act → World → Prop} {a : Act} {w : World} {l : List Oper} (n : Nat) (hm : P.follows .mixedOrders = true) (hB : Region.lexTailB .any l.toArray n = true)
    (h : wpStill P l.toArray w.drew (fun a' => wpList P l.toArray Q (l.drop n) a' w.drew) (l.take n) a) : (Code.region id l.toArray true).wp P Q a w :=
  wp_region_still_tail n hm hB h
/-! ### A region that draws its order, whose operations read old memory alone and whose callees leave old memory alone -/
/-- The worlds in which what was there at w is as it was. -/
def Cls (w w' : World) : Prop := Below w.heap.size w w'
theorem Cls.refl (w : World) : Cls w w := Below.refl _ _
theorem Cls.cell {w w1 : World} (h : Cls w w1) {b o : Nat} {v : Value} (hc : w.cell? ⟨b, o, none⟩ = some v) : w1.cell? ⟨b, o, none⟩ = some v := bl_cell h hc
/-- The whole region by one walk of the text's order. -/
theorem region_cls {P : Program} {id : Nat} {Q : Exit → Act → World → Prop} {a : Act} {w : World} {l : List Oper} (hm : P.follows .mixedOrders = true) (hB : Region.lexB .any l.toArray = true)
    (h : wpQuiet P l.toArray (Cls w) (fun a' => ∀ w', Cls w w' → Q .normal a' w') l a) : (Code.region id l.toArray true).wp P Q a w :=
  wp_region_quiet (C := Cls w) hm hB (show Cls w w.drew from (Below.refl _ _).drew) (by simpa using h)
/-- One operation of it: wanted, or passed over. -/
theorem quiet_pos {P : Program} {ops : Array Oper} {C : World → Prop} {Q : Act → Prop} {o : Oper} {rest : List Oper} {a : Act} (hg : Region.wanted o (yielded ops a.tmps) = true)
    (h : ∀ K : Act → Prop, (∀ a, wpQuiet P ops C Q rest a → K a) → ∃ v, (∀ w, C w → o.quietAt P a C w v) ∧ K (a.put o.dst v)) : wpQuiet P ops C Q (o :: rest) a :=
  wpQuiet_step fun K hK => by rw [if_pos hg]; exact h K hK
theorem quiet_neg {P : Program} {ops : Array Oper} {C : World → Prop} {Q : Act → Prop} {o : Oper} {rest : List Oper} {a : Act} (hg : Region.wanted o (yielded ops a.tmps) = false)
    (h : ∀ K : Act → Prop, (∀ a, wpQuiet P ops C Q rest a → K a) → K (a.put o.dst undef)) : wpQuiet P ops C Q (o :: rest) a :=
  wpQuiet_step fun K hK => by rw [if_neg (by rw [hg]; decide)]; exact h K hK
theorem Cls.sees {w w1 : World} (h : Cls w w1) (p : World → Prop) (hp : ∀ w', Below w.heap.size w w' → p w') : p w1 := hp _ h
theorem Cls.call {P : Program} {f : FuncId} {args : Array Value} {w w1 : World} {v : Value} (h : Cls w w1)
    (c : Calls P f args w1 fun e w2 => e = .returned v ∧ Below w1.heap.size w1 w2) : Calls P f args w1 fun e w2 => e = .returned v ∧ Cls w w2 :=
  c.mono fun _ _ hh => ⟨hh.1, bl_then h hh.2⟩
theorem Cls.drew (w : World) : Cls w w.drew := (Below.refl _ _).drew
theorem Cls.next {w w1 w2 : World} (k : Below w1.heap.size w1 w2) (h : Cls w w1) : Cls w w2 := bl_then h k
theorem Cls.same {P : Program} {f : FuncId} {args : Array Value} {w w1 : World} {v : Value} (h : Cls w w1)
    (c : Calls P f args w1 fun e w2 => e = .returned v ∧ w1 = w2) : Calls P f args w1 fun e w2 => e = .returned v ∧ Cls w w2 :=
  c.mono fun _ _ hh => ⟨hh.1, hh.2 ▸ h⟩
theorem Cls.drewN {P : Program} {f : FuncId} {args : Array Value} {w w1 : World} {v : Value} (h : Cls w w1)
    (c : Calls P f args w1 fun e w2 => e = .returned v ∧ ∃ n, w2 = w1.drewN n) : Calls P f args w1 fun e w2 => e = .returned v ∧ Cls w w2 :=
  c.mono fun _ _ hh => ⟨hh.1, by obtain ⟨n, rfl⟩ := hh.2; exact bl_drewN h n⟩

/-! ### From a walk to the row -/
section
variable {H : Type} {enc : TypeId × Value → H} {P : Program}

theorem trodAll_below (hl : laidOutB P = true) {W W' : World} (hb : Below W.heap.size W W') :
    ∀ {ts : List TypeId} {vs : List Value} {ds : List (DataW H)} {ps : List MemPlace}, ts.all (fun t => P.readableRec t && decide (t < P.types.size)) = true →
      DataW.TrodAll enc P W 0 (fun _ => true) true ts vs ds ps → (∀ x ∈ ps, x.block < W.heap.size) → DataW.TrodAll enc P W' 0 (fun b => decide (b < W.heap.size)) true ts vs ds ps := by
  intro ts
  induction ts with
  | nil =>
    intro vs ds ps _ h _
    cases vs <;> cases ds <;> simp_all [DataW.TrodAll]
  | cons t ts ih =>
    intro vs ds ps hr h hlt
    match vs, ds, h with
    | v :: vs, d :: ds, h =>
      obtain ⟨p, q, h1, h2, rfl⟩ := h
      simp only [List.all_cons, Bool.and_eq_true, decide_eq_true_eq] at hr
      exact ⟨p, q, Below.trod hl hr.1.1 hr.1.2 h1 hb (fun x hx => hlt x (by simp [hx])), ih (by simpa using hr.2) h2 (fun x hx => hlt x (by simp [hx])), rfl⟩

theorem trodAll_len {W : World} : ∀ {ts : List TypeId} {vs : List Value} {ds : List (DataW H)} {ps : List MemPlace} {b : Nat} {sp : Nat → Bool} {hd : Bool},
    DataW.TrodAll enc P W b sp hd ts vs ds ps → ds.length = ts.length := by
  intro ts
  induction ts with
  | nil => intro vs ds ps _ _ _ h; cases vs <;> cases ds <;> simp_all [DataW.TrodAll]
  | cons t ts ih =>
    intro vs ds ps _ _ _ h
    match vs, ds, h with
    | v :: vs, d :: ds, h => obtain ⟨p, q, _, h2, _⟩ := h; simp [ih h2]

/-- What a law's row asks: the call returns true and below the heap's old size nothing has turned. -/
theorem law_contract {F : FuncId} {f : Func} {s : ChangeSpec} {tb : TypeId} (hl : laidOutB P = true) (hread : f.params.toList.all (fun t => P.readableRec t && decide (t < P.types.size)) = true)
    (hres : f.resultTypes = #[tb]) (hb : P.underlying tb = some .bool) (hv : s.vars = [])
    (hs : ∀ ds : List (DataW H), ds.length = f.params.toList.length → (s.fn H ds).results = [.lit (.bool true)] ∧ (s.fn H ds).args = ds ∧ (s.fn H ds).vars = [])
    (W : World) (args : Array Value) (ds gs : List (DataW H)) (before : List MemPlace)
    (hW : DataW.Whole enc P f.params.toList s.vars false W args.toList ds gs before)
    (walk : ∀ p, DataW.TrodAll enc P W 0 (fun _ => true) true f.params.toList args.toList ds p → Calls P F args W fun e W' => e = .returned (.bool true) ∧ Below W.heap.size W W') :
    Calls P F args W fun e W' => ∃ v, e = .returned v ∧ s.post enc P f false true false false W args v W' := by
  have hW' := hW
  obtain ⟨p, q, hA, hV, hpq, hfz, hnd⟩ := hW
  refine (walk p hA).mono fun e W' ⟨he, hbel⟩ => ⟨_, he, ?_⟩
  rw [hv] at hV
  obtain ⟨rfl, rfl⟩ : gs = [] ∧ q = [] := by cases gs <;> simp_all [DataW.TrodVars]
  have hlt := hW'.lt
  rw [hpq] at hlt
  obtain ⟨h1, h2, h3⟩ := hs ds (trodAll_len hA)
  refine ⟨ds, [], before, [], p, [], hW', ?_, ?_, ?_, hbel.frame _, fun h => by cases h⟩
  · rw [List.append_nil, h1, hres]
    exact trodAll_mk1 (shut_bool hb true)
  · rw [List.append_nil, h2]
    exact trodAll_below hl hbel hread hA (fun x hx => hlt x (by simp [hx]))
  · rw [List.append_nil, h3, hv]
    rfl
end

/-! ### Slices that show a list -/
/-- An element's type: its cells. -/
structure El (α : Type) where
  sz : Nat
  cells : α → List Value
  len : ∀ x, (cells x).length = sz
  pos : 0 < sz
  one : ∀ x, ∀ u ∈ cells x, u.oneCell' = true

def elInt : El Int := ⟨1, fun n => [.int .i64 n], fun _ => rfl, by decide, fun _ u h => by simp at h; subst h; rfl⟩
def elStr : El ByteArray := ⟨1, fun s => [.string s], fun _ => rfl, by decide, fun _ u h => by simp at h; subst h; rfl⟩
def elByte : El UInt8 := ⟨1, fun c => [.int .u8 c.toNat], fun _ => rfl, by decide, fun _ u h => by simp at h; subst h; rfl⟩

/-- The slice at A of length n shows the list xs, all of it below block B. -/
def Sees {α : Type} (E : El α) (w : World) (B : Nat) (A : Option Addr) (n : Nat) (xs : List α) : Prop :=
  xs.length = n ∧ (n = 0 ∨ ∃ b o, A = some ⟨b, o, none⟩ ∧ b < B ∧ ∀ k x, xs[k]? = some x → ∀ j u, (E.cells x)[j]? = some u → w.cell? ⟨b, o + k * E.sz + j, none⟩ = some u)

section
variable {α : Type} {E : El α} {w w' : World} {B B' : Nat} {A : Option Addr} {n : Nat} {xs : List α}
theorem Sees.len (h : Sees E w B A n xs) : xs.length = n := h.1
theorem Sees.nil (E : El α) (w : World) (B : Nat) (A : Option Addr) : Sees E w B A 0 [] := ⟨rfl, .inl rfl⟩
theorem Sees.keep (h : Sees E w B A n xs) (hk : ∀ p : Addr, p.block < B → w'.cell? p = w.cell? p) : Sees E w' B A n xs := by
  refine ⟨h.1, ?_⟩
  rcases h.2 with h0 | ⟨b, o, rfl, hb, hc⟩
  · exact .inl h0
  · exact .inr ⟨b, o, rfl, hb, fun k x hx j u hu => (hk _ hb).trans (hc k x hx j u hu)⟩
theorem Sees.more (h : Sees E w B A n xs) (hB : B ≤ B') : Sees E w B' A n xs := by
  refine ⟨h.1, ?_⟩
  rcases h.2 with h0 | ⟨b, o, rfl, hb, hc⟩
  · exact .inl h0
  · exact .inr ⟨b, o, rfl, by omega, hc⟩
theorem Sees.below (h : Sees E w B A n xs) (hb : Below B w w') : Sees E w' B A n xs := h.keep fun _ hp => hb.cell hp
theorem Sees.drewN (h : Sees E w B A n xs) (q : Nat) : Sees E (w.drewN q) B A n xs := h.keep fun _ _ => rfl
theorem Sees.grow (h : Sees E w B A n xs) (hb : Below w.heap.size w w') : Sees E w' B A n xs := by
  refine ⟨h.1, ?_⟩
  rcases h.2 with h0 | ⟨b, o, rfl, hB, hc⟩
  · exact .inl h0
  · exact .inr ⟨b, o, rfl, hB, fun k x hx j u hu => bl_cell hb (hc k x hx j u hu)⟩
/-- The address, asked for where there is an element. -/
theorem Sees.at_ {k : Nat} (h : Sees E w B A n xs) (hk : k < n) : ∃ b o, A = some ⟨b, o, none⟩ ∧ b < B ∧ ∀ k x, xs[k]? = some x → ∀ j u, (E.cells x)[j]? = some u → w.cell? ⟨b, o + k * E.sz + j, none⟩ = some u := by
  rcases h.2 with h0 | h0
  · omega
  · exact h0
theorem Sees.cell {b o : Nat} (h : Sees E w B (some ⟨b, o, none⟩) n xs) {k : Nat} {x : α} (hx : xs[k]? = some x) {j : Nat} {u : Value} (hu : (E.cells x)[j]? = some u) : w.cell? ⟨b, o + k * E.sz + j, none⟩ = some u := by
  rcases h.2 with h0 | ⟨b', o', e, _, hc⟩
  · have := h.1; rw [h0] at this; rw [List.eq_nil_of_length_eq_zero this] at hx; simp at hx
  · injection e with e; injection e with e1 e2; subst e1 e2; exact hc k x hx j u hu
theorem Sees.blt {b o : Nat} (h : Sees E w B (some ⟨b, o, none⟩) n xs) (hn : 0 < n) : b < B := by
  rcases h.2 with h0 | ⟨b', o', e, hb, _⟩
  · omega
  · injection e with e; injection e with e1 e2; subst e1; exact hb
/-- A front part. -/
theorem Sees.take (h : Sees E w B A n xs) {k : Nat} (hk : k ≤ n) : Sees E w B A k (xs.take k) := by
  refine ⟨by rw [List.length_take, h.1]; omega, ?_⟩
  rcases h.2 with h0 | ⟨b, o, rfl, hb, hc⟩
  · exact .inl (by omega)
  · refine .inr ⟨b, o, rfl, hb, fun j x hx => hc j x ?_⟩
    rw [List.getElem?_take] at hx
    split at hx
    · exact hx
    · cases hx
end
/-- A row of the call's own shows what it holds. -/
theorem flat_get {α : Type} (E : El α) (xs : List α) (k : Nat) (x : α) (hx : xs[k]? = some x) (j : Nat) (u : Value) (hu : (E.cells x)[j]? = some u) : (xs.flatMap E.cells)[k * E.sz + j]? = some u := by
  induction xs generalizing k with
  | nil => simp at hx
  | cons y ys ih =>
    rw [List.flatMap_cons]
    cases k with
    | zero =>
      simp at hx; subst hx
      have hj : j < (E.cells y).length := (List.getElem?_eq_some_iff.1 hu).1
      rw [Nat.zero_mul, Nat.zero_add, List.getElem?_append_left hj]; exact hu
    | succ k =>
      simp at hx
      rw [List.getElem?_append_right (by rw [E.len, Nat.add_mul]; omega), E.len, show (k + 1) * E.sz + j - E.sz = k * E.sz + j by rw [Nat.add_mul]; omega]
      exact ih k hx
theorem flat_len {α : Type} (E : El α) (xs : List α) : (xs.flatMap E.cells).length = xs.length * E.sz := by
  induction xs with
  | nil => simp
  | cons y ys ih => rw [List.flatMap_cons, List.length_append, E.len, ih, List.length_cons, Nat.add_mul]; omega

/-- The row v of element type e, from block base on, is the call's own and holds xs. -/
def Owns {α : Type} (E : El α) (w : World) (base : Nat) (e : TypeId) (v : Value) (xs : List α) : Prop := w.ownsRow base e E.sz v xs.length (xs.flatMap E.cells)
theorem Owns.form {α : Type} {E : El α} {w : World} {base : Nat} {e : TypeId} {v : Value} {xs : List α} (h : Owns E w base e v xs) :
    ∃ A c, v = .slice A xs.length c ∧ xs.length ≤ c ∧ c ≤ maxLen ∧ Sees E w w.heap.size A xs.length xs := by
  rcases h.2 with ⟨rfl, hn⟩ | ⟨g, cap, cur, rfl, hb, hg, hnc, hcm, hcs, ht⟩
  · have : xs = [] := List.eq_nil_of_length_eq_zero hn
    subst this
    exact ⟨none, 0, rfl, by simp, by simp, Sees.nil _ _ _ _⟩
  · refine ⟨_, cap, rfl, hnc, hcm, rfl, ?_⟩
    refine .inr ⟨g, 0, rfl, (Array.getElem?_eq_some_iff.1 hg).1, fun k x hx j u hu => ?_⟩
    have := World.ownsRow.cells h (g := g) rfl _ u (flat_get E xs k x hx j u hu)
    unfold Addr.add at this
    split at this
    · rename_i h0; rw [Nat.zero_add, h0]; exact this
    · simpa using this
theorem Owns.below {α : Type} {E : El α} {w w' : World} {base : Nat} {e : TypeId} {v : Value} {xs : List α} (h : Owns E w base e v xs) (hb : Below w.heap.size w w') : Owns E w' base e v xs := by
  refine ⟨h.1, ?_⟩
  rcases h.2 with hn | ⟨g, cap, cur, hv, hg, hh, r⟩
  · exact .inl hn
  · exact .inr ⟨g, cap, cur, hv, hg, (hb.block g (Array.getElem?_eq_some_iff.1 hh).1).trans hh, r⟩
theorem Owns.base {α : Type} {E : El α} {w : World} {base base' : Nat} {e : TypeId} {v : Value} {xs : List α} (h : Owns E w base e v xs) (hb : base' ≤ base) : Owns E w base' e v xs := by
  refine ⟨h.1, ?_⟩
  rcases h.2 with hn | ⟨g, cap, cur, hv, hg, r⟩
  · exact .inl hn
  · exact .inr ⟨g, cap, cur, hv, by omega, r⟩
/-- A store into a block that is not the row's. -/
theorem Owns.far {α : Type} {E : El α} {w : World} {base : Nat} {e : TypeId} {v : Value} {xs : List α} (h : Owns E w base e v xs) {p : Addr} (hp : p.block < base) (u : Value) : Owns E (w.setCell p u) base e v xs :=
  ownsRow_setCell_below h hp u
/-- A block that is known whole. -/
def Blk (w : World) (g : Nat) (e : TypeId) (cur : Array Value) : Prop := w.heap[g]? = some (.cells cur e (0, 0))
section
variable {w w' : World} {g : Nat} {e : TypeId} {cur : Array Value}
theorem Blk.new (w : World) (e : TypeId) (cur : Array Value) : Blk (w.alloc (.cells cur e)) w.heap.size e cur := heap_alloc_new w _
theorem Blk.lt (h : Blk w g e cur) : g < w.heap.size := (Array.getElem?_eq_some_iff.1 h).1
theorem Blk.cell (h : Blk w g e cur) (i : Nat) : w.cell? ⟨g, i, none⟩ = cur[i]? := cell_of_row w g i cur e (0, 0) h
theorem Blk.cell_ (h : Blk w g e cur) {i : Nat} (hi : i < cur.size) : ∃ u, w.cell? ⟨g, i, none⟩ = some u := ⟨cur[i], by rw [h.cell, Array.getElem?_eq_getElem hi]⟩
theorem Blk.frozen (h : Blk w g e cur) (i : Nat) : w.frozen? ⟨g, i, none⟩ = false := by unfold Blk at h; simp [World.frozen?, h]
theorem Blk.set (h : Blk w g e cur) (i : Nat) (u : Value) : Blk (w.setCell ⟨g, i, none⟩ u) g e (cur.setIfInBounds i u) := by unfold Blk at h ⊢; simp [World.setCell, Array.getElem?_modify, h]
theorem Blk.below {B : Nat} (h : Blk w g e cur) (hb : Below B w w') (hg : g < B) : Blk w' g e cur := (hb.block g hg).trans h
theorem Blk.alloc (h : Blk w g e cur) (o : Obj) : Blk (w.alloc o) g e cur := (Below.heap_alloc w o g h.lt).trans h
end
theorem bl_at {B g : Nat} {w w' : World} (hb : Below B w w') (hg : g < B) {e : TypeId} {cur : Array Value} (h : Blk w g e cur) : Blk w' g e cur := h.below hb hg
theorem size_set (w : World) (p : Addr) (u : Value) : (w.setCell p u).heap.size = w.heap.size := by simp [World.setCell]
theorem Blk.far {w : World} {g : Nat} {e : TypeId} {cur : Array Value} (h : Blk w g e cur) {p : Addr} (hp : g ≠ p.block) (u : Value) : Blk (w.setCell p u) g e cur := (Below.heap_setCell w p u g hp).trans h
/-- The first k elements stand in the row. -/
def Filled {α : Type} (E : El α) (cur : Array Value) (xs : List α) (k : Nat) : Prop := ∀ j x, j < k → xs[j]? = some x → ∀ i u, (E.cells x)[i]? = some u → cur[j * E.sz + i]? = some u
theorem Filled.zero {α : Type} (E : El α) (cur : Array Value) (xs : List α) : Filled E cur xs 0 := fun j _ hj => by omega
theorem Filled.step {α : Type} {E : El α} {cur cur' : Array Value} {xs : List α} {k : Nat} {x : α} (h : Filled E cur xs k) (hx : xs[k]? = some x) (hold : ∀ i, i < k * E.sz → cur'[i]? = cur[i]?)
    (hnew : ∀ i u, (E.cells x)[i]? = some u → cur'[k * E.sz + i]? = some u) : Filled E cur' xs (k + 1) := by
  intro j y hj hy i u hu
  rcases Nat.lt_succ_iff_lt_or_eq.1 hj with hlt | rfl
  · have hi : i < E.sz := by rw [← E.len y]; exact (List.getElem?_eq_some_iff.1 hu).1
    rw [hold]
    · exact h j y hlt hy i u hu
    · have : (j + 1) * E.sz ≤ k * E.sz := Nat.mul_le_mul_right _ hlt
      rw [Nat.add_mul] at this; omega
  · rw [hx] at hy; injection hy with hy; subst hy; exact hnew i u hu
theorem flat_ext {α : Type} (E : El α) : ∀ (xs : List α) (l : List Value), l.length = xs.length * E.sz → (∀ j x, xs[j]? = some x → ∀ i u, (E.cells x)[i]? = some u → l[j * E.sz + i]? = some u) → l = xs.flatMap E.cells := by
  intro xs
  induction xs with
  | nil => intro l hl _; simp at hl; simp [hl]
  | cons y ys ih =>
    intro l hl h
    rw [List.length_cons, Nat.add_mul, Nat.one_mul] at hl
    rw [List.flatMap_cons, ← List.take_append_drop E.sz l]
    congr 1
    · apply List.ext_getElem?
      intro i
      by_cases hi : i < E.sz
      · rw [List.getElem?_take, if_pos hi]
        have hy : i < (E.cells y).length := by rw [E.len]; exact hi
        have := h 0 y rfl i _ (List.getElem?_eq_getElem hy)
        rw [Nat.zero_mul, Nat.zero_add] at this
        rw [this, List.getElem?_eq_getElem hy]
      · rw [List.getElem?_take, if_neg hi, List.getElem?_eq_none (by rw [E.len]; omega)]
    · refine ih _ (by rw [List.length_drop]; omega) (fun j x hx i u hu => ?_)
      rw [List.getElem?_drop, show E.sz + (j * E.sz + i) = (j + 1) * E.sz + i by rw [Nat.add_mul]; omega]
      exact h (j + 1) x (by simpa using hx) i u hu
/-- A row that is filled is the call's own. -/
theorem Owns.of_filled {α : Type} {E : El α} {w : World} {base g n : Nat} {e : TypeId} {cur : Array Value} {xs : List α} (h : Blk w g e cur) (hb : base ≤ g) (hl : xs.length = n) (hs : cur.size = n * E.sz) (hn : n ≤ maxLen)
    (hf : Filled E cur xs n) : Owns E w base e (.slice (some ⟨g, 0, none⟩) n n) xs := by
  refine ⟨flat_len E xs, .inr ⟨g, n, cur, by rw [hl], hb, h, by omega, hn, hs, ?_⟩⟩
  rw [hl, List.take_of_length_le (by simp [hs])]
  refine flat_ext E xs _ (by simp [hs, hl]) (fun j x hx i u hu => ?_)
  have hj : j < n := by rw [← hl]; exact (List.getElem?_eq_some_iff.1 hx).1
  simpa using hf j x hj hx i u hu
/-- make of a variable length. -/
theorem make_n {P : Program} {t e : TypeId} {i : TypeInfo} {z : Value} (ht : P.underlying t = some (.slice e)) (hi : P.info? e = some i) (hz : i.zero = some z) {n : Nat} (hbytes : i.bytes * n ≤ 281474976710656) (h63 : n ≤ 9223372036854775807) (w : World) :
    (Instr.makeSlice t (.int .i64 (n : Int)) (.int .i64 (n : Int))).run P w = .ok (.slice (some ⟨w.heap.size, 0, none⟩) n n) (w.alloc (.cells (madeCells z.cells (n * i.size)) e)) := by
  have hb : (i.bytes : Int) * (n : Int) ≤ 281474976710656 := by
    have h : ((i.bytes * n : Nat) : Int) ≤ 281474976710656 := by omega
    rwa [Int.natCast_mul] at h
  have hr := run_make (P := P) w t e i z ht hi hz .i64 .i64 n n (by omega) (by omega) hb (by omega)
  simp only [Int.toNat_natCast] at hr
  exact hr
end Go.Proofs.YtmkgicfgcoeilaaDoor
/- A string cut at a byte, strings joined with it, in plain Lean. Conditions: none. -/
namespace Go.Proofs.YtmkgicfgcoeilaaDoor
open Go.RowKit
section
variable {s : ByteArray} {b : Int}
/-- The finished parts, and where the next one begins, after k bytes. -/
def splT (s : ByteArray) (b : Int) : Nat → List ByteArray × Nat
  | 0 => ([], 0)
  | k + 1 => if h : k < s.size then if (s[k].toNat : Int) = b then ((splT s b k).1 ++ [s.extract (splT s b k).2 k], k + 1) else splT s b k else splT s b k
/-- The parts. -/
def splA (s : ByteArray) (b : Int) : List ByteArray := (splT s b s.size).1 ++ [s.extract (splT s b s.size).2 s.size]
theorem splT_yes {k : Nat} (h : k < s.size) (hb : (s[k].toNat : Int) = b) : splT s b (k + 1) = ((splT s b k).1 ++ [s.extract (splT s b k).2 k], k + 1) := by
  rw [splT, dif_pos h, if_pos hb]
theorem splT_no {k : Nat} (h : k < s.size) (hb : ¬ (s[k].toNat : Int) = b) : splT s b (k + 1) = splT s b k := by
  rw [splT, dif_pos h, if_neg hb]
theorem splT_bd : ∀ k, (splT s b k).1.length ≤ k ∧ (splT s b k).2 ≤ k := by
  intro k
  induction k with
  | zero => exact ⟨Nat.le_refl _, Nat.le_refl _⟩
  | succ k ih =>
    rw [splT]
    split
    · split
      · refine ⟨?_, Nat.le_refl _⟩
        rw [List.length_append]
        simp; omega
      · exact ⟨by omega, by omega⟩
    · exact ⟨by omega, by omega⟩
theorem splA_len : 0 < (splA s b).length ∧ (splA s b).length ≤ s.size + 1 := by
  have := (splT_bd (s := s) (b := b) s.size).1
  unfold splA
  rw [List.length_append]
  simp; omega
/-- A part's bytes. -/
def byts (xs : List ByteArray) : List (List UInt8) := xs.map (·.data.toList)
theorem join_snoc (sep : List UInt8) (p : List (List UInt8)) (x y : List UInt8) : Lib.join (p ++ [x ++ y]) sep = Lib.join (p ++ [x]) sep ++ y := by
  cases p with
  | nil => rw [List.nil_append, List.nil_append, Lib.join_one, Lib.join_one]
  | cons a p =>
    rw [List.cons_append, List.cons_append, Lib.join_cons, Lib.join_cons, List.append_assoc]
    congr 1
    simp [Lib.joinTail]
theorem join_new (sep : List UInt8) {p : List (List UInt8)} (hp : p ≠ []) (x : List UInt8) : Lib.join (p ++ [x]) sep = Lib.join p sep ++ sep ++ x := by
  cases p with
  | nil => exact absurd rfl hp
  | cons a p =>
    rw [List.cons_append, Lib.join_cons, Lib.join_cons, List.append_assoc, List.append_assoc]
    congr 1
    simp [Lib.joinTail]
/-- The byte stands in a string. -/
def hasC (b : Int) (x : ByteArray) : Bool := x.data.toList.any fun u => decide ((u.toNat : Int) = b)
theorem hasC_false {x : ByteArray} : hasC b x = false ↔ ∀ u ∈ x.data.toList, ¬ (u.toNat : Int) = b := by
  unfold hasC
  rw [List.any_eq_false]
  simp
theorem get_extract {s : ByteArray} {k : Nat} (h : k < s.size) : s.data.toList[k]? = some s[k] := by
  rw [List.getElem?_eq_getElem (by simpa using h)]; rfl
theorem extract_succ {f k : Nat} (h : k < s.size) (hf : f ≤ k) : (s.extract f (k + 1)).data.toList = (s.extract f k).data.toList ++ [s[k]] := by
  rw [Lib.extract_data, Lib.extract_data, show k + 1 - f = (k - f) + 1 by omega]
  rw [List.take_add_one, List.getElem?_drop, show f + (k - f) = k by omega, get_extract h]
  rfl
theorem extract_none (k : Nat) : (s.extract k k).data.toList = [] := by
  rw [Lib.extract_data, Nat.sub_self, List.take_zero]
/-- Joined again, the parts are the string; no part holds the byte. -/
theorem splT_join (c : UInt8) (hc : (c.toNat : Int) = b) : ∀ k, k ≤ s.size → Lib.join (byts ((splT s b k).1 ++ [s.extract (splT s b k).2 k])) [c] = s.data.toList.take k ∧ (∀ x ∈ (splT s b k).1, hasC b x = false) ∧ hasC b (s.extract (splT s b k).2 k) = false := by
  intro k
  induction k with
  | zero =>
    intro _
    refine ⟨?_, (fun x hx => by cases hx), ?_⟩
    · show Lib.join [(s.extract 0 0).data.toList] [c] = _
      rw [Lib.join_one, extract_none, List.take_zero]
    · rw [hasC_false]
      show ∀ u ∈ (s.extract 0 0).data.toList, _
      rw [extract_none]
      intro u hu; cases hu
  | succ k ih =>
    intro hk
    have hlt : k < s.size := hk
    obtain ⟨h1, h2, h3⟩ := ih (by omega)
    have hbd := (splT_bd (s := s) (b := b) k).2
    have ht : s.data.toList.take (k + 1) = s.data.toList.take k ++ [s[k]] := by
      rw [List.take_add_one, get_extract hlt]; rfl
    by_cases hb : (s[k].toNat : Int) = b
    · rw [splT_yes hlt hb]
      refine ⟨?_, fun x hx => ?_, ?_⟩
      · unfold byts at h1 ⊢
        rw [List.map_append, List.map_cons, List.map_nil, extract_none, join_new _ (by simp), h1, ht, List.append_nil]
        have : s[k] = c := by
          apply UInt8.toNat_inj.1
          omega
        rw [this]
      · rcases List.mem_append.1 hx with hx | hx
        · exact h2 x hx
        · rw [List.mem_singleton.1 hx]; exact h3
      · rw [hasC_false, extract_none]
        intro u hu; cases hu
    · rw [splT_no hlt hb]
      refine ⟨?_, h2, ?_⟩
      · unfold byts at h1 ⊢
        rw [List.map_append, List.map_cons, List.map_nil] at h1 ⊢
        rw [extract_succ hlt hbd, join_snoc, h1, ht]
      · rw [hasC_false] at h3 ⊢
        rw [extract_succ hlt hbd]
        intro u hu
        rcases List.mem_append.1 hu with hu | hu
        · exact h3 u hu
        · rw [List.mem_singleton.1 hu]; exact hb
theorem splA_join (c : UInt8) (hc : (c.toNat : Int) = b) : Lib.join (byts (splA s b)) [c] = s.data.toList ∧ ∀ x ∈ splA s b, hasC b x = false := by
  obtain ⟨h1, h2, h3⟩ := splT_join (s := s) c hc s.size (Nat.le_refl _)
  refine ⟨?_, fun x hx => ?_⟩
  · unfold splA
    rw [h1, List.take_of_length_le (by simp)]
  · rcases List.mem_append.1 hx with hx | hx
    · exact h2 x hx
    · rw [List.mem_singleton.1 hx]; exact h3
end
section
variable {xs : List ByteArray} {c : UInt8}
/-- The first k strings joined. -/
def joinK (c : UInt8) (xs : List ByteArray) (k : Nat) : List UInt8 := Lib.join (byts (xs.take k)) [c]
/-- Their lengths, added up. -/
def lensK (xs : List ByteArray) (k : Nat) : Nat := Lib.lens (byts (xs.take k))
theorem joinK_zero : joinK c xs 0 = [] := rfl
theorem joinK_succ {k : Nat} {x : ByteArray} (h : xs[k]? = some x) (hk : 0 < k) : joinK c xs (k + 1) = joinK c xs k ++ [c] ++ x.data.toList := by
  unfold joinK byts
  obtain ⟨hl, _⟩ := List.getElem?_eq_some_iff.1 h
  rw [List.take_add_one, h, List.map_append]
  refine join_new _ (fun e => ?_) _
  have := congrArg List.length e
  simp at this
  rcases this with h0 | h0
  · omega
  · subst h0; simp at hl
theorem joinK_one {x : ByteArray} (h : xs[0]? = some x) : joinK c xs 1 = x.data.toList := by
  unfold joinK byts
  rw [List.take_add_one, h, List.take_zero]
  exact Lib.join_one _ _
theorem lensK_succ {k : Nat} {x : ByteArray} (h : xs[k]? = some x) : lensK xs (k + 1) = lensK xs k + x.size := by
  unfold lensK byts
  rw [List.map_take, Lib.lens_take_succ _ k x.data.toList (by rw [List.getElem?_map, h]; rfl), List.map_take]
  rfl
theorem lensK_mono {k j : Nat} (h : k ≤ j) : lensK xs k ≤ lensK xs j := by
  have := Lib.lens_take_le (byts (xs.take j)) k
  unfold lensK
  rw [show byts (xs.take k) = (byts (xs.take j)).take k by unfold byts; rw [← List.map_take, List.take_take, Nat.min_eq_left h]]
  exact this
theorem joinK_len {k : Nat} (hk : 0 < k) (hl : k ≤ xs.length) : (joinK c xs k).length = (k - 1) + lensK xs k := by
  unfold joinK lensK
  have h : (byts (xs.take k)).length = k := by unfold byts; rw [List.length_map, List.length_take]; omega
  cases e : byts (xs.take k) with
  | nil => rw [e] at h; simp at h; omega
  | cons y r =>
    rw [e, List.length_cons] at h
    rw [Lib.join_length]
    simp; omega
/-- The strings can be joined. -/
def okJ (b : Int) (xs : List ByteArray) : Bool := decide (0 < xs.length) && xs.all (fun x => !hasC b x) && decide (xs.length - 1 + lensK xs xs.length ≤ 4000)
def joinS (c : UInt8) (xs : List ByteArray) : ByteArray := if okJ (c.toNat : Int) xs then ⟨(joinK c xs xs.length).toArray⟩ else ⟨#[]⟩
theorem okJ_has {b : Int} {k : Nat} {x : ByteArray} (h : xs[k]? = some x) (hx : hasC b x = true) : okJ b xs = false := by
  unfold okJ
  have : xs.all (fun x => !hasC b x) = false := by
    rw [List.all_eq_false]
    exact ⟨x, List.mem_of_getElem? h, by rw [hx]; decide⟩
  rw [this]; simp
theorem okJ_big {b : Int} (h : 4000 < xs.length - 1 + lensK xs xs.length) : okJ b xs = false := by
  unfold okJ
  rw [decide_eq_false (by omega : ¬ (xs.length - 1 + lensK xs xs.length ≤ 4000))]; simp
theorem okJ_long {b : Int} {k : Nat} (hk : k < xs.length) (h : 4000 < (joinK c xs (k + 1)).length) : okJ b xs = false := by
  rw [joinK_len (k := k + 1) (by omega) (by omega)] at h
  have := lensK_mono (xs := xs) (k := k + 1) (j := xs.length) hk
  exact okJ_big (by omega)
theorem okJ_yes {b : Int} (h0 : 0 < xs.length) (h1 : ∀ (k : Nat) x, xs[k]? = some x → hasC b x = false) (h2 : xs.length - 1 + lensK xs xs.length ≤ 4000) : okJ b xs = true := by
  unfold okJ
  rw [decide_eq_true h0, decide_eq_true h2]
  have : xs.all (fun x => !hasC b x) = true := by
    rw [List.all_eq_true]
    intro x hx
    obtain ⟨k, hk⟩ := List.getElem?_of_mem hx
    rw [h1 k x hk]; rfl
  rw [this]; rfl
theorem joinS_no (h : okJ (c.toNat : Int) xs = false) : joinS c xs = ⟨#[]⟩ := by unfold joinS; rw [h]; rfl
theorem joinS_yes (h : okJ (c.toNat : Int) xs = true) {s : ByteArray} (hs : s.data.toList = joinK c xs xs.length) : joinS c xs = s := by
  unfold joinS
  rw [h, if_pos rfl, ← hs, Lib.mk_data]
/-- What was cut can be joined, and is the string. -/
theorem splA_joinS {s : ByteArray} (h : s.size ≤ 4000) : okJ (c.toNat : Int) (splA s (c.toNat : Int)) = true ∧ joinS c (splA s (c.toNat : Int)) = s := by
  obtain ⟨h1, h2⟩ := splA_join (s := s) c rfl
  have h3 := (splA_len (s := s) (b := (c.toNat : Int))).1
  have h4 : joinK c (splA s (c.toNat : Int)) (splA s (c.toNat : Int)).length = s.data.toList := by
    unfold joinK
    rw [List.take_length]; exact h1
  have h5 := joinK_len (c := c) h3 (Nat.le_refl _)
  rw [h4] at h5
  have h6 : s.data.toList.length = s.size := by simp
  have h7 := okJ_yes (b := (c.toNat : Int)) h3 (fun k x hk => h2 x (List.mem_of_getElem? hk)) (by omega)
  exact ⟨h7, joinS_yes h7 h4.symm⟩
theorem has_index {x : ByteArray} : (0 ≤ Lib.indexByte x.data.toList c) ↔ hasC (c.toNat : Int) x = true := by
  constructor
  · intro h
    obtain ⟨o, ho⟩ := Int.eq_ofNat_of_zero_le h
    have := (Lib.indexByte_some ho).1
    unfold hasC
    rw [List.any_eq_true]
    exact ⟨c, List.mem_of_getElem? this, by simp⟩
  · intro h
    by_cases hn : Lib.indexByte x.data.toList c < 0
    · have h1 := Lib.indexByte_ge x.data.toList c
      have h2 := Lib.indexByte_none (l := x.data.toList) (c := c) (by omega)
      unfold hasC at h
      rw [List.any_eq_true] at h
      obtain ⟨u, hu, he⟩ := h
      obtain ⟨k, hk⟩ := List.getElem?_of_mem hu
      have : u = c := by
        apply UInt8.toNat_inj.1
        have := of_decide_eq_true he
        omega
      rw [this] at hk
      exact absurd hk (h2 k)
    · omega
end
end Go.Proofs.YtmkgicfgcoeilaaDoor
/- Numbers and their texts, in plain Lean: a text is a number's if it is just what the number is written as. Conditions: none. -/
namespace Go.Proofs.YtmkgicfgcoeilaaDoor
open Go.RowKit
theorem ba_eq {a b : ByteArray} (h : a.data.toList = b.data.toList) : a = b := by
  cases a; cases b
  congr 1
  exact Array.toList_inj.1 h
theorem dec_one {u : Nat} (h : u < 10) : Lib.decDigits u = [UInt8.ofNat (48 + u)] := by rw [Lib.decDigits, dif_pos h]
theorem dec_more {u : Nat} (h : ¬ u < 10) : Lib.decDigits u = Lib.decDigits (u / 10) ++ [UInt8.ofNat (48 + u % 10)] := by rw [Lib.decDigits, dif_neg h]
theorem dig_val_fin : ∀ d : Fin 10, Lib.digitVal (UInt8.ofNat (48 + d.val)) = some d.val := by decide +kernel
theorem dig_val {d : Nat} (h : d < 10) : Lib.digitVal (UInt8.ofNat (48 + d)) = some d := dig_val_fin ⟨d, h⟩
theorem decFrom_snoc : ∀ (l : List UInt8) (acc m d : Nat) (b : UInt8), Lib.decFrom acc l = some m → Lib.digitVal b = some d → Lib.decFrom acc (l ++ [b]) = some (m * 10 + d) := by
  intro l
  induction l with
  | nil =>
    intro acc m d b h hd
    simp only [Lib.decFrom, Option.some.injEq] at h
    subst h
    simp [Lib.decFrom, hd]
  | cons a l ih =>
    intro acc m d b h hd
    simp only [List.cons_append, Lib.decFrom] at h ⊢
    cases ha : Lib.digitVal a with
    | none => simp [ha] at h
    | some e =>
      simp only [ha] at h ⊢
      exact ih _ _ _ _ h hd
theorem decFrom_digits : ∀ u, Lib.decFrom 0 (Lib.decDigits u) = some u := by
  intro u
  induction u using Nat.strongRecOn with
  | ind u ih =>
    by_cases h : u < 10
    · rw [dec_one h]
      have hd := dig_val h
      generalize UInt8.ofNat (48 + u) = b at hd
      simp [Lib.decFrom, hd]
    · rw [dec_more h, decFrom_snoc _ _ _ _ _ (ih (u / 10) (by omega)) (dig_val (Nat.mod_lt _ (by decide)))]
      congr 1
      omega
theorem dec_ne (u : Nat) : Lib.decDigits u ≠ [] := by
  by_cases h : u < 10
  · rw [dec_one h]; simp
  · rw [dec_more h]; simp
theorem dec_dig {u : Nat} {b : UInt8} (h : b ∈ Lib.decDigits u) : 48 ≤ b.toNat ∧ b.toNat ≤ 57 := by
  obtain ⟨k, hk⟩ := List.getElem?_of_mem h
  obtain ⟨d, hd⟩ := Lib.digit_of_decFrom _ _ _ (decFrom_digits u) k b hk
  exact ⟨(Lib.digitVal_eq hd).1, (Lib.digitVal_eq hd).2.1⟩
theorem dec_head (u : Nat) : ∃ b r, Lib.decDigits u = b :: r ∧ 48 ≤ b.toNat ∧ b.toNat ≤ 57 := by
  cases h : Lib.decDigits u with
  | nil => exact absurd h (dec_ne u)
  | cons b r => exact ⟨b, r, rfl, dec_dig (u := u) (by rw [h]; exact List.mem_cons_self)⟩
theorem dec_len : ∀ (k u : Nat), u < 10 ^ (k + 1) → (Lib.decDigits u).length ≤ k + 1 := by
  intro k
  induction k with
  | zero => intro u h; rw [dec_one (by simpa using h)]; simp
  | succ k ih =>
    intro u h
    by_cases h1 : u < 10
    · rw [dec_one h1]; simp
    · rw [dec_more h1, List.length_append]
      have := ih (u / 10) (by rw [Nat.pow_succ] at h; omega)
      simp; omega
theorem dec_len_pos (u : Nat) : 1 ≤ (Lib.decDigits u).length := by
  obtain ⟨b, r, h, _⟩ := dec_head u
  rw [h]; simp
/-- A number's text. -/
def numS (n : Int) : ByteArray := ⟨(Lib.itoa n).toArray⟩
theorem numS_list (n : Int) : (numS n).data.toList = Lib.itoa n := by unfold numS; simp
theorem itoa_neg_ {n : Int} (h : n < 0) : Lib.itoa n = 45 :: Lib.decDigits n.natAbs := by unfold Lib.itoa; rw [if_pos h]
theorem itoa_pos_ {n : Int} (h : ¬ n < 0) : Lib.itoa n = Lib.decDigits n.natAbs := by unfold Lib.itoa; rw [if_neg h]; congr 1; omega
theorem itoa_len {n : Int} (h : -999999 ≤ n ∧ n ≤ 999999) : 1 ≤ (Lib.itoa n).length ∧ (Lib.itoa n).length ≤ 7 := by
  have h1 := dec_len 5 n.natAbs (by omega)
  have h2 := dec_len_pos n.natAbs
  by_cases hn : n < 0
  · rw [itoa_neg_ hn]; simp; omega
  · rw [itoa_pos_ hn]; omega
theorem atoi_itoa (n : Int) : Lib.atoi (Lib.itoa n) = some n := by
  obtain ⟨b, r, h, hb1, hb2⟩ := dec_head n.natAbs
  have hd := decFrom_digits n.natAbs
  have hdn : Lib.decNat (Lib.decDigits n.natAbs) = some n.natAbs := by
    unfold Lib.decNat
    rw [hd, h]; rfl
  by_cases hn : n < 0
  · rw [itoa_neg_ hn]
    have e0 : Lib.atoi (45 :: Lib.decDigits n.natAbs) = (Lib.decNat (Lib.decDigits n.natAbs)).map fun (m : Nat) => -(m : Int) := rfl
    rw [e0, hdn]
    simp; omega
  · rw [itoa_pos_ hn]
    have e1 : (b == 45) = false := by
      rw [beq_eq_false_iff_ne]; intro e; rw [e] at hb1; exact absurd hb1 (by decide)
    have e2 : (b == 43) = false := by
      rw [beq_eq_false_iff_ne]; intro e; rw [e] at hb1; exact absurd hb1 (by decide)
    rw [h] at hdn ⊢
    have e0 : Lib.atoi (b :: r) = if b == 45 then (Lib.decNat r).map (fun (m : Nat) => -(m : Int)) else if b == 43 then (Lib.decNat r).map (fun (m : Nat) => (m : Int)) else (Lib.decNat (b :: r)).map fun (m : Nat) => (m : Int) := rfl
    rw [e0, e1, e2, hdn]
    simp; omega
/-- The number whose text this is. -/
def rdN (s : ByteArray) : Option Int :=
  match Lib.atoi s.data.toList with
  | some n => if (-999999 ≤ n ∧ n ≤ 999999) ∧ numS n = s then some n else none
  | none => none
theorem numS_eq {n : Int} {s : ByteArray} : numS n = s ↔ Lib.itoa n = s.data.toList := by
  constructor
  · intro h; rw [← h, numS_list]
  · intro h; unfold numS; rw [h]
theorem rdN_iff {s : ByteArray} {n : Int} : rdN s = some n ↔ (-999999 ≤ n ∧ n ≤ 999999) ∧ numS n = s := by
  constructor
  · intro h
    unfold rdN at h
    split at h
    · rename_i m hm
      split at h
      · rename_i h2
        injection h with h
        subst h
        exact h2
      · cases h
    · cases h
  · rintro ⟨h1, h2⟩
    unfold rdN
    have : Lib.atoi s.data.toList = some n := by rw [← numS_eq.1 h2]; exact atoi_itoa n
    rw [this]
    simp only
    rw [if_pos ⟨h1, h2⟩]
theorem rdN_none {s : ByteArray} (h : ∀ n, (-999999 ≤ n ∧ n ≤ 999999) → numS n = s → False) : rdN s = none := by
  cases g : rdN s with
  | none => rfl
  | some n => exact absurd (rdN_iff.1 g) (fun ⟨a, b⟩ => h n a b)
def rdV (s : ByteArray) : Int := (rdN s).getD 0
def rdK (s : ByteArray) : Bool := (rdN s).isSome
theorem rdVK_some {s : ByteArray} {n : Int} (h : rdN s = some n) : rdV s = n ∧ rdK s = true := by unfold rdV rdK; rw [h]; exact ⟨rfl, rfl⟩
theorem rdVK_none {s : ByteArray} (h : rdN s = none) : rdV s = 0 ∧ rdK s = false := by unfold rdV rdK; rw [h]; exact ⟨rfl, rfl⟩
theorem numS_size {n : Int} (h : -999999 ≤ n ∧ n ≤ 999999) : 1 ≤ (numS n).size ∧ (numS n).size ≤ 7 := by
  have h1 := itoa_len h
  have : (numS n).size = (Lib.itoa n).length := by unfold numS; simp [ByteArray.size]
  rw [this]; exact h1
/-! ### The reference's reading: a sign, then digits -/
theorem rd_size {s : ByteArray} {n : Int} (h : rdN s = some n) : 1 ≤ s.size ∧ s.size ≤ 7 := by
  obtain ⟨h1, h2⟩ := rdN_iff.1 h
  rw [← h2]; exact numS_size h1
/-- A text of a number: behind the sign stand the digits of its size. -/
theorem canon_neg {s : ByteArray} {n : Int} (h : numS n = s) (hs : s.data.toList[0]? = some 45) : n < 0 ∧ s.data.toList.drop 1 = Lib.decDigits n.natAbs := by
  have h1 := numS_eq.1 h
  by_cases hn : n < 0
  · rw [itoa_neg_ hn] at h1
    rw [← h1]; exact ⟨hn, rfl⟩
  · rw [itoa_pos_ hn] at h1
    obtain ⟨b, r, h2, hb1, _⟩ := dec_head n.natAbs
    rw [← h1, h2] at hs
    simp at hs
    rw [hs] at hb1; exact absurd hb1 (by decide)
theorem canon_pos {s : ByteArray} {n : Int} (h : numS n = s) (hs : ¬ s.data.toList[0]? = some 45) : ¬ n < 0 ∧ s.data.toList = Lib.decDigits n.natAbs := by
  have h1 := numS_eq.1 h
  by_cases hn : n < 0
  · rw [itoa_neg_ hn] at h1
    rw [← h1] at hs; exact absurd rfl hs
  · rw [itoa_pos_ hn] at h1
    exact ⟨hn, h1.symm⟩
/-- The digits' part of a text. -/
def digT (s : ByteArray) : ByteArray := if 1 < s.size ∧ s.data.toList[0]? = some 45 then s.extract 1 s.size else s
theorem digT_neg {s : ByteArray} (h : 1 < s.size) (h0 : s.data.toList[0]? = some 45) : digT s = s.extract 1 s.size := by unfold digT; rw [if_pos ⟨h, h0⟩]
theorem digT_pos {s : ByteArray} (h : ¬ (1 < s.size ∧ s.data.toList[0]? = some 45)) : digT s = s := by unfold digT; rw [if_neg h]
theorem extract1 (s : ByteArray) : (s.extract 1 s.size).data.toList = s.data.toList.drop 1 := by
  rw [ByteArray.data_extract, Array.toList_extract]
  simp
  rw [List.take_of_length_le (by simp)]
theorem digT_canon {s : ByteArray} {n : Int} (h : numS n = s) : (digT s).data.toList = Lib.decDigits n.natAbs ∧ (n < 0 ↔ (digT s).size < s.size) := by
  by_cases h0 : s.data.toList[0]? = some 45
  · obtain ⟨h1, h2⟩ := canon_neg h h0
    have hl : 1 < s.size := by
      have := dec_len_pos n.natAbs
      rw [← h2, List.length_drop] at this
      simp at this; omega
    rw [digT_neg hl h0]
    refine ⟨by rw [extract1]; exact h2, ?_⟩
    have : (s.extract 1 s.size).size = s.size - 1 := by rw [ByteArray.size_extract]; omega
    rw [this]
    constructor
    · intro _; omega
    · intro _; exact h1
  · obtain ⟨h1, h2⟩ := canon_pos h h0
    rw [digT_pos (fun h => h0 h.2)]
    refine ⟨h2, ?_⟩
    constructor
    · intro h; exact absurd h h1
    · intro h; omega
theorem rd_len {s : ByteArray} (h : ¬ (1 ≤ (digT s).size ∧ (digT s).size ≤ 6)) : rdN s = none := by
  refine rdN_none fun n h1 h2 => h ?_
  have h3 := (digT_canon h2).1
  have h4 := dec_len 5 n.natAbs (by omega)
  have h5 := dec_len_pos n.natAbs
  rw [← h3] at h4 h5
  simp at h4 h5
  exact ⟨h5, h4⟩
theorem rd_bad {s : ByteArray} {k : Nat} {b : UInt8} (h : (digT s).data.toList[k]? = some b) (hb : b.toNat < 48 ∨ 57 < b.toNat) : rdN s = none := by
  refine rdN_none fun n h1 h2 => ?_
  have h3 := (digT_canon h2).1
  rw [h3] at h
  have := dec_dig (List.mem_of_getElem? h)
  omega
/-- What the reference reads before it holds the text against the number's. -/
def rdM (s : ByteArray) (m : Nat) : Int := if (digT s).size < s.size then -(m : Int) else (m : Int)
theorem rd_end {s : ByteArray} {m : Nat} (hl : (digT s).size ≤ 6) (h : Lib.decFrom 0 (digT s).data.toList = some m) : (-999999 ≤ rdM s m ∧ rdM s m ≤ 999999) ∧ (numS (rdM s m) = s → rdN s = some (rdM s m)) ∧ (¬ numS (rdM s m) = s → rdN s = none) := by
  have h1 := Lib.decFrom_lt _ _ _ h
  have h2 : m < 10 ^ 6 := by
    refine Nat.lt_of_lt_of_le h1 ?_
    rw [Nat.zero_add, Nat.one_mul]
    exact Nat.pow_le_pow_right (by decide) (by simpa using hl)
  have hb : -999999 ≤ rdM s m ∧ rdM s m ≤ 999999 := by unfold rdM; split <;> omega
  refine ⟨hb, fun h3 => rdN_iff.2 ⟨hb, h3⟩, fun h3 => rdN_none fun n h4 h5 => h3 ?_⟩
  obtain ⟨h6, h7⟩ := digT_canon h5
  rw [h6, decFrom_digits] at h
  injection h with h
  have : rdM s m = n := by
    unfold rdM
    split
    · rename_i h8; have := h7.2 h8; omega
    · rename_i h8; have : ¬ n < 0 := fun h => h8 (h7.1 h); omega
  rw [this]; exact h5
end Go.Proofs.YtmkgicfgcoeilaaDoor
/- A text cut at a byte: its parts are the only ones; the library's way finds the same ones. Plain Lean. Conditions: none. -/
namespace Go.Proofs.YtmkgicfgcoeilaaDoor
open Go.RowKit
/-- What stands ahead of the first c. -/
def preC (c : UInt8) (l : List UInt8) : List UInt8 := l.takeWhile fun u => !decide (u = c)
section
variable {c : UInt8}
theorem preC_free : ∀ {l : List UInt8}, ¬ c ∈ l → ∀ r, preC c (l ++ c :: r) = l := by
  intro l
  induction l with
  | nil => intro _ r; simp [preC]
  | cons x l ih =>
    intro h r
    have hx : ¬ x = c := fun e => h (by rw [e]; exact List.mem_cons_self)
    unfold preC at ih ⊢
    rw [List.cons_append, List.takeWhile_cons, if_pos (by simp [hx]), ih (fun h2 => h (List.mem_cons_of_mem _ h2))]
theorem preC_all : ∀ {l : List UInt8}, ¬ c ∈ l → preC c l = l := by
  intro l
  induction l with
  | nil => intro _; rfl
  | cons x l ih =>
    intro h
    have hx : ¬ x = c := fun e => h (by rw [e]; exact List.mem_cons_self)
    unfold preC at ih ⊢
    rw [List.takeWhile_cons, if_pos (by simp [hx]), ih (fun h2 => h (List.mem_cons_of_mem _ h2))]
theorem preC_split : ∀ {l : List UInt8}, c ∈ l → l = preC c l ++ c :: l.drop ((preC c l).length + 1) := by
  intro l
  induction l with
  | nil => intro h; cases h
  | cons x l ih =>
    intro h
    by_cases hx : x = c
    · subst hx; simp [preC]
    · rcases List.mem_cons.1 h with e | h
      · exact absurd e.symm hx
      · have e : preC c (x :: l) = x :: preC c l := by unfold preC; rw [List.takeWhile_cons, if_pos (by simp [hx])]
        rw [e]
        have := ih h
        simp only [List.length_cons, List.drop_succ_cons, List.cons_append]
        rw [← this]
theorem preC_no (l : List UInt8) : ¬ c ∈ preC c l := by
  induction l with
  | nil => intro h; cases h
  | cons x l ih =>
    intro h
    unfold preC at h ih
    rw [List.takeWhile_cons] at h
    split at h
    · rename_i hx
      rcases List.mem_cons.1 h with e | h
      · rw [← e] at hx; simp at hx
      · exact ih h
    · cases h
theorem joinTail_cons (q : List UInt8) (r : List (List UInt8)) : Lib.joinTail [c] (q :: r) = c :: Lib.join (q :: r) [c] := by
  rw [Lib.join_cons]
  simp [Lib.joinTail]
theorem joinTail_nil : Lib.joinTail [c] [] = [] := by simp [Lib.joinTail]
/-- A text has only one list of parts. -/
theorem parts_uniq : ∀ {ps qs : List (List UInt8)}, ps ≠ [] → qs ≠ [] → (∀ p ∈ ps, ¬ c ∈ p) → (∀ q ∈ qs, ¬ c ∈ q) → Lib.join ps [c] = Lib.join qs [c] → ps = qs := by
  intro ps
  induction ps with
  | nil => intro qs h; exact absurd rfl h
  | cons p r ih =>
    intro qs _ hq hp hqs he
    cases qs with
    | nil => exact absurd rfl hq
    | cons q t =>
      rw [Lib.join_cons, Lib.join_cons] at he
      have hpf := hp p List.mem_cons_self
      have hqf := hqs q List.mem_cons_self
      cases r with
      | nil =>
        cases t with
        | nil => rw [joinTail_nil, List.append_nil, List.append_nil] at he; rw [he]
        | cons q2 t =>
          rw [joinTail_nil, List.append_nil, joinTail_cons] at he
          exact absurd (by rw [he]; simp) hpf
      | cons p2 r =>
        cases t with
        | nil =>
          rw [joinTail_nil, List.append_nil, joinTail_cons] at he
          exact absurd (by rw [← he]; simp) hqf
        | cons q2 t =>
          rw [joinTail_cons, joinTail_cons] at he
          have e1 := congrArg (preC c) he
          rw [preC_free hpf, preC_free hqf] at e1
          subst e1
          have e2 := List.append_cancel_left he
          injection e2 with _ e2
          rw [ih (by simp) (by simp) (fun x hx => hp x (List.mem_cons_of_mem _ hx)) (fun x hx => hqs x (List.mem_cons_of_mem _ hx)) e2]
theorem index_preC : ∀ l : List UInt8, Lib.index l [c] = if c ∈ l then ((preC c l).length : Int) else -1 := by
  intro l
  induction l with
  | nil => rfl
  | cons x l ih =>
    unfold Lib.index
    by_cases hx : x = c
    · subst hx
      rw [if_pos (by simp), if_pos List.mem_cons_self]
      simp [preC]
    · have e1 : List.isPrefixOf [c] (x :: l) = false := by
        simp [List.isPrefixOf]
        exact fun e => hx e.symm
      have e2 : preC c (x :: l) = x :: preC c l := by unfold preC; rw [List.takeWhile_cons, if_pos (by simp [hx])]
      rw [e1, ih]
      by_cases hm : c ∈ l
      · rw [if_pos hm, if_pos (List.mem_cons_of_mem _ hm), e2, if_neg (by decide), if_neg (by rw [beq_iff_eq]; omega)]
        simp
      · have h3 : ¬ c ∈ x :: l := fun h => by
          rcases List.mem_cons.1 h with e | h
          · exact hx e.symm
          · exact hm h
        rw [if_neg hm, if_neg h3]
        rfl
/-- The library's parts. -/
theorem splitK_parts : ∀ (k : Nat) (l : List UInt8), Lib.count l [c] = k → Lib.splitK [c] 0 k l ≠ [] ∧ (∀ p ∈ Lib.splitK [c] 0 k l, ¬ c ∈ p) ∧ Lib.join (Lib.splitK [c] 0 k l) [c] = l := by
  intro k
  induction k with
  | zero =>
    intro l h
    have hm : ¬ c ∈ l := by rw [Lib.count_one] at h; exact List.count_eq_zero.1 h
    have e : Lib.splitK [c] 0 0 l = [l] := rfl
    rw [e]
    exact ⟨by simp, fun p hp => by rw [List.mem_singleton.1 hp]; exact hm, Lib.join_one _ _⟩
  | succ k ih =>
    intro l h
    have hm : c ∈ l := by
      rw [Lib.count_one] at h
      exact List.count_pos_iff.1 (by omega)
    have hi : Lib.index l [c] = ((preC c l).length : Int) := by rw [index_preC, if_pos hm]
    have hs := preC_split hm
    have e : Lib.splitK [c] 0 (k + 1) l = preC c l :: Lib.splitK [c] 0 k (l.drop ((preC c l).length + 1)) := by
      show (if Lib.index l [c] == -1 then [l] else l.take ((Lib.index l [c]).toNat + 0) :: Lib.splitK [c] 0 k (l.drop ((Lib.index l [c]).toNat + [c].length))) = _
      rw [hi, if_neg (by rw [beq_iff_eq]; omega), Int.toNat_natCast, Nat.add_zero]
      have : l.take (preC c l).length = preC c l := (List.prefix_iff_eq_take.1 (List.takeWhile_prefix _)).symm
      rw [this]
      rfl
    have hc : Lib.count (l.drop ((preC c l).length + 1)) [c] = k := by
      rw [Lib.count_one] at h ⊢
      conv at h => lhs; rw [hs]
      rw [List.count_append, List.count_eq_zero.2 (preC_no l), List.count_cons_self] at h
      omega
    obtain ⟨h1, h2, h3⟩ := ih _ hc
    rw [e]
    refine ⟨by simp, fun p hp => ?_, ?_⟩
    · rcases List.mem_cons.1 hp with rfl | hp
      · exact preC_no l
      · exact h2 p hp
    · rw [Lib.join_cons]
      cases hr : Lib.splitK [c] 0 k (l.drop ((preC c l).length + 1)) with
      | nil => exact absurd hr h1
      | cons q t =>
        rw [joinTail_cons, ← hr, h3]
        exact hs.symm
theorem hasC_no {b : Int} (hb : (c.toNat : Int) = b) {x : ByteArray} : hasC b x = false ↔ ¬ c ∈ x.data.toList := by
  rw [hasC_false]
  constructor
  · intro h hm; exact h c hm hb
  · intro h u hu e
    have : u = c := UInt8.toNat_inj.1 (by omega)
    exact h (by rw [← this]; exact hu)
theorem byts_inj : ∀ {a b : List ByteArray}, byts a = byts b → a = b := by
  intro a
  induction a with
  | nil => intro b h; cases b with
    | nil => rfl
    | cons y b => simp [byts] at h
  | cons x a ih => intro b h; cases b with
    | nil => simp [byts] at h
    | cons y b =>
      simp only [byts, List.map_cons] at h
      injection h with h1 h2
      have e1 : x.data.toList = y.data.toList := h1
      rw [ba_eq e1, ih (b := b) h2]
/-- The parts of a text, whoever lists them. -/
theorem splA_is {s : ByteArray} {xs : List ByteArray} (h0 : xs ≠ []) (h1 : ∀ x ∈ xs, ¬ c ∈ x.data.toList) (h2 : Lib.join (byts xs) [c] = s.data.toList) : splA s (c.toNat : Int) = xs := by
  obtain ⟨j1, j2⟩ := splA_join (s := s) c rfl
  have hl := (splA_len (s := s) (b := (c.toNat : Int))).1
  refine byts_inj (parts_uniq (c := c) ?_ ?_ ?_ ?_ (j1.trans h2.symm))
  · intro e
    have := congrArg List.length e
    simp [byts] at this
    rw [this] at hl
    exact absurd hl (by decide)
  · intro e
    apply h0
    have := congrArg List.length e
    simp [byts] at this
    exact this
  · intro p hp
    obtain ⟨x, hx, rfl⟩ := List.mem_map.1 hp
    exact (hasC_no rfl).1 (j2 x hx)
  · intro p hp
    obtain ⟨x, hx, rfl⟩ := List.mem_map.1 hp
    exact h1 x hx
theorem splitB_splA (s : ByteArray) : Lib.splitB ⟨#[c]⟩ 0 (Lib.countB s ⟨#[c]⟩) s = splA s (c.toNat : Int) := by
  have hd := Lib.splitB_data ⟨#[c]⟩ 0 (Lib.countB s ⟨#[c]⟩) s
  have hc : Lib.count s.data.toList [c] = Lib.countB s ⟨#[c]⟩ := rfl
  obtain ⟨h1, h2, h3⟩ := splitK_parts (c := c) _ _ hc
  have hd : byts (Lib.splitB ⟨#[c]⟩ 0 (Lib.countB s ⟨#[c]⟩) s) = Lib.splitK [c] 0 (Lib.countB s ⟨#[c]⟩) s.data.toList := hd
  symm
  refine splA_is (fun e => h1 (by rw [← hd, e]; rfl)) (fun x hx => ?_) (by rw [hd]; exact h3)
  exact h2 x.data.toList (by rw [← hd]; exact List.mem_map.2 ⟨x, hx, rfl⟩)
end
end Go.Proofs.YtmkgicfgcoeilaaDoor
/- Small functions of the networks' chapter, walked: ranges, names, comparing. Conditions: none. -/
namespace Go.Proofs.YtmkgicfgcoeilaaDoor
open Go.RowKit
/-- In a range. -/
def inB (lo hi n : Int) : Bool := decide (lo ≤ n ∧ n ≤ hi)
theorem within_any (n lo hi : Int) (w : World) :
    Calls Tryd.prog 49 #[.int .i64 n, .int .i64 lo, .int .i64 hi] w fun e w' => e = .returned (.bool (inB lo hi n)) ∧ w = w' := by
  by_cases h1 : lo ≤ n <;> by_cases h2 : n ≤ hi
  all_goals
    go_enter Tryd.func49, Tryd.ntmps49
    go_wp2
    go_ret
    exact ⟨by simp [inB, h1, h2], rfl⟩
theorem l1In_any (n lo hi : Int) (w : World) :
    Calls Tryd.prog 37 #[.int .i64 n, .int .i64 lo, .int .i64 hi] w fun e w' => e = .returned (.bool (inB lo hi n)) ∧ w = w' := by
  by_cases h1 : lo ≤ n <;> by_cases h2 : n ≤ hi
  all_goals
    go_enter Tryd.func37, Tryd.ntmps37
    go_wp2
    go_ret
    exact ⟨by simp [inB, h1, h2], rfl⟩
/-- Comparing numbers. -/
def cmpB (a b : Int) : Int := if a < b then -1 else if b < a then 1 else 0
theorem compare_any (a b : Int) (w : World) :
    Calls Tryd.prog 64 #[.int .i64 a, .int .i64 b] w fun e w' => e = .returned (.int .i64 (cmpB a b)) ∧ w = w' := by
  by_cases h1 : a < b
  · go_enter Tryd.func64, Tryd.ntmps64
    go_wp2
    go_ret
    exact ⟨by simp [cmpB, h1], rfl⟩
  · by_cases h2 : b < a
    · go_enter Tryd.func64, Tryd.ntmps64
      go_wp2
      go_ret
      exact ⟨by rw [cmpB, if_neg (by omega), if_pos (by omega)]; rfl, rfl⟩
    · go_enter Tryd.func64, Tryd.ntmps64
      go_wp2
      go_ret
      exact ⟨by rw [cmpB, if_neg (by omega), if_neg (by omega)]; rfl, rfl⟩
end Go.Proofs.YtmkgicfgcoeilaaDoor
/- The checksum of a list of bytes, in plain Lean: no program in sight. Conditions: none. -/
namespace Go.Proofs.YtmkgicfgcoeilaaDoor
namespace Chk
/-- One byte's turn. -/
def step (h : Int) (c : UInt8) : Int := (41 * h + (c.toNat : Int) + 1) % 999979
/-- The checksum. -/
def sum (l : List UInt8) : Int := l.foldl step 7
theorem step_bd (h : Int) (c : UInt8) : 0 ≤ step h c ∧ step h c < 999979 := by unfold step; omega
theorem sum_bd (l : List UInt8) : 0 ≤ sum l ∧ sum l < 999979 := by
  unfold sum
  have : ∀ (l : List UInt8) (a : Int), 0 ≤ a ∧ a < 999979 → 0 ≤ l.foldl step a ∧ l.foldl step a < 999979 := by
    intro l
    induction l with
    | nil => intro a h; exact h
    | cons c l ih => intro a _; exact ih _ (step_bd a c)
  exact this l 7 (by omega)
theorem sum_snoc (l : List UInt8) (c : UInt8) : sum (l ++ [c]) = (41 * sum l + (c.toNat : Int) + 1) % 999979 := by
  unfold sum; rw [List.foldl_append]; rfl
end Chk
theorem take_snoc (s : ByteArray) (k : Nat) (h : k < s.size) : s.data.toList.take (k + 1) = s.data.toList.take k ++ [s[k]] := by
  rw [List.take_succ_eq_append_getElem (by simpa using h)]; rfl
theorem ret_int {k : IntKind} {a b : Int} (h : a = b) : Ending.returned (.int k a) = .returned (.int k b) := by rw [h]
end Go.Proofs.YtmkgicfgcoeilaaDoor
/- Names, walked: the program's isName and the reference's l2Name are one function of the bytes. Conditions: none. -/
namespace Go.Proofs.YtmkgicfgcoeilaaDoor
open Go.RowKit
def letB (c : UInt8) : Bool := decide (97 ≤ c.toNat ∧ c.toNat ≤ 122)
def digB (c : UInt8) : Bool := decide (48 ≤ c.toNat ∧ c.toNat ≤ 57)
/-- What the bytes of a name pass, from place k on. -/
def okAt (k : Nat) (c : UInt8) : Bool := letB c || (digB c && !(k == 0))
def okTo (l : List UInt8) (k : Nat) : Prop := ∀ j c, j < k → l[j]? = some c → okAt j c = true
def nameB (l : List UInt8) : Bool := decide (1 ≤ l.length ∧ l.length ≤ 8) && (l.zipIdx.all fun x => okAt x.2 x.1)
theorem okTo_all {l : List UInt8} : okTo l l.length ↔ (l.zipIdx.all fun x => okAt x.2 x.1) = true := by
  constructor
  · intro h
    rw [List.all_eq_true]
    rintro ⟨c, j⟩ hx
    rw [List.mem_zipIdx_iff_getElem?] at hx
    exact h j c (List.getElem?_eq_some_iff.1 hx).1 hx
  · intro h j c hj hc
    rw [List.all_eq_true] at h
    exact h (c, j) (List.mem_zipIdx_iff_getElem?.2 hc)
theorem okTo_succ {l : List UInt8} {k : Nat} {c : UInt8} (h : okTo l k) (hc : l[k]? = some c) (ho : okAt k c = true) : okTo l (k + 1) := by
  intro j d hj hd
  rcases Nat.lt_succ_iff_lt_or_eq.1 hj with hlt | rfl
  · exact h j d hlt hd
  · rw [hc] at hd; injection hd with hd; subst hd; exact ho
theorem nameB_no {l : List UInt8} {k : Nat} {c : UInt8} (hc : l[k]? = some c) (ho : okAt k c = false) : nameB l = false := by
  unfold nameB
  rw [Bool.and_eq_false_iff]
  refine .inr ?_
  rw [← Bool.not_eq_true, ← okTo_all]
  intro h
  have := h k c (List.getElem?_eq_some_iff.1 hc).1 hc
  rw [ho] at this; cases this
theorem nameB_yes {l : List UInt8} (h : okTo l l.length) : nameB l = inB 1 8 l.length := by
  unfold nameB inB
  rw [okTo_all.1 h, Bool.and_true]
  rw [Bool.eq_iff_iff]; simp only [decide_eq_true_eq]; omega
theorem byte_cases (c : Nat) : c < 48 ∨ (48 ≤ c ∧ c ≤ 57) ∨ (58 ≤ c ∧ c < 97) ∨ (97 ≤ c ∧ c ≤ 122) ∨ 122 < c := by omega
theorem size_list (s : ByteArray) : s.data.toList.length = s.size := by simp
theorem get_list (s : ByteArray) (k : Nat) (h : k < s.size) : s.data.toList[k]? = some s[k] := by
  rw [List.getElem?_eq_getElem (by simpa using h)]; rfl
set_option maxHeartbeats 1000000 in
theorem isName_any (s : ByteArray) (w : World) (hs : s.size ≤ maxLen) :
    Calls Tryd.prog 47 #[.string s] w fun e w' => e = .returned (.bool (nameB s.data.toList)) ∧ ∃ n, w' = w.drewN n := by
  unfold maxLen at hs
  go_enter Tryd.func47, Tryd.ntmps47
  go_wp2
  go_loopw [8] (fun i wr => ∃ k n : Nat, k ≤ s.size ∧ i = .int .i64 k ∧ Hid (okTo s.data.toList k) ∧ wr = w.drewN n) (fun i _ => s.size - (intOf i).toNat)
  case atStart => exact ⟨0, 0, Nat.zero_le _, rfl, fun j c hj => by omega, rfl⟩
  case round =>
    obtain ⟨k, n, hk, rfl, hok, rfl⟩ := hrel
    by_cases hlt : k < s.size
    · have hg := get_list s k hlt
      have hb : (s[k].toNat : Int) < 256 := by have := s[k].toNat_lt; omega
      have hg' : ∀ b, okAt k s[k] = b → b = true → Hid (okTo s.data.toList (k + 1)) := fun b hb1 hb2 => okTo_succ hok hg (hb1.trans hb2)
      have hno : ∀ b, okAt k s[k] = b → b = false → Hid (nameB s.data.toList = false) := fun b hb1 hb2 => nameB_no hg (hb1.trans hb2)
      generalize hc : s[k] = c at hb hg hg' hno
      have hget : s[k] = c := hc
      clear hc
      rcases byte_cases c.toNat with h1 | ⟨h1, h2⟩ | ⟨h1, h2⟩ | ⟨h1, h2⟩ | h1
      · have d1 : decide ((97 : Int) ≤ (c.toNat : Int)) = false := by simp; omega
        have d3 : decide ((48 : Int) ≤ (c.toNat : Int)) = false := by simp; omega
        have HN := hno _ (by unfold okAt letB digB; simp; omega) rfl
        clear hg' hno hg
        go_wp2
        go_quiet (fail)
        go_wp2
        go_ret
        exact ⟨by rw [HN.out]; rfl, _, rfl⟩
      · by_cases hk0 : k = 0
        · subst hk0
          have d1 : decide ((97 : Int) ≤ (c.toNat : Int)) = false := by simp; omega
          have d3 : decide ((48 : Int) ≤ (c.toNat : Int)) = true := by simp; omega
          have d4 : decide ((c.toNat : Int) ≤ 57) = true := by simp; omega
          have HN := hno _ (by unfold okAt letB digB; simp; omega) rfl
          clear hg' hno hg
          go_wp2
          go_quiet (fail)
          go_wp2
          go_ret
          exact ⟨by rw [HN.out]; rfl, _, rfl⟩
        · have hk1 : ((k : Int) == 0) = false := by simp; omega
          have d1 : decide ((97 : Int) ≤ (c.toNat : Int)) = false := by simp; omega
          have d3 : decide ((48 : Int) ≤ (c.toNat : Int)) = true := by simp; omega
          have d4 : decide ((c.toNat : Int) ≤ 57) = true := by simp; omega
          have HY := hg' _ (by unfold okAt letB digB; simp; omega) rfl
          clear hg' hno hg
          go_wp2
          go_quiet (fail)
          go_wp2
          go_roundw
          case rel => exact ⟨k + 1, _, by omega, by go_num, HY, rfl⟩
          case measure => simp [intOf]; omega
      · have d1 : decide ((97 : Int) ≤ (c.toNat : Int)) = false := by simp; omega
        have d3 : decide ((48 : Int) ≤ (c.toNat : Int)) = true := by simp; omega
        have d4 : decide ((c.toNat : Int) ≤ 57) = false := by simp; omega
        have HN := hno _ (by unfold okAt letB digB; simp; omega) rfl
        clear hg' hno hg
        go_wp2
        go_quiet (fail)
        go_wp2
        go_ret
        exact ⟨by rw [HN.out]; rfl, _, rfl⟩
      · have d1 : decide ((97 : Int) ≤ (c.toNat : Int)) = true := by simp; omega
        have d2 : decide ((c.toNat : Int) ≤ 122) = true := by simp; omega
        have d3 : decide ((48 : Int) ≤ (c.toNat : Int)) = true := by simp; omega
        have d4 : decide ((c.toNat : Int) ≤ 57) = false := by simp; omega
        have HY := hg' _ (by unfold okAt letB digB; simp; omega) rfl
        clear hg' hno hg
        go_wp2
        go_quiet (fail)
        go_wp2
        go_roundw
        case rel => exact ⟨k + 1, _, by omega, by go_num, HY, rfl⟩
        case measure => simp [intOf]; omega
      · have d1 : decide ((97 : Int) ≤ (c.toNat : Int)) = true := by simp; omega
        have d2 : decide ((c.toNat : Int) ≤ 122) = false := by simp; omega
        have d3 : decide ((48 : Int) ≤ (c.toNat : Int)) = true := by simp; omega
        have d4 : decide ((c.toNat : Int) ≤ 57) = false := by simp; omega
        have HN := hno _ (by unfold okAt letB digB; simp; omega) rfl
        clear hg' hno hg
        go_wp2
        go_quiet (fail)
        go_wp2
        go_ret
        exact ⟨by rw [HN.out]; rfl, _, rfl⟩
    · go_wp2_with (go_at_call 49; refine (within_any _ _ _ _).mono ?_; rintro e w' ⟨rfl, rfl⟩)
      go_ret
      have : k = s.size := by omega
      subst this
      exact ⟨by rw [nameB_yes (by rw [size_list]; exact hok.out), size_list]; rfl, _, rfl⟩
end Go.Proofs.YtmkgicfgcoeilaaDoor
/- Finding a value in a list, in plain Lean. Conditions: none. -/
namespace Go.Proofs.YtmkgicfgcoeilaaDoor
/-- The index of the first x, counted from k; -1 if there is none. -/
def findFrom {α : Type} [DecidableEq α] (x : α) : List α → Nat → Int
  | [], _ => -1
  | y :: l, k => if y = x then (k : Int) else findFrom x l (k + 1)
def findI {α : Type} [DecidableEq α] (l : List α) (x : α) : Int := findFrom x l 0
section
variable {α : Type} {l : List α} {x : α}
/-- None of the first k is x. -/
def noneTo (l : List α) (x : α) (k : Nat) : Prop := ∀ j, j < k → l[j]? ≠ some x
theorem noneTo_zero : noneTo l x 0 := fun j hj => by omega
theorem noneTo_succ {k : Nat} {y : α} (h : noneTo l x k) (hy : l[k]? = some y) (hne : y ≠ x) : noneTo l x (k + 1) := by
  intro j hj
  rcases Nat.lt_succ_iff_lt_or_eq.1 hj with hlt | rfl
  · exact h j hlt
  · rw [hy]; intro e; injection e with e; exact hne e
theorem noneTo_not {n : Nat} (hn : l.length = n) (h : noneTo l x n) : x ∉ l := by
  intro hm
  obtain ⟨i, hi, e⟩ := List.mem_iff_getElem.1 hm
  exact h i (by omega) (by rw [List.getElem?_eq_getElem hi, e])
end
section
variable {α : Type} [DecidableEq α] {l : List α} {x : α}
theorem findFrom_at : ∀ {l : List α} {k0 k : Nat}, l[k]? = some x → (∀ j, j < k → l[j]? ≠ some x) → findFrom x l k0 = ((k0 + k : Nat) : Int) := by
  intro l
  induction l with
  | nil => intro k0 k h; simp at h
  | cons y l ih =>
    intro k0 k h hn
    unfold findFrom
    cases k with
    | zero => simp at h; rw [if_pos h]; rfl
    | succ k =>
      rw [if_neg (fun e => hn 0 (Nat.succ_pos _) (by simp [e]))]
      rw [ih (k := k) (by simpa using h) (fun j hj => by have := hn (j + 1) (by omega); simpa using this)]
      congr 1; omega
theorem findFrom_none : ∀ {l : List α} {k0 : Nat}, x ∉ l → findFrom x l k0 = -1 := by
  intro l
  induction l with
  | nil => intro k0 _; rfl
  | cons y l ih =>
    intro k0 h
    simp only [List.mem_cons, not_or] at h
    unfold findFrom
    rw [if_neg (fun e => h.1 e.symm), ih h.2]
theorem findI_at {k : Nat} (h : noneTo l x k) (hx : l[k]? = some x) : findI l x = k := by
  have := findFrom_at (k0 := 0) hx h
  simpa [findI] using this
theorem findI_none {n : Nat} (hn : l.length = n) (h : noneTo l x n) : findI l x = -1 := findFrom_none (noneTo_not hn h)
theorem findFrom_ge : ∀ {l : List α} {k0 : Nat}, (0 ≤ findFrom x l k0 ↔ x ∈ l) := by
  intro l
  induction l with
  | nil => intro k0; simp [findFrom]
  | cons y l ih =>
    intro k0
    unfold findFrom
    by_cases h : y = x
    · simp [h]
    · rw [if_neg h, ih]; simp [show x ≠ y from fun e => h e.symm]
theorem findI_ge : 0 ≤ findI l x ↔ x ∈ l := findFrom_ge
theorem findFrom_bd : ∀ {l : List α} {k0 : Nat}, -1 ≤ findFrom x l k0 ∧ findFrom x l k0 < k0 + l.length ∧ (0 ≤ findFrom x l k0 → (k0 : Int) ≤ findFrom x l k0) := by
  intro l
  induction l with
  | nil => intro k0; simp [findFrom]; omega
  | cons y l ih =>
    intro k0
    unfold findFrom
    by_cases h : y = x
    · rw [if_pos h]; simp only [List.length_cons]; omega
    · rw [if_neg h]; have := ih (k0 := k0 + 1); simp only [List.length_cons]; omega
theorem findI_bd : -1 ≤ findI l x ∧ findI l x < l.length := by
  have := findFrom_bd (x := x) (l := l) (k0 := 0); unfold findI; omega
/-- Is x in the list? -/
def hasB (l : List α) (x : α) : Bool := decide (0 ≤ findI l x)
theorem hasB_iff : hasB l x = true ↔ x ∈ l := by unfold hasB; rw [decide_eq_true_eq]; exact findI_ge
end
end Go.Proofs.YtmkgicfgcoeilaaDoor
/- Fibers: how they compare, in plain Lean. Conditions: none. -/
namespace Go.Proofs.YtmkgicfgcoeilaaDoor
/-- A fiber. -/
structure Fib where
  a : Int
  b : Int
  len : Int
  risk : Int
def fibV (f : Fib) : Value := .agg #[.int .i64 f.a, .int .i64 f.b, .int .i64 f.len, .int .i64 f.risk]
def elFib : El Fib := ⟨4, fun f => [.int .i64 f.a, .int .i64 f.b, .int .i64 f.len, .int .i64 f.risk], fun _ => rfl, by decide,
  fun _ u h => by simp at h; rcases h with rfl | rfl | rfl | rfl <;> rfl⟩
/-- The first number that is not 0. -/
def orI : List Int → Int
  | [] => 0
  | x :: l => if x = 0 then orI l else x
def cmpFib (f g : Fib) : Int := orI [cmpB f.a g.a, cmpB f.b g.b, cmpB f.len g.len, cmpB f.risk g.risk]
/-- The reference's number. -/
def befF (f g : Fib) : Int := if f.a = g.a then if f.b = g.b then if f.len = g.len then f.risk - g.risk else f.len - g.len else f.b - g.b else f.a - g.a
theorem cmpB_zero {a b : Int} : cmpB a b = 0 ↔ a = b := by unfold cmpB; split <;> (try split) <;> omega
theorem cmpB_pos {a b : Int} : 0 < cmpB a b ↔ b < a := by unfold cmpB; split <;> (try split) <;> omega
theorem cmpB_neg {a b : Int} : cmpB a b < 0 ↔ a < b := by unfold cmpB; split <;> (try split) <;> omega
theorem befF_pos (f g : Fib) : 0 < befF f g ↔ 0 < cmpFib f g := by
  unfold befF cmpFib orI orI orI orI orI
  simp only [cmpB_zero]
  split
  · split
    · split
      · split
        · rename_i h; simp [h]
        · rw [cmpB_pos]; omega
      · rw [cmpB_pos]; omega
    · rw [cmpB_pos]; omega
  · rw [cmpB_pos]; omega
theorem befF_le (f g : Fib) : befF f g ≤ 0 ↔ cmpFib f g ≤ 0 := by have := befF_pos f g; omega
/-- A row of fibers, one more written. -/
def put4 (cur : Array Value) (k : Nat) (f : Fib) : Array Value := (((cur.setIfInBounds (k * 4) (.int .i64 f.a)).setIfInBounds (k * 4 + 1) (.int .i64 f.b)).setIfInBounds (k * 4 + 2) (.int .i64 f.len)).setIfInBounds (k * 4 + 3) (.int .i64 f.risk)
theorem put4_size (cur : Array Value) (k : Nat) (f : Fib) : (put4 cur k f).size = cur.size := by simp [put4]
theorem put4_other {cur : Array Value} {k i : Nat} {f : Fib} (h : i < k * 4 ∨ k * 4 + 3 < i) : (put4 cur k f)[i]? = cur[i]? := by
  unfold put4
  rw [Array.getElem?_setIfInBounds_ne (by omega), Array.getElem?_setIfInBounds_ne (by omega), Array.getElem?_setIfInBounds_ne (by omega), Array.getElem?_setIfInBounds_ne (by omega)]
theorem put4_new {cur : Array Value} {k : Nat} {f : Fib} (hs : k * 4 + 3 < cur.size) : ∀ i u, (elFib.cells f)[i]? = some u → (put4 cur k f)[k * 4 + i]? = some u := by
  intro i u hu
  unfold put4
  match i, hu with
  | 0, hu =>
    rw [Array.getElem?_setIfInBounds_ne (by omega), Array.getElem?_setIfInBounds_ne (by omega), Array.getElem?_setIfInBounds_ne (by omega)]
    rw [Nat.add_zero, Array.getElem?_setIfInBounds_self_of_lt (by omega)]; exact hu
  | 1, hu =>
    rw [Array.getElem?_setIfInBounds_ne (by omega), Array.getElem?_setIfInBounds_ne (by omega)]
    rw [Array.getElem?_setIfInBounds_self_of_lt (by simp; omega)]; exact hu
  | 2, hu =>
    rw [Array.getElem?_setIfInBounds_ne (by omega)]
    rw [Array.getElem?_setIfInBounds_self_of_lt (by simp; omega)]; exact hu
  | 3, hu => rw [Array.getElem?_setIfInBounds_self_of_lt (by simp; omega)]; exact hu
  | i + 4, hu => simp [elFib] at hu
theorem Filled.put4 {cur : Array Value} {xs : List Fib} {k : Nat} {f : Fib} (h : Filled elFib cur xs k) (hx : xs[k]? = some f) (hs : k * 4 + 3 < cur.size) : Filled elFib (put4 cur k f) xs (k + 1) :=
  h.step hx (fun _ hi => put4_other (.inl hi)) (put4_new hs)
theorem Blk.put4 {w : World} {g : Nat} {e : TypeId} {cur : Array Value} (h : Blk w g e cur) (k : Nat) (f : Fib) :
    Blk ((((w.setCell ⟨g, k * 4, none⟩ (.int .i64 f.a)).setCell ⟨g, k * 4 + 1, none⟩ (.int .i64 f.b)).setCell ⟨g, k * 4 + 2, none⟩ (.int .i64 f.len)).setCell ⟨g, k * 4 + 3, none⟩ (.int .i64 f.risk)) g e (put4 cur k f) :=
  (((h.set _ _).set _ _).set _ _).set _ _
end Go.Proofs.YtmkgicfgcoeilaaDoor
/- Networks that are valid, in plain Lean. Conditions: none. -/
namespace Go.Proofs.YtmkgicfgcoeilaaDoor
/-- All of the first k pass. -/
def allTo (p : Nat → Bool) (k : Nat) : Prop := ∀ j, j < k → p j = true
def allB (p : Nat → Bool) (n : Nat) : Bool := (List.range n).all p
theorem allTo_zero (p : Nat → Bool) : allTo p 0 := fun j hj => by omega
theorem allTo_succ {p : Nat → Bool} {k : Nat} (h : allTo p k) (hk : p k = true) : allTo p (k + 1) := by
  intro j hj
  rcases Nat.lt_succ_iff_lt_or_eq.1 hj with hlt | rfl
  · exact h j hlt
  · exact hk
theorem allB_iff {p : Nat → Bool} {n : Nat} : allB p n = true ↔ allTo p n := by unfold allB allTo; simp
theorem allB_yes {p : Nat → Bool} {n k : Nat} (h : allTo p k) (hk : k = n) : allB p n = true := by subst hk; exact allB_iff.2 h
theorem allB_no {p : Nat → Bool} {n k : Nat} (hk : k < n) (h : p k = false) : allB p n = false := by
  rw [← Bool.not_eq_true, allB_iff]; intro ht; have := ht k hk; rw [h] at this; cases this
instance : Inhabited Fib := ⟨⟨0, 0, 0, 0⟩⟩
def nameAt (xs : List ByteArray) (k : Nat) : Bool := nameB (xs.getD k ByteArray.empty).data.toList && !hasB (xs.take k) (xs.getD k ByteArray.empty)
def fibB (n : Nat) (f : Fib) : Bool := decide (0 ≤ f.a ∧ f.a < f.b ∧ f.b < n ∧ 1 ≤ f.len ∧ f.len ≤ 5000 ∧ 0 ≤ f.risk ∧ f.risk ≤ 9)
def fibAt (n : Nat) (fs : List Fib) (k : Nat) : Bool := fibB n (fs.getD k default) && (k == 0 || decide (cmpFib (fs.getD (k - 1) default) (fs.getD k default) ≤ 0))
def goodB (xs : List ByteArray) (fs : List Fib) : Bool :=
  decide (2 ≤ xs.length ∧ xs.length ≤ 8) && decide (fs.length ≤ 14) && allB (nameAt xs) xs.length && allB (fibAt xs.length fs) fs.length
theorem goodB_len {xs : List ByteArray} {fs : List Fib} (h : decide (2 ≤ xs.length ∧ xs.length ≤ 8) = false) : goodB xs fs = false := by unfold goodB; rw [h]; simp
theorem goodB_fib {xs : List ByteArray} {fs : List Fib} (h : decide (fs.length ≤ 14) = false) : goodB xs fs = false := by unfold goodB; rw [h]; simp
theorem goodB_name {xs : List ByteArray} {fs : List Fib} {k : Nat} (hk : k < xs.length) (h : nameAt xs k = false) : goodB xs fs = false := by unfold goodB; rw [allB_no hk h]; simp
theorem goodB_fibAt {xs : List ByteArray} {fs : List Fib} {k : Nat} (hk : k < fs.length) (h : fibAt xs.length fs k = false) : goodB xs fs = false := by unfold goodB; rw [allB_no hk h]; simp
theorem goodB_rest {xs : List ByteArray} {fs : List Fib} (h1 : allTo (nameAt xs) xs.length) (h2 : allTo (fibAt xs.length fs) fs.length) :
    goodB xs fs = (decide (2 ≤ xs.length ∧ xs.length ≤ 8) && decide (fs.length ≤ 14)) := by unfold goodB; rw [allB_iff.2 h1, allB_iff.2 h2]; simp
theorem fib_cases (n : Nat) (f : Fib) : decide (f.a < 0) = true ∨ (decide (f.a < 0) = false ∧ (decide (f.b ≤ f.a) = true ∨ (decide (f.b ≤ f.a) = false ∧ (decide ((n : Int) ≤ f.b) = true ∨
    (decide ((n : Int) ≤ f.b) = false ∧ (inB 1 5000 f.len = false ∨ (inB 1 5000 f.len = true ∧ (inB 0 9 f.risk = false ∨ inB 0 9 f.risk = true)))))))) := by
  cases decide (f.a < 0) <;> cases decide (f.b ≤ f.a) <;> cases decide ((n : Int) ≤ f.b) <;> cases inB 1 5000 f.len <;> cases inB 0 9 f.risk <;> simp
theorem fibB_eq (n : Nat) (f : Fib) : fibB n f = (!decide (f.a < 0) && !decide (f.b ≤ f.a) && !decide ((n : Int) ≤ f.b) && inB 1 5000 f.len && inB 0 9 f.risk) := by
  unfold fibB inB; rw [Bool.eq_iff_iff]; simp; omega
theorem getD_of {α : Type} {l : List α} {k : Nat} {x d : α} (h : l[k]? = some x) : l.getD k d = x := by simp [List.getD, h]
theorem get_of {α : Type} {l : List α} {k n : Nat} (hl : l.length = n) (hk : k < n) : ∃ x, l[k]? = some x := ⟨l[k]'(by omega), List.getElem?_eq_getElem _⟩
end Go.Proofs.YtmkgicfgcoeilaaDoor
/- slices.Index and slices.Contains over strings, walked. Conditions: none. -/
namespace Go.Proofs.YtmkgicfgcoeilaaDoor
open Go.RowKit
theorem indexS_any {B n c : Nat} {A : Option Addr} {xs : List ByteArray} (s : ByteArray) (w : World) (hA : Sees elStr w B A n xs) (hn : n ≤ maxLen) :
    Calls Tryd.prog 62 #[.slice A n c, .string s] w fun e w' => e = .returned (.int .i64 (findI xs s)) ∧ w = w' := by
  unfold maxLen at hn
  go_enter Tryd.func62, Tryd.ntmps62
  go_wp2
  go_loop [8] (fun i => ∃ k : Nat, k ≤ n ∧ i = .int .i64 k ∧ Hid (noneTo xs s k)) (fun i => n - (intOf i).toNat)
  case atStart => exact ⟨0, Nat.zero_le _, rfl, noneTo_zero⟩
  case round =>
    obtain ⟨k, hk, rfl, hno⟩ := hrel
    by_cases hlt : k < n
    · obtain ⟨b, o, rfl, _, hx⟩ := hA.at_ hlt
      obtain ⟨x, hxk⟩ : ∃ x, xs[k]? = some x := ⟨xs[k]'(by rw [hA.len]; exact hlt), List.getElem?_eq_getElem _⟩
      have hc := hx k x hxk 0 _ rfl
      simp only [elStr, Nat.mul_one, Nat.add_zero] at hc
      clear hx
      by_cases heq : x = s
      · subst heq
        have HF := hid (findI_at hno hxk)
        clear hxk
        go_wp2
        go_ret
        exact ⟨by rw [HF.out]; rfl, rfl⟩
      · have hne := str_ne (fun e : s = x => heq e.symm)
        have HN := hid (noneTo_succ hno hxk heq)
        clear hxk hno
        go_wp2
        go_round
        case rel => exact ⟨k + 1, by omega, by go_num, HN⟩
        case measure => simp [intOf]; omega
    · have HF : Hid (findI xs s = -1) := findI_none hA.len (by obtain rfl : k = n := (by omega); exact hno.out)
      go_wp2
      go_ret
      exact ⟨by rw [HF.out]; rfl, rfl⟩
theorem containsS_any {B n c : Nat} {A : Option Addr} {xs : List ByteArray} (s : ByteArray) (w : World) (hA : Sees elStr w B A n xs) (hn : n ≤ maxLen) :
    Calls Tryd.prog 48 #[.slice A n c, .string s] w fun e w' => e = .returned (.bool (hasB xs s)) ∧ w = w' := by
  go_enter Tryd.func48, Tryd.ntmps48
  go_wp2_with (go_at_call 62; refine (indexS_any s _ hA hn).mono ?_; rintro e w' ⟨rfl, rfl⟩)
  go_ret
  exact ⟨rfl, rfl⟩
end Go.Proofs.YtmkgicfgcoeilaaDoor
/- compareFibers, walked: it returns cmpFib. Conditions: none. -/
namespace Go.Proofs.YtmkgicfgcoeilaaDoor
open Go.RowKit
theorem or_any {b o c : Nat} {x0 x1 x2 x3 : Int} (w : World) (h0 : w.cell? ⟨b, o, none⟩ = some (.int .i64 x0)) (h1 : w.cell? ⟨b, o + 1, none⟩ = some (.int .i64 x1)) (h2 : w.cell? ⟨b, o + 2, none⟩ = some (.int .i64 x2)) (h3 : w.cell? ⟨b, o + 3, none⟩ = some (.int .i64 x3)) :
    Calls Tryd.prog 63 #[.slice (some ⟨b, o, none⟩) 4 c] w fun e w' => e = .returned (.int .i64 (orI [x0, x1, x2, x3])) ∧ w = w' := by
  go_enter Tryd.func63, Tryd.ntmps63
  go_wp2
  go_loop [8] (fun i => ∃ k : Nat, k ≤ 4 ∧ i = .int .i64 k ∧ Hid (orI [x0, x1, x2, x3] = orI ([x0, x1, x2, x3].drop k))) (fun i => 4 - (intOf i).toNat)
  case atStart => exact ⟨0, by omega, rfl, rfl⟩
  case round =>
    obtain ⟨k, hk, rfl, hor⟩ := hrel
    have hc : k < 4 → ∃ x, ([x0, x1, x2, x3].drop k) = x :: [x0, x1, x2, x3].drop (k + 1) ∧ w.cell? ⟨b, o + k, none⟩ = some (.int .i64 x) := by
      intro hlt
      have : k = 0 ∨ k = 1 ∨ k = 2 ∨ k = 3 := by omega
      rcases this with rfl | rfl | rfl | rfl
      · exact ⟨x0, rfl, h0⟩
      · exact ⟨x1, rfl, h1⟩
      · exact ⟨x2, rfl, h2⟩
      · exact ⟨x3, rfl, h3⟩
    by_cases hlt : k < 4
    · obtain ⟨x, hd, hx⟩ := hc hlt
      by_cases hz : x = 0
      · subst hz
        have HY : Hid (orI [x0, x1, x2, x3] = orI ([x0, x1, x2, x3].drop (k + 1))) := by rw [hor.out, hd]; simp [Hid, orI]
        clear hd hc h0 h1 h2 h3
        go_wp2
        go_round
        case rel => exact ⟨k + 1, by omega, by go_num, HY⟩
        case measure => simp [intOf]; omega
      · have hz' : (x == 0) = false := by simp [hz]
        have hz2 : (x != 0) = true := by simp [hz]
        have HY : Hid (orI [x0, x1, x2, x3] = x) := by rw [hor.out, hd]; simp [Hid, orI, hz]
        clear hd hc h0 h1 h2 h3
        go_wp2
        go_ret
        exact ⟨by rw [HY.out]; rfl, rfl⟩
    · have HY : Hid (orI [x0, x1, x2, x3] = 0) := by
        obtain rfl : k = 4 := by omega
        rw [hor.out]; rfl
      clear hc h0 h1 h2 h3
      go_wp2
      go_ret
      exact ⟨by rw [HY.out]; rfl, rfl⟩
set_option maxRecDepth 100000 in
theorem compareFibers_any (f g : Fib) (w : World) :
    Calls Tryd.prog 50 #[fibV f, fibV g] w fun e w' => e = .returned (.int .i64 (cmpFib f g)) ∧ Below w.heap.size w w' := by
  obtain ⟨fa, fb, fl, fr⟩ := f
  obtain ⟨ga, gb, gl, gr⟩ := g
  unfold fibV
  go_enter Tryd.func50, Tryd.ntmps50
  go_wp2
  refine region_tail 20 (by kernel_rfl) (by kernel_rfl) ?_
  simp only [List.take_succ_cons, List.take_zero, List.drop_succ_cons, List.drop_zero]
  repeat (first | still_step | still_call ((compare_any _ _ _).mono (fun _ _ h => ⟨h.1, h.2.symm⟩)))
  refine wpStill_nil ?_
  go_wp2_with fail
  refine (or_any (x0 := cmpB fa ga) (x1 := cmpB fb gb) (x2 := cmpB fl gl) (x3 := cmpB fr gr) _ (by go_simp) (by go_simp) (by go_simp) (by go_simp)).mono ?_
  rintro e w' ⟨rfl, rfl⟩
  go_wp2_with fail
  go_ret
  exact ⟨rfl, by repeat (first | exact Below.refl _ _ | apply Below.drew | apply bl_alloc)⟩
end Go.Proofs.YtmkgicfgcoeilaaDoor
