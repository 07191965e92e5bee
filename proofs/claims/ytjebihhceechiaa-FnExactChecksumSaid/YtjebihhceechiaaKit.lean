/- Common words of these proofs: how a slice shows a list, how a law that returns true and leaves old memory alone meets its row. No program in sight. Conditions: none. -/
import Derived.ProofKit
import Derived.WalkKit
import Derived.Deep.Slices
import Derived.Deep.Fields
import Derived.Lib.SmallJoins
namespace Go.Proofs.Ytjebihhceechiaa
open Go.ChangeShapes Go.WideShapes Go.ChangeAt Go.RowKit Go.Deep

/-! ### From a walk to the row -/
section
variable {H : Type} {enc : TypeId × Value → H} {P : Program}

theorem trodAll_below (hl : laidOutB P = true) {W W' : World} (hb : Below W.heap.size W W') :
    ∀ {ts : List TypeId} {vs : List Value} {ds : List (DataW H)} {ps : List MemPlace}, ts.all (fun t => P.readableRec t && decide (t < P.types.size)) = true →
      DataW.TrodAll enc P W 0 (fun _ => true) true ts vs ds ps → (∀ x ∈ ps, x.block < W.heap.size) → DataW.TrodAll enc P W' 0 (fun b => decide (b < W.heap.size)) true ts vs ds ps := by
  intro ts
  induction ts with
  | nil =>
    intro vs ds ps _ h _
    cases vs <;> cases ds <;> simp_all [DataW.TrodAll]
  | cons t ts ih =>
    intro vs ds ps hr h hlt
    match vs, ds, h with
    | v :: vs, d :: ds, h =>
      obtain ⟨p, q, h1, h2, rfl⟩ := h
      simp only [List.all_cons, Bool.and_eq_true, decide_eq_true_eq] at hr
      exact ⟨p, q, Below.trod hl hr.1.1 hr.1.2 h1 hb (fun x hx => hlt x (by simp [hx])), ih (by simpa using hr.2) h2 (fun x hx => hlt x (by simp [hx])), rfl⟩

theorem trodAll_len {W : World} : ∀ {ts : List TypeId} {vs : List Value} {ds : List (DataW H)} {ps : List MemPlace} {b : Nat} {sp : Nat → Bool} {hd : Bool},
    DataW.TrodAll enc P W b sp hd ts vs ds ps → ds.length = ts.length := by
  intro ts
  induction ts with
  | nil => intro vs ds ps _ _ _ h; cases vs <;> cases ds <;> simp_all [DataW.TrodAll]
  | cons t ts ih =>
    intro vs ds ps _ _ _ h
    match vs, ds, h with
    | v :: vs, d :: ds, h => obtain ⟨p, q, _, h2, _⟩ := h; simp [ih h2]

/-- What a law's row asks: the call returns true and below the heap's old size nothing has turned. -/
theorem law_contract {F : FuncId} {f : Func} {s : ChangeSpec} {tb : TypeId} (hl : laidOutB P = true) (hread : f.params.toList.all (fun t => P.readableRec t && decide (t < P.types.size)) = true)
    (hres : f.resultTypes = #[tb]) (hb : P.underlying tb = some .bool) (hv : s.vars = [])
    (hs : ∀ ds : List (DataW H), ds.length = f.params.toList.length → (s.fn H ds).results = [.lit (.bool true)] ∧ (s.fn H ds).args = ds ∧ (s.fn H ds).vars = [])
    (W : World) (args : Array Value) (ds gs : List (DataW H)) (before : List MemPlace)
    (hW : DataW.Whole enc P f.params.toList s.vars false W args.toList ds gs before)
    (walk : ∀ p, DataW.TrodAll enc P W 0 (fun _ => true) true f.params.toList args.toList ds p → Calls P F args W fun e W' => e = .returned (.bool true) ∧ Below W.heap.size W W') :
    Calls P F args W fun e W' => ∃ v, e = .returned v ∧ s.post enc P f false true false false W args v W' := by
  have hW' := hW
  obtain ⟨p, q, hA, hV, hpq, hfz, hnd⟩ := hW
  refine (walk p hA).mono fun e W' ⟨he, hbel⟩ => ⟨_, he, ?_⟩
  rw [hv] at hV
  obtain ⟨rfl, rfl⟩ : gs = [] ∧ q = [] := by cases gs <;> simp_all [DataW.TrodVars]
  have hlt := hW'.lt
  rw [hpq] at hlt
  obtain ⟨h1, h2, h3⟩ := hs ds (trodAll_len hA)
  refine ⟨ds, [], before, [], p, [], hW', ?_, ?_, ?_, hbel.frame _, fun h => by cases h⟩
  · rw [List.append_nil, h1, hres]
    exact trodAll_mk1 (shut_bool hb true)
  · rw [List.append_nil, h2]
    exact trodAll_below hl hbel hread hA (fun x hx => hlt x (by simp [hx]))
  · rw [List.append_nil, h3, hv]
    rfl
end

/-! ### Slices that show a list -/
/-- An element's type: its cells. -/
structure El (α : Type) where
  sz : Nat
  cells : α → List Value
  len : ∀ x, (cells x).length = sz
  pos : 0 < sz
  one : ∀ x, ∀ u ∈ cells x, u.oneCell' = true

def elInt : El Int := ⟨1, fun n => [.int .i64 n], fun _ => rfl, by decide, fun _ u h => by simp at h; subst h; rfl⟩
def elStr : El ByteArray := ⟨1, fun s => [.string s], fun _ => rfl, by decide, fun _ u h => by simp at h; subst h; rfl⟩
def elByte : El UInt8 := ⟨1, fun c => [.int .u8 c.toNat], fun _ => rfl, by decide, fun _ u h => by simp at h; subst h; rfl⟩

/-- The slice at A of length n shows the list xs, all of it below block B. -/
def Sees {α : Type} (E : El α) (w : World) (B : Nat) (A : Option Addr) (n : Nat) (xs : List α) : Prop :=
  xs.length = n ∧ (n = 0 ∨ ∃ b o, A = some ⟨b, o, none⟩ ∧ b < B ∧ ∀ k x, xs[k]? = some x → ∀ j u, (E.cells x)[j]? = some u → w.cell? ⟨b, o + k * E.sz + j, none⟩ = some u)

section
variable {α : Type} {E : El α} {w w' : World} {B B' : Nat} {A : Option Addr} {n : Nat} {xs : List α}
theorem Sees.len (h : Sees E w B A n xs) : xs.length = n := h.1
theorem Sees.nil (E : El α) (w : World) (B : Nat) (A : Option Addr) : Sees E w B A 0 [] := ⟨rfl, .inl rfl⟩
theorem Sees.keep (h : Sees E w B A n xs) (hk : ∀ p : Addr, p.block < B → w'.cell? p = w.cell? p) : Sees E w' B A n xs := by
  refine ⟨h.1, ?_⟩
  rcases h.2 with h0 | ⟨b, o, rfl, hb, hc⟩
  · exact .inl h0
  · exact .inr ⟨b, o, rfl, hb, fun k x hx j u hu => (hk _ hb).trans (hc k x hx j u hu)⟩
theorem Sees.more (h : Sees E w B A n xs) (hB : B ≤ B') : Sees E w B' A n xs := by
  refine ⟨h.1, ?_⟩
  rcases h.2 with h0 | ⟨b, o, rfl, hb, hc⟩
  · exact .inl h0
  · exact .inr ⟨b, o, rfl, by omega, hc⟩
theorem Sees.below (h : Sees E w B A n xs) (hb : Below B w w') : Sees E w' B A n xs := h.keep fun _ hp => hb.cell hp
/-- The address, asked for where there is an element. -/
theorem Sees.at_ {k : Nat} (h : Sees E w B A n xs) (hk : k < n) : ∃ b o, A = some ⟨b, o, none⟩ ∧ b < B ∧ ∀ k x, xs[k]? = some x → ∀ j u, (E.cells x)[j]? = some u → w.cell? ⟨b, o + k * E.sz + j, none⟩ = some u := by
  rcases h.2 with h0 | h0
  · omega
  · exact h0
theorem Sees.cell {b o : Nat} (h : Sees E w B (some ⟨b, o, none⟩) n xs) {k : Nat} {x : α} (hx : xs[k]? = some x) {j : Nat} {u : Value} (hu : (E.cells x)[j]? = some u) : w.cell? ⟨b, o + k * E.sz + j, none⟩ = some u := by
  rcases h.2 with h0 | ⟨b', o', e, _, hc⟩
  · have := h.1; rw [h0] at this; rw [List.eq_nil_of_length_eq_zero this] at hx; simp at hx
  · injection e with e; injection e with e1 e2; subst e1 e2; exact hc k x hx j u hu
theorem Sees.blt {b o : Nat} (h : Sees E w B (some ⟨b, o, none⟩) n xs) (hn : 0 < n) : b < B := by
  rcases h.2 with h0 | ⟨b', o', e, hb, _⟩
  · omega
  · injection e with e; injection e with e1 e2; subst e1; exact hb
/-- A front part. -/
theorem Sees.take (h : Sees E w B A n xs) {k : Nat} (hk : k ≤ n) : Sees E w B A k (xs.take k) := by
  refine ⟨by rw [List.length_take, h.1]; omega, ?_⟩
  rcases h.2 with h0 | ⟨b, o, rfl, hb, hc⟩
  · exact .inl (by omega)
  · refine .inr ⟨b, o, rfl, hb, fun j x hx => hc j x ?_⟩
    rw [List.getElem?_take] at hx
    split at hx
    · exact hx
    · cases hx
end
/-- A row of the call's own shows what it holds. -/
theorem flat_get {α : Type} (E : El α) (xs : List α) (k : Nat) (x : α) (hx : xs[k]? = some x) (j : Nat) (u : Value) (hu : (E.cells x)[j]? = some u) : (xs.flatMap E.cells)[k * E.sz + j]? = some u := by
  induction xs generalizing k with
  | nil => simp at hx
  | cons y ys ih =>
    rw [List.flatMap_cons]
    cases k with
    | zero =>
      simp at hx; subst hx
      have hj : j < (E.cells y).length := (List.getElem?_eq_some_iff.1 hu).1
      rw [Nat.zero_mul, Nat.zero_add, List.getElem?_append_left hj]; exact hu
    | succ k =>
      simp at hx
      rw [List.getElem?_append_right (by rw [E.len, Nat.add_mul]; omega), E.len, show (k + 1) * E.sz + j - E.sz = k * E.sz + j by rw [Nat.add_mul]; omega]
      exact ih k hx
theorem flat_len {α : Type} (E : El α) (xs : List α) : (xs.flatMap E.cells).length = xs.length * E.sz := by
  induction xs with
  | nil => simp
  | cons y ys ih => rw [List.flatMap_cons, List.length_append, E.len, ih, List.length_cons, Nat.add_mul]; omega

/-- The row v of element type e, from block base on, is the call's own and holds xs. -/
def Owns {α : Type} (E : El α) (w : World) (base : Nat) (e : TypeId) (v : Value) (xs : List α) : Prop := w.ownsRow base e E.sz v xs.length (xs.flatMap E.cells)
theorem Owns.form {α : Type} {E : El α} {w : World} {base : Nat} {e : TypeId} {v : Value} {xs : List α} (h : Owns E w base e v xs) :
    ∃ A c, v = .slice A xs.length c ∧ xs.length ≤ c ∧ c ≤ maxLen ∧ Sees E w w.heap.size A xs.length xs := by
  rcases h.2 with ⟨rfl, hn⟩ | ⟨g, cap, cur, rfl, hb, hg, hnc, hcm, hcs, ht⟩
  · have : xs = [] := List.eq_nil_of_length_eq_zero hn
    subst this
    exact ⟨none, 0, rfl, by simp, by simp, Sees.nil _ _ _ _⟩
  · refine ⟨_, cap, rfl, hnc, hcm, rfl, ?_⟩
    refine .inr ⟨g, 0, rfl, (Array.getElem?_eq_some_iff.1 hg).1, fun k x hx j u hu => ?_⟩
    have := World.ownsRow.cells h (g := g) rfl _ u (flat_get E xs k x hx j u hu)
    unfold Addr.add at this
    split at this
    · rename_i h0; rw [Nat.zero_add, h0]; exact this
    · simpa using this
end Go.Proofs.Ytjebihhceechiaa
