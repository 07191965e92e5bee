/- Lemmas and walks that the claim rests on, laid together. Conditions: none. -/
import Derived.Test.YtfepilpllfiegaaRows
import Derived.Test.YtfepilpllfiegaaZc731a5b1582e
import Derived.Test.YtfepilpllfiegaaZ76d3d4a5ee99
import Derived.Deep.Upon
import Derived.Deep.AppendLies
import Derived.Deep.RegionHeld3
import Derived.Laws.CopyOwn
import Derived.Laws.Externs
import Derived.Lib.Overlaps
import Derived.Lib.AppendZeros
import Derived.Lib.AppendZerosOnto
import Derived.Lib.SliceRun
import Derived.Deep.RegionLaw
/- heldIntSS, walked. Conditions: at most 1048576 rows and numbers in a row; the last mark below 2^40. -/
namespace Go.Proofs.Ytfepilpllfiegaa
open Go.RowKit
end Go.Proofs.Ytfepilpllfiegaa
/- A ledger of what a walk has made in memory: the blocks of each thing, and how it reads. Conditions: none. -/
namespace Go.Proofs.Ytfepilpllfiegaa
open Go.RowKit
/-- One thing in memory: its blocks; how it reads. -/
structure Thing where
  S : Nat → Prop
  is : World → Prop
  st : ∀ w w' : World, is w → w.heap.size ≤ w'.heap.size → (∀ b, S b → w'.heap[b]? = w.heap[b]?) → is w'
  lies : ∀ w, is w → ∀ b, S b → b < w.heap.size
/-- From w0 to w these things have been made, no two of which share a block; what was there at w0 is as it was. -/
structure Led (w0 w : World) (L : List Thing) : Prop where
  bl : Below w0.heap.size w0 w
  all : ∀ (i : Nat) t, L[i]? = some t → t.is w ∧ ∀ b, t.S b → w0.heap.size ≤ b
  apart : ∀ (i j : Nat) a b, i ≠ j → L[i]? = some a → L[j]? = some b → ∀ k, a.S k → ¬ b.S k
section
variable {w0 w w' : World} {L : List Thing}
theorem Led.nil (w : World) : Led w w [] := ⟨Below.refl _ _, fun i t h => by simp at h, fun i j a b _ h => by simp at h⟩
theorem Led.step (h : Led w0 w L) (hb : Below w.heap.size w w') : Led w0 w' L :=
  ⟨bl_then h.bl hb, fun i t ht => ⟨t.st w w' (h.all i t ht).1 hb.size (fun b hS => hb.block b (t.lies w (h.all i t ht).1 b hS)), (h.all i t ht).2⟩, h.apart⟩
theorem Led.put (h : Led w0 w L) (hb : Below w.heap.size w w') (t : Thing) (hS : ∀ b, t.S b → w.heap.size ≤ b) (hi : t.is w') : Led w0 w' (t :: L) := by
  have h' := h.step hb
  refine ⟨h'.bl, fun i u hu => ?_, fun i j a b hij ha hb2 k h1 h2 => ?_⟩
  · cases i with
    | zero => simp at hu; subst hu; exact ⟨hi, fun b hb3 => Nat.le_trans h.bl.size (hS b hb3)⟩
    | succ i => simp at hu; exact h'.all i u hu
  · cases i with
    | zero =>
      cases j with
      | zero => exact hij rfl
      | succ j =>
        simp at ha hb2; subst ha
        have := hS k h1
        have := b.lies w (h.all j b hb2).1 k h2
        omega
    | succ i =>
      cases j with
      | zero =>
        simp at ha hb2; subst hb2
        have := hS k h2
        have := a.lies w (h.all i a ha).1 k h1
        omega
      | succ j =>
        simp at ha hb2
        exact h.apart i j a b (by omega) ha hb2 k h1 h2
theorem Led.get (h : Led w0 w L) (i : Nat) {t : Thing} (hi : L[i]? = some t) : t.is w := (h.all i t hi).1
theorem Led.touch (h : Led w0 w L) (i : Nat) {t t' : Thing} (hi : L[i]? = some t) (hS : t'.S = t.S) (ht : Touch t.S w w') (his : t'.is w') : Led w0 w' (L.set i t') := by
  refine ⟨h.bl.trans (ht.below (B := w0.heap.size) (h.all i t hi).2 h.bl.size), fun j u hu => ?_, fun j k a b hjk ha hb x h1 h2 => ?_⟩
  · rw [List.getElem?_set] at hu
    by_cases hij : i = j
    · subst hij
      rw [if_pos rfl] at hu
      split at hu
      · injection hu with hu; subst hu; exact ⟨his, by rw [hS]; exact (h.all i t hi).2⟩
      · cases hu
    · rw [if_neg hij] at hu
      exact ⟨u.st w w' (h.all j u hu).1 ht.size (fun b hb => ht.block b (u.lies w (h.all j u hu).1 b hb) (h.apart j i u t (by omega) hu hi b hb)), (h.all j u hu).2⟩
  · have key : ∀ (j : Nat) a, (L.set i t')[j]? = some a → ∃ a', L[j]? = some a' ∧ a.S = a'.S := by
      intro j a ha
      rw [List.getElem?_set] at ha
      by_cases hij : i = j
      · subst hij
        rw [if_pos rfl] at ha
        split at ha
        · injection ha with ha; subst ha; exact ⟨t, hi, hS⟩
        · cases ha
      · rw [if_neg hij] at ha; exact ⟨a, ha, rfl⟩
    obtain ⟨a', ha', ea⟩ := key j a ha
    obtain ⟨b', hb', eb⟩ := key k b hb
    rw [ea] at h1; rw [eb] at h2
    exact h.apart j k a' b' hjk ha' hb' x h1 h2
/-- Forget the newest but n. -/
theorem Led.drop (h : Led w0 w L) (n : Nat) : Led w0 w (L.drop n) :=
  ⟨h.bl, fun i t hi => h.all (n + i) t (by rwa [List.getElem?_drop] at hi), fun i j a b hij ha hb => h.apart (n + i) (n + j) a b (by omega) (by rwa [List.getElem?_drop] at ha) (by rwa [List.getElem?_drop] at hb)⟩
theorem Owns.st {α : Type} {E : El α} {base : Nat} {e : TypeId} {v : Value} {xs : List α} (h : Owns E w base e v xs) (hk : ∀ b, v.ownBlock = some b → w'.heap[b]? = w.heap[b]?) : Owns E w' base e v xs := by
  refine ⟨h.1, ?_⟩
  rcases h.2 with h0 | ⟨g, cap, cur, hv, hg, hh, r⟩
  · exact .inl h0
  · exact .inr ⟨g, cap, cur, hv, hg, (hk g (by rw [hv]; rfl)).trans hh, r⟩
end
def tBlk (g : Nat) (e : TypeId) (cur : Array Value) : Thing := ⟨fun b => b = g, fun w => Blk w g e cur, fun _ _ h _ hb => (hb g rfl).trans h, fun _ h b e => by subst e; exact h.lt⟩
def tOwns {α : Type} (E : El α) (base : Nat) (e : TypeId) (v : Value) (xs : List α) : Thing :=
  ⟨fun b => v.ownBlock = some b, fun w => Owns E w base e v xs, fun _ _ h _ hb => h.st hb, fun _ h b e => (h.lies b e).2⟩
def tNet (base : Nat) (A : Option Addr) (n c : Nat) (A' : Option Addr) (m d : Nat) (xs : List ByteArray) (fs : List Fib) : Thing :=
  ⟨fun b => (Value.slice A n c).ownBlock = some b ∨ (Value.slice A' m d).ownBlock = some b, fun w => NetOwn w base A n c A' m d xs fs,
    fun _ _ ⟨a, b, c, d, e, f, g, i⟩ _ hb => ⟨a, b, c, d, e, f, g.st (fun b h => hb b (.inl h)), i.st (fun b h => hb b (.inr h))⟩,
    fun _ ⟨_, _, _, _, _, _, g, i⟩ b e => by rcases e with e | e; exact (g.lies b e).2; exact (i.lies b e).2⟩
def tSS (base : Nat) (v : Value) (ss : List Sl) (rows : List (List Int)) : Thing :=
  ⟨fun b => v.ownBlock = some b ∨ ∃ (i : Nat) (s : Sl), ss[i]? = some s ∧ (slV s).ownBlock = some b, fun w => OwnsSS w base v ss rows,
    fun _ _ ⟨a, b, c, d⟩ _ hb => ⟨a.st (fun b h => hb b (.inl h)), b, fun i s r h1 h2 => (c i s r h1 h2).st (fun g h => hb g (.inr ⟨i, s, h1, h⟩)), d⟩,
    fun _ ⟨a, b, c, _⟩ g e => by
      rcases e with e | ⟨i, s, h1, e⟩
      · exact (a.lies g e).2
      · obtain ⟨r, hr⟩ : ∃ r, rows[i]? = some r := ⟨rows[i]'(by rw [← b]; exact (List.getElem?_eq_some_iff.1 h1).1), List.getElem?_eq_getElem _⟩
        exact ((c i s r h1 hr).lies g e).2⟩
section
variable {w0 w w' : World} {L : List Thing}
theorem Led.blk (h : Led w0 w L) (e : TypeId) (cur : Array Value) : Led w0 (w.alloc (.cells cur e)) (tBlk w.heap.size e cur :: L) :=
  h.put (bl_alloc (Below.refl _ _) _) _ (fun b e => by cases e; exact Nat.le_refl _) (Blk.new w e cur)
theorem Led.owns {α : Type} {E : El α} {e : TypeId} {v : Value} {xs : List α} (h : Led w0 w L) (hb : Below w.heap.size w w') (ho : Owns E w' w.heap.size e v xs) : Led w0 w' (tOwns E w.heap.size e v xs :: L) :=
  h.put hb _ (fun b e => (ho.lies b e).1) ho
theorem Led.net {A A' : Option Addr} {n c m d : Nat} {xs : List ByteArray} {fs : List Fib} (h : Led w0 w L) (hb : Below w.heap.size w w') (ho : NetOwn w' w.heap.size A n c A' m d xs fs) : Led w0 w' (tNet w.heap.size A n c A' m d xs fs :: L) :=
  h.put hb _ (fun b e => by obtain ⟨_, _, _, _, _, _, g, i⟩ := ho; rcases e with e | e; exact (g.lies b e).1; exact (i.lies b e).1) ho
theorem OwnsSS.lies {base : Nat} {v : Value} {ss : List Sl} {rows : List (List Int)} (h : OwnsSS w base v ss rows) {b : Nat} (hb : v.ownBlock = some b ∨ ∃ (i : Nat) (s : Sl), ss[i]? = some s ∧ (slV s).ownBlock = some b) : base ≤ b := by
  rcases hb with e | ⟨i, s, h1, e⟩
  · exact (h.1.lies b e).1
  · obtain ⟨r, hr⟩ : ∃ r, rows[i]? = some r := ⟨rows[i]'(by rw [← h.2.1]; exact (List.getElem?_eq_some_iff.1 h1).1), List.getElem?_eq_getElem _⟩
    exact ((h.2.2.1 i s r h1 hr).lies b e).1
theorem Led.ss {v : Value} {ss : List Sl} {rows : List (List Int)} (h : Led w0 w L) (hb : Below w.heap.size w w') (ho : OwnsSS w' w.heap.size v ss rows) : Led w0 w' (tSS w.heap.size v ss rows :: L) :=
  h.put hb _ (fun _ e => ho.lies e) ho
/-- A network and a row of numbers, made by one call. -/
theorem Led.net_owns {A A' : Option Addr} {n c m d : Nat} {xs : List ByteArray} {fs : List Fib} {v : Value} {is : List Int} (h : Led w0 w L) (hb : Below w.heap.size w w') (ho : NetOwn w' w.heap.size A n c A' m d xs fs) (hi : Owns elInt w' w.heap.size 3 v is) :
    Led w0 w' (tOwns elInt w.heap.size 3 v is :: tNet w.heap.size A n c A' m d xs fs :: L) := by
  have h1 := h.net hb ho
  have h2 := h.owns hb hi
  refine ⟨h1.bl, fun i t ht => ?_, fun i j a b hij ha hb2 k k1 k2 => ?_⟩
  · cases i with
    | zero => exact h2.all 0 t ht
    | succ i => exact h1.all i t ht
  · have key : ∀ k, (tOwns elInt w.heap.size 3 v is).S k → ¬ (tNet w.heap.size A n c A' m d xs fs).S k := by
      intro k e1 e2
      obtain ⟨_, _, _, _, _, _, g, i⟩ := ho
      rcases e2 with e2 | e2
      · exact owns_ne g hi (by decide) k e1 e2
      · exact owns_ne i hi (by decide) k e1 e2
    rcases i with _ | _ | i
    · rcases j with _ | _ | j
      · exact hij rfl
      · simp at ha hb2; subst ha; subst hb2; exact key k k1 k2
      · exact h2.apart 0 (j + 1) a b (by omega) ha hb2 k k1 k2
    · rcases j with _ | _ | j
      · simp at ha hb2; subst ha; subst hb2; exact key k k2 k1
      · exact hij rfl
      · exact h1.apart 0 (j + 1) a b (by omega) ha hb2 k k1 k2
    · rcases j with _ | _ | j
      · exact h2.apart (i + 1) 0 a b (by omega) ha hb2 k k1 k2
      · exact h1.apart (i + 1) 0 a b (by omega) ha hb2 k k1 k2
      · exact h1.apart (i + 1) (j + 1) a b (by omega) ha hb2 k k1 k2
end
/-! ### Marks in words of one shape -/
theorem ss_n {w : World} {base n c : Nat} {A : Option Addr} {ss : List Sl} {rows : List (List Int)} (h : OwnsSS w base (.slice A n c) ss rows) : n = rows.length := by
  obtain ⟨A', c', hv, _⟩ := h.1.form
  injection hv with _ e2 _
  rw [e2, h.2.1]
theorem ss_rows {w : World} {base : Nat} {v : Value} {ss : List Sl} {rows : List (List Int)} (h : (tSS base v ss rows).is w) : ss.length = rows.length := (show OwnsSS w base v ss rows from h).2.1
/-! ### Looks into the ledger -/
section
variable {w0 w : World} {L : List Thing}
theorem Led.cell (h : Led w0 w L) (i j : Nat) {g : Nat} {e : TypeId} {l : List Value} {u : Value} (hi : L[i]? = some (tBlk g e l.toArray)) (hj : l[j]? = some u) : w.cell? ⟨g, j, none⟩ = some u := by
  have hb : Blk w g e l.toArray := h.get i hi
  rw [hb.cell]; simpa using hj
theorem Led.frozen (h : Led w0 w L) (i j : Nat) {g : Nat} {e : TypeId} {l : List Value} (hi : L[i]? = some (tBlk g e l.toArray)) : w.frozen? ⟨g, j, none⟩ = false := Blk.frozen (h.get i hi) j
theorem Led.seesI (h : Led w0 w L) (i : Nat) {base c : Nat} {A : Option Addr} {xs : List Int} (hi : L[i]? = some (tOwns elInt base 3 (.slice A xs.length c) xs)) : Sees elInt w w.heap.size A xs.length xs := Owns.sees (h.get i hi)
theorem Led.rt (h : Led w0 w L) (i : Nat) {base c : Nat} {A : Option Addr} {xs : List Int} (hi : L[i]? = some (tOwns elInt base 3 (.slice A xs.length c) xs)) (hk : xs.length ≤ 1048576) : RtIs w A xs.length c xs := by
  have ho : Owns elInt w base _ _ xs := h.get i hi
  obtain ⟨A', c', hv, h1, _, _⟩ := ho.form
  injection hv with _ _ e3
  exact ⟨⟨by omega, hk⟩, ho.sees⟩
theorem Led.netIs (h : Led w0 w L) (i : Nat) {base n c m d : Nat} {A A' : Option Addr} {xs : List ByteArray} {fs : List Fib} (hi : L[i]? = some (tNet base A n c A' m d xs fs)) (hn : n ≤ 1048576) (hm : m ≤ 1048576) (hx : ∀ x ∈ xs, x.size ≤ maxLen) : NetIs w A n c A' m d xs fs :=
  NetOwn.is (h.get i hi) hn hm hx
/-- A block made by the walk, under the walk's name for its address. -/
theorem Led.blk_ (h : Led w0 w L) (g : Nat) (hg : g = w.heap.size) (e : TypeId) (cur : Array Value) : Led w0 (w.alloc (.cells cur e)) (tBlk g e cur :: L) := by subst hg; exact h.blk e cur
end
end Go.Proofs.Ytfepilpllfiegaa
/- The ledger in a function's own walk: appends, stores, new rows. Conditions: at most 1099511627776 elements. -/
namespace Go.Proofs.Ytfepilpllfiegaa
open Go.RowKit
section
variable {w0 w w' : World} {L : List Thing}
/-- One thing grows: into its own blocks or into new ones. -/
theorem Led.regrow (h : Led w0 w L) (i : Nat) {t t' : Thing} (hi : L[i]? = some t) (ht : Touch t.S w w') (hS : ∀ b, t'.S b → t.S b ∨ w.heap.size ≤ b) (his : t'.is w') : Led w0 w' (L.set i t') := by
  refine ⟨h.bl.trans (ht.below (B := w0.heap.size) (h.all i t hi).2 h.bl.size), fun j u hu => ?_, fun j k a b hjk ha hb x h1 h2 => ?_⟩
  · rw [List.getElem?_set] at hu
    by_cases hij : i = j
    · subst hij
      rw [if_pos rfl] at hu
      split at hu
      · injection hu with hu; subst hu
        refine ⟨his, fun b hb => ?_⟩
        rcases hS b hb with h1 | h1
        · exact (h.all i t hi).2 b h1
        · exact Nat.le_trans h.bl.size h1
      · cases hu
    · rw [if_neg hij] at hu
      exact ⟨u.st w w' (h.all j u hu).1 ht.size (fun b hb => ht.block b (u.lies w (h.all j u hu).1 b hb) (h.apart j i u t (by omega) hu hi b hb)), (h.all j u hu).2⟩
  · have key : ∀ (j : Nat) a, (L.set i t')[j]? = some a → (j = i ∧ a = t') ∨ (j ≠ i ∧ L[j]? = some a) := by
      intro j a ha
      rw [List.getElem?_set] at ha
      by_cases hij : i = j
      · subst hij
        rw [if_pos rfl] at ha
        split at ha
        · injection ha with ha; exact .inl ⟨rfl, ha.symm⟩
        · cases ha
      · rw [if_neg hij] at ha; exact .inr ⟨fun e => hij e.symm, ha⟩
    rcases key j a ha with ⟨rfl, rfl⟩ | ⟨hji, ha'⟩
    · rcases key k b hb with ⟨rfl, rfl⟩ | ⟨hki, hb'⟩
      · exact hjk rfl
      · rcases hS x h1 with h3 | h3
        · exact h.apart j k t b hjk hi hb' x h3 h2
        · have := b.lies w (h.all k b hb').1 x h2; omega
    · rcases key k b hb with ⟨rfl, rfl⟩ | ⟨hki, hb'⟩
      · rcases hS x h2 with h3 | h3
        · exact h.apart j k a t hjk ha' hi x h1 h3
        · have := a.lies w (h.all j a ha').1 x h1; omega
      · exact h.apart j k a b hjk ha' hb' x h1 h2
/-- A store into a block of the ledger. -/
theorem Led.set (h : Led w0 w L) (i : Nat) {g : Nat} {e : TypeId} {l : List Value} (hi : L[i]? = some (tBlk g e l.toArray)) (j : Nat) (u : Value) : Led w0 (w.setCell ⟨g, j, none⟩ u) (L.set i (tBlk g e (l.set j u).toArray)) :=
  h.touch i hi rfl (Touch.set (S := fun b => b = g) w (p := ⟨g, j, none⟩) rfl u) (by
    have hb : Blk w g e l.toArray := h.get i hi
    have := hb.set j u
    have e1 : l.toArray.setIfInBounds j u = (l.set j u).toArray := by simp
    rw [e1] at this
    exact this)
/-- A row made by a call. -/
theorem Led.owns_ {α : Type} {E : El α} {e : TypeId} {v : Value} {xs : List α} {base b0 : Nat} (h : Led w0 w L) (hb : Below w.heap.size w w') (ho : Owns E w' base e v xs) (hB : w.heap.size ≤ base) (h0 : b0 ≤ base) : Led w0 w' (tOwns E b0 e v xs :: L) :=
  h.put hb (tOwns E b0 e v xs) (fun b e => Nat.le_trans hB (ho.lies b e).1) (ho.base h0)
/-- A row of no elements, in a block of its own. -/
theorem Led.empty {α : Type} (h : Led w0 w L) (E : El α) (e : TypeId) (g : Nat) (hg : g = w.heap.size) (b0 : Nat) (h0 : b0 ≤ g) : Led w0 (w.alloc (.cells #[] e)) (tOwns E b0 e (.slice (some ⟨g, 0, none⟩) 0 0) [] :: L) := by
  subst hg
  exact h.owns_ (bl_alloc (Below.refl _ _) _) (Owns.of_blk (n := 0) (cap := 0) (cur := #[]) (Blk.new w e #[]) (Nat.le_refl _) rfl (Nat.le_refl _) (by simp) (by decide) (Filled.zero _ _ _)) (Nat.le_refl _) h0
theorem filled_single {α : Type} (E : El α) (x : α) : Filled E (E.cells x).toArray [x] 1 := by
  intro j y hj hy i u hu
  obtain rfl : j = 0 := by omega
  simp at hy; subst hy
  simpa using hu
/-- A row of one element, in a block of its own. -/
theorem Led.single {α : Type} (h : Led w0 w L) (E : El α) (x : α) (e : TypeId) (g : Nat) (hg : g = w.heap.size) (b0 : Nat) (h0 : b0 ≤ g) : Led w0 (w.alloc (.cells (E.cells x).toArray e)) (tOwns E b0 e (.slice (some ⟨g, 0, none⟩) 1 1) [x] :: L) := by
  subst hg
  exact h.owns_ (bl_alloc (Below.refl _ _) _) (Owns.of_blk (n := 1) (cap := 1) (cur := (E.cells x).toArray) (Blk.new w e _) (Nat.le_refl _) rfl (Nat.le_refl _) (by simp [E.len]) (by decide) (filled_single E x)) (Nat.le_refl _) h0
/-- The nil slice. -/
theorem Led.nilS {α : Type} (h : Led w0 w L) (E : El α) (e : TypeId) (b0 : Nat) : Led w0 w (tOwns E b0 e (.slice none 0 0) [] :: L) :=
  h.put (Below.refl _ _) (tOwns E b0 e (.slice none 0 0) []) (fun b e => by cases e) (World.ownsRow_nil _ _ _ _)
theorem Led.sees {α : Type} {E : El α} (h : Led w0 w L) (i : Nat) {base c n : Nat} {e : TypeId} {A : Option Addr} {xs : List α} (hi : L[i]? = some (tOwns E base e (.slice A n c) xs)) (hn : n = xs.length) : Sees E w w.heap.size A n xs := by
  subst hn
  exact Owns.sees (show Owns E w base e (.slice A xs.length c) xs from h.get i hi)
theorem Led.form {α : Type} {E : El α} (h : Led w0 w L) (i : Nat) {base : Nat} {e : TypeId} {v : Value} {xs : List α} (hi : L[i]? = some (tOwns E base e v xs)) : ∃ A c, v = .slice A xs.length c ∧ xs.length ≤ c := by
  obtain ⟨A, c, h1, h2, _⟩ := Owns.form (show Owns E w base e v xs from h.get i hi)
  exact ⟨A, c, h1, h2⟩
theorem Led.own {α : Type} {E : El α} (h : Led w0 w L) (i : Nat) {base : Nat} {e : TypeId} {v : Value} {xs : List α} (hi : L[i]? = some (tOwns E base e v xs)) : Owns E w base e v xs := h.get i hi
end
/-- A new block shows its one element. -/
theorem sees_new {α : Type} (E : El α) (w : World) (x : α) (e : TypeId) (g : Nat) (hg : g = w.heap.size) : Sees E (w.alloc (.cells (E.cells x).toArray e)) (w.heap.size + 1) (some ⟨g, 0, none⟩) 1 [x] := by
  subst hg
  refine ⟨rfl, .inr ⟨w.heap.size, 0, rfl, Nat.lt_succ_self _, fun k y hy j u hu => ?_⟩⟩
  have hb : Blk (w.alloc (.cells (E.cells x).toArray e)) w.heap.size e (E.cells x).toArray := Blk.new _ _ _
  have hk : k = 0 := by have := (List.getElem?_eq_some_iff.1 hy).1; simp at this; omega
  subst hk
  simp at hy; subst hy
  rw [hb.cell]; simpa using hu
section
variable {P : Program}
/-- append onto a row of the call's own, of whatever is seen. -/
theorem run_append_all {α : Type} {E : El α} {w : World} {base : Nat} {e t ty : TypeId} {v : Value} {xs ys : List α} {A : Option Addr} {n c B : Nat} {i : TypeInfo} {z : Value} (ht : P.underlying t = some (.slice e)) (hi : P.info? e = some i) (hz0 : i.zero = some z) (hz1 : i.size = E.sz)
    (hzs : z.cells.size = E.sz) (ho : Owns E w base e v xs) (hy : Sees E w B A n ys) (h63 : xs.length + n ≤ 1099511627776) (hby : i.bytes ≤ 64) (hbase : base ≤ w.heap.size) :
    ∃ A' c' w', (Builtin.append_ #[t, t] ty #[v, .slice A n c]).run P w = .ok (.slice A' (xs.length + n) c') w' ∧ Owns E w' base e (.slice A' (xs.length + n) c') (xs ++ ys) ∧ w.grownBy w' v.ownBlock ∧
      ∀ g, (Value.slice A' (xs.length + n) c').ownBlock = some g → v.ownBlock = some g ∨ g = w.heap.size := by
  have hyl := hy.len
  rcases A with _ | ad
  · have hn : n = 0 := by
      rcases hy.2 with h | ⟨b, o, h, _⟩
      · exact h
      · cases h
    subst hn
    have hys : ys = [] := List.eq_nil_of_length_eq_zero hyl
    subst hys
    obtain ⟨A1, c1, rfl, hc1, _, _⟩ := ho.form
    refine ⟨A1, c1, w, ?_, by simpa using ho, ⟨rfl, rfl, rfl, Nat.le_refl _, fun _ _ _ => rfl⟩, fun g hg => .inl hg⟩
    have h1 := run_append_nothing (P := P) w t t ty e i ht hi A1 xs.length c1 hc1 (.slice none 0 c) (Src.ofNil w ht c)
    simpa using h1
  · have hcells : ∀ j u, (ys.flatMap E.cells)[j]? = some u → w.cell? (ad.add j) = some u := by
      intro j u hj
      rcases hy.2 with h | ⟨b, o, h, _, hc⟩
      · subst h
        rw [List.eq_nil_of_length_eq_zero hyl] at hj; simp at hj
      · injection h with h; subst h
        have hpos := E.pos
        have hjl : j < ys.length * E.sz := by rw [← flat_len]; exact (List.getElem?_eq_some_iff.1 hj).1
        have hk : j / E.sz < ys.length := (Nat.div_lt_iff_lt_mul hpos).2 hjl
        obtain ⟨y, hyk⟩ : ∃ y, ys[j / E.sz]? = some y := ⟨ys[j / E.sz], List.getElem?_eq_getElem hk⟩
        have hm : j % E.sz < (E.cells y).length := by rw [E.len]; exact Nat.mod_lt _ hpos
        have h1 := hc (j / E.sz) y hyk (j % E.sz) _ (List.getElem?_eq_getElem hm)
        have h2 := flat_get E ys (j / E.sz) y hyk (j % E.sz) _ (List.getElem?_eq_getElem hm)
        have e1 : j / E.sz * E.sz + j % E.sz = j := by rw [Nat.mul_comm]; exact Nat.div_add_mod j E.sz
        rw [e1] at h2
        rw [hj] at h2
        injection h2 with h2
        rw [← h2] at h1
        have e2 : o + j / E.sz * E.sz + j % E.sz = o + j := by omega
        rw [e2] at h1
        rw [← h1]
        unfold Addr.add
        split
        · rename_i h0; rw [h0, Nat.add_zero]
        · rfl
    have h1c : ∀ u ∈ ys.flatMap E.cells, u.oneCell' = true := fun u hu => by
      obtain ⟨y, _, h2⟩ := List.mem_flatMap.1 hu
      exact E.one y u h2
    obtain ⟨v', w', hr, h2, h3, _, h5⟩ := run_append_own_at (P := P) w base t ty e i z E.sz i.bytes ht hi hz0 hz1 rfl hzs E.pos v xs.length (xs.flatMap E.cells) ho ad n c (ys.flatMap E.cells) (by rw [flat_len, hyl]) hcells h1c (by unfold maxLen; omega)
      (by have : (xs.length + n) * i.bytes ≤ 1099511627776 * 64 := Nat.mul_le_mul h63 hby; omega) hbase
    have ho' : Owns E w' base e v' (xs ++ ys) := by
      unfold Owns
      rw [List.length_append, hyl, List.flatMap_append]
      exact h2
    obtain ⟨A', c', hv, _⟩ := ho'.form
    rw [List.length_append, hyl] at hv
    subst hv
    refine ⟨A', c', w', hr, ho', h3, fun g hg => ?_⟩
    rcases h5 with h5 | h5
    · exact .inl (by rw [← h5]; exact hg)
    · exact .inr (by rw [h5] at hg; injection hg with hg; exact hg.symm)
variable {w0 w : World} {L : List Thing} {ops : Array Oper} {rest : List Oper} {o : Oper} {a : Act} {Q : Exit → Act → World → Prop}
theorem wp_append_led {α : Type} {E : El α} {K : Act → World → Prop} (s x : Operand) (t : TypeId) (ho : o.op = .call { callee := .builtin .append, args := #[s, x], argTypes := #[t, t] }) (hS : Led w0 w L) (j : Nat) {base : Nat} {e : TypeId} {v : Value} {xs ys : List α}
    (hj : L[j]? = some (tOwns E base e v xs)) {A : Option Addr} {n c B : Nat} {i : TypeInfo} {z : Value} (ht : P.underlying t = some (.slice e)) (hi : P.info? e = some i) (hz0 : i.zero = some z) (hz1 : i.size = E.sz) (hby : i.bytes ≤ 64) (hzs : z.cells.size = E.sz)
    (hs : a.eval s = v) (hx : a.eval x = .slice A n c) (hy : Sees E w B A n ys) (h63 : xs.length + n ≤ 1099511627776) (hbase : base ≤ w.heap.size)
    (h : ∀ A' c' w', Led w0 w' (L.set j (tOwns E base e (.slice A' (xs.length + n) c') (xs ++ ys))) → K (a.put o.dst (.slice A' (xs.length + n) c')) w') : o.wp P a w K Q := by
  obtain ⟨A', c', w', hr, h2, h3, h4⟩ := run_append_all (P := P) (ty := o.type) (c := c) ht hi hz0 hz1 hzs (hS.own j hj) hy h63 hby hbase
  unfold Oper.wp execOp
  simp only [ho, resolve, invoke, builtin, Sem.run_bind, Sem.run_pure, Result.andThen_ok, List.map_toArray, List.map_cons, List.map_nil, hs, hx, hr]
  refine h A' c' w' (hS.regrow j hj ⟨h3.os, h3.tape, h3.output, h3.size, fun k hk hn => h3.block k hk (fun e => hn e.symm)⟩ (fun b hb => ?_) h2)
  rcases h4 b hb with h5 | h5
  · exact .inl h5
  · exact .inr (by omega)
theorem wpList_append_led {α : Type} {E : El α} (hgd : o.guard = none) (s x : Operand) (t : TypeId) (ho : o.op = .call { callee := .builtin .append, args := #[s, x], argTypes := #[t, t] }) (hS : Led w0 w L) (j : Nat) {base : Nat} {e : TypeId} {v : Value} {xs ys : List α}
    (hj : L[j]? = some (tOwns E base e v xs)) {A : Option Addr} {n c B : Nat} {i : TypeInfo} {z : Value} (ht : P.underlying t = some (.slice e)) (hi : P.info? e = some i) (hz0 : i.zero = some z) (hz1 : i.size = E.sz) (hby : i.bytes ≤ 64) (hzs : z.cells.size = E.sz)
    (hs : a.eval s = v) (hx : a.eval x = .slice A n c) (hy : Sees E w B A n ys) (h63 : xs.length + n ≤ 1099511627776) (hbase : base ≤ w.heap.size)
    (h : ∀ A' c' w', Led w0 w' (L.set j (tOwns E base e (.slice A' (xs.length + n) c') (xs ++ ys))) → wpList P ops Q rest (a.put o.dst (.slice A' (xs.length + n) c')) w') : wpList P ops Q (o :: rest) a w :=
  wpList_plain hgd fun _ hK => wp_append_led s x t ho hS j hj ht hi hz0 hz1 hby hzs hs hx hy h63 hbase fun A' c' w' h2 => hK _ _ (h A' c' w' h2)
theorem step_append_led {α : Type} {E : El α} {K : Act → World → Prop} {F : Prop} (hgd : o.guard = none) (s x : Operand) (t : TypeId) (ho : o.op = .call { callee := .builtin .append, args := #[s, x], argTypes := #[t, t] }) (hS : Led w0 w L) (j : Nat) {base : Nat} {e : TypeId} {v : Value} {xs ys : List α}
    (hj : L[j]? = some (tOwns E base e v xs)) {A : Option Addr} {n c B : Nat} {i : TypeInfo} {z : Value} (ht : P.underlying t = some (.slice e)) (hi : P.info? e = some i) (hz0 : i.zero = some z) (hz1 : i.size = E.sz) (hby : i.bytes ≤ 64) (hzs : z.cells.size = E.sz)
    (hs : a.eval s = v) (hx : a.eval x = .slice A n c) (hy : Sees E w B A n ys) (h63 : xs.length + n ≤ 1099511627776) (hbase : base ≤ w.heap.size)
    (h : ∀ A' c' w', Led w0 w' (L.set j (tOwns E base e (.slice A' (xs.length + n) c') (xs ++ ys))) → K (a.put o.dst (.slice A' (xs.length + n) c')) w') : if Region.wanted o (yielded ops a.tmps) = true then Oper.wp P o a w K Q else F := by
  have hw : Region.wanted o (yielded ops a.tmps) = true := by simp [Region.wanted, hgd]
  rw [if_pos hw]
  exact wp_append_led s x t ho hS j hj ht hi hz0 hz1 hby hzs hs hx hy h63 hbase h
end
end Go.Proofs.Ytfepilpllfiegaa
/- Components by labels that are joined along fibers: as many rounds as there are nodes suffice. Plain Lean. Conditions: the fibers' ends are nodes. -/
namespace Go.Proofs.Ytfepilpllfiegaa
def valL (L : List Int) (v : Nat) : Int := L.getD v 0
def fibD (fs : List Fib) (i : Nat) : Fib := fs.getD i ⟨0, 0, 0, 0⟩
/-- A fiber joins the labels of its ends. -/
def joinF (f : Fib) (L : List Int) : List Int := (L.set f.a.toNat (min (valL L f.a.toNat) (valL L f.b.toNat))).set f.b.toNat (min (valL L f.a.toNat) (valL L f.b.toNat))
/-- .. each of the first i fibers that is not gone. -/
def passTo (q : Nat → Bool) (fs : List Fib) (L : List Int) : Nat → List Int
  | 0 => L
  | i + 1 => if q i then passTo q fs L i else joinF (fibD fs i) (passTo q fs L i)
def passL (q : Nat → Bool) (fs : List Fib) (L : List Int) : List Int := passTo q fs L fs.length
/-- k rounds. -/
def rndL (q : Nat → Bool) (fs : List Fib) (n : Nat) : Nat → List Int
  | 0 => marks 0 n
  | k + 1 => passL q fs (rndL q fs n k)
/-- The labels: the smallest node of each component. -/
def compL (q : Nat → Bool) (fs : List Fib) (n : Nat) : List Int := rndL q fs n n
/-- The fibers' ends are nodes. -/
def endsB (n : Nat) (fs : List Fib) : Prop := ∀ i, i < fs.length → 0 ≤ (fibD fs i).a ∧ (fibD fs i).a < (fibD fs i).b ∧ (fibD fs i).b < n
theorem valL_set {L : List Int} {a v : Nat} {x : Int} (ha : a < L.length) : valL (L.set a x) v = if v = a then x else valL L v := by
  unfold valL
  by_cases h : v = a
  · subst h; rw [if_pos rfl]; simp [ha]
  · rw [if_neg h]; simp [show ¬ a = v from fun e => h e.symm]
theorem valL_get {L : List Int} {v : Nat} (h : v < L.length) : L[v]? = some (valL L v) := by unfold valL; simp [h]
theorem passTo_succ (q : Nat → Bool) (fs : List Fib) (L : List Int) (i : Nat) : passTo q fs L (i + 1) = if q i then passTo q fs L i else joinF (fibD fs i) (passTo q fs L i) := rfl
theorem passTo_no {q : Nat → Bool} {fs : List Fib} {L : List Int} {i : Nat} (h : q i = false) : passTo q fs L (i + 1) = joinF (fibD fs i) (passTo q fs L i) := by rw [passTo_succ, h]; rfl
theorem rndL_succ (q : Nat → Bool) (fs : List Fib) (n k : Nat) : rndL q fs n (k + 1) = passL q fs (rndL q fs n k) := rfl
theorem joinF_len (f : Fib) (L : List Int) : (joinF f L).length = L.length := by simp [joinF]
theorem joinF_val {f : Fib} {L : List Int} {n : Nat} (hL : L.length = n) (h0 : 0 ≤ f.a) (h1 : f.a < f.b) (h2 : f.b < n) (v : Nat) :
    valL (joinF f L) v = if v = f.a.toNat ∨ v = f.b.toNat then min (valL L f.a.toNat) (valL L f.b.toNat) else valL L v := by
  unfold joinF
  rw [valL_set (by simp; omega), valL_set (by omega)]
  by_cases e1 : v = f.b.toNat
  · rw [if_pos e1, if_pos (.inr e1)]
  · rw [if_neg e1]
    by_cases e2 : v = f.a.toNat
    · rw [if_pos e2, if_pos (.inl e2)]
    · rw [if_neg e2, if_neg (by rintro (h | h); exact e2 h; exact e1 h)]
theorem joinF_same {f : Fib} {L : List Int} {n : Nat} (hL : L.length = n) (h0 : 0 ≤ f.a) (h1 : f.a < f.b) (h2 : f.b < n) (he : valL L f.a.toNat = valL L f.b.toNat) : joinF f L = L := by
  unfold joinF
  rw [he, show min (valL L f.b.toNat) (valL L f.b.toNat) = valL L f.b.toNat by omega]
  have ha : L[f.a.toNat]? = some (valL L f.b.toNat) := by rw [← he]; exact valL_get (by omega)
  have hb : L[f.b.toNat]? = some (valL L f.b.toNat) := valL_get (by omega)
  have e1 : L.set f.a.toNat (valL L f.b.toNat) = L := by
    apply List.ext_getElem?
    intro i
    rw [List.getElem?_set]
    by_cases h : f.a.toNat = i
    · rw [if_pos h, if_pos (by omega), ← h, ha]
    · rw [if_neg h]
  rw [e1]
  apply List.ext_getElem?
  intro i
  rw [List.getElem?_set]
  by_cases h : f.b.toNat = i
  · rw [if_pos h, if_pos (by omega), ← h, hb]
  · rw [if_neg h]
section
variable {q : Nat → Bool} {fs : List Fib} {n : Nat}
theorem passTo_len (L : List Int) (i : Nat) : (passTo q fs L i).length = L.length := by
  induction i with
  | zero => rfl
  | succ i ih => rw [passTo_succ]; split; exact ih; rw [joinF_len]; exact ih
theorem rndL_len (k : Nat) : (rndL q fs n k).length = n := by
  induction k with
  | zero => exact marks_len 0 n
  | succ k ih => rw [rndL_succ]; unfold passL; rw [passTo_len]; exact ih
theorem compL_len : (compL q fs n).length = n := rndL_len n
theorem passTo_step {L : List Int} (hL : L.length = n) (he : endsB n fs) {i : Nat} (hi : i < fs.length) (v : Nat) : valL (passTo q fs L (i + 1)) v ≤ valL (passTo q fs L i) v := by
  rw [passTo_succ]
  split
  · exact Int.le_refl _
  · obtain ⟨h0, h1, h2⟩ := he i hi
    rw [joinF_val (n := n) (by rw [passTo_len, hL]) h0 h1 h2]
    split
    · rename_i h; rcases h with h | h <;> subst h <;> omega
    · exact Int.le_refl _
theorem passTo_mono {L : List Int} (hL : L.length = n) (he : endsB n fs) {i j : Nat} (hij : i ≤ j) (hj : j ≤ fs.length) (v : Nat) : valL (passTo q fs L j) v ≤ valL (passTo q fs L i) v := by
  induction j with
  | zero => rw [show i = 0 by omega]; exact Int.le_refl _
  | succ j ih =>
    rcases Nat.lt_or_ge i (j + 1) with h | h
    · exact Int.le_trans (passTo_step hL he (by omega) v) (ih (by omega) (by omega))
    · rw [show i = j + 1 by omega]; exact Int.le_refl _
theorem passL_le {L : List Int} (hL : L.length = n) (he : endsB n fs) (v : Nat) : valL (passL q fs L) v ≤ valL L v := passTo_mono hL he (Nat.zero_le _) (Nat.le_refl _) v
theorem passL_edge {L : List Int} (hL : L.length = n) (he : endsB n fs) {i : Nat} (hi : i < fs.length) (hq : q i = false) :
    valL (passL q fs L) (fibD fs i).a.toNat ≤ valL L (fibD fs i).b.toNat ∧ valL (passL q fs L) (fibD fs i).b.toNat ≤ valL L (fibD fs i).a.toNat := by
  obtain ⟨h0, h1, h2⟩ := he i hi
  have k1 := fun v => passTo_mono (q := q) hL he (show i + 1 ≤ fs.length from hi) (Nat.le_refl _) v
  have k2 := fun v => passTo_mono (q := q) hL he (Nat.zero_le i) (Nat.le_of_lt hi) v
  have e : ∀ v, valL (passTo q fs L (i + 1)) v = if v = (fibD fs i).a.toNat ∨ v = (fibD fs i).b.toNat then min (valL (passTo q fs L i) (fibD fs i).a.toNat) (valL (passTo q fs L i) (fibD fs i).b.toNat) else valL (passTo q fs L i) v := fun v => by
    rw [passTo_no hq]; exact joinF_val (n := n) (by rw [passTo_len, hL]) h0 h1 h2 v
  have ka := k1 (fibD fs i).a.toNat
  have kb := k1 (fibD fs i).b.toNat
  rw [e, if_pos (.inl rfl)] at ka
  rw [e, if_pos (.inr rfl)] at kb
  have la := k2 (fibD fs i).a.toNat
  have lb := k2 (fibD fs i).b.toNat
  unfold passL
  have e0 : passTo q fs L 0 = L := rfl
  rw [e0] at la lb
  omega
/-- No fiber leads out of the nodes whose label is c at most. -/
def shutL (q : Nat → Bool) (fs : List Fib) (L : List Int) (c : Int) : Prop := ∀ i, i < fs.length → q i = false → (valL L (fibD fs i).a.toNat ≤ c ↔ valL L (fibD fs i).b.toNat ≤ c)
theorem passL_shut {L : List Int} (hL : L.length = n) (he : endsB n fs) {c : Int} (hc : shutL q fs L c) (v : Nat) : valL (passL q fs L) v ≤ c ↔ valL L v ≤ c := by
  suffices h : ∀ i, i ≤ fs.length → ∀ v, (valL (passTo q fs L i) v ≤ c ↔ valL L v ≤ c) from h _ (Nat.le_refl _) v
  intro i
  induction i with
  | zero => intro _ v; exact Iff.rfl
  | succ i ih =>
    intro hi v
    have ih := ih (by omega)
    rw [passTo_succ]
    cases hq : q i
    · obtain ⟨h0, h1, h2⟩ := he i (by omega)
      have hs := hc i (by omega) hq
      simp only [Bool.false_eq_true, if_false]
      rw [joinF_val (n := n) (by rw [passTo_len, hL]) h0 h1 h2]
      have ia := ih (fibD fs i).a.toNat
      have ib := ih (fibD fs i).b.toNat
      split
      · rename_i h
        rcases h with h | h <;> subst h <;> omega
      · exact ih v
    · simp only [if_true]; exact ih v
/-- How many nodes have a label of c at most. -/
def cntL (n : Nat) (L : List Int) (c : Int) : Nat := (List.range n).countP fun v => decide (valL L v ≤ c)
theorem countP_lt {α : Type} {p r : α → Bool} : ∀ {l : List α}, (∀ x ∈ l, p x = true → r x = true) → (∃ x ∈ l, p x = false ∧ r x = true) → l.countP p < l.countP r := by
  intro l
  induction l with
  | nil => rintro _ ⟨x, hx, _⟩; cases hx
  | cons y l ih =>
    intro h1 h2
    have hle : l.countP p ≤ l.countP r := List.countP_mono_left (fun x hx h => h1 x (by simp [hx]) h)
    rw [List.countP_cons, List.countP_cons]
    obtain ⟨x, hx, hp, hr⟩ := h2
    rcases List.mem_cons.1 hx with rfl | hx
    · rw [hp, hr]; simp; omega
    · have := ih (fun z hz => h1 z (by simp [hz])) ⟨x, hx, hp, hr⟩
      have hy := h1 y (by simp)
      cases h3 : p y
      · simp; omega
      · rw [hy h3]; simp; omega
theorem shut_or (he : endsB n fs) (c : Int) (k : Nat) : shutL q fs (rndL q fs n k) c ∨ k + 1 ≤ cntL n (rndL q fs n k) c := by
  induction k with
  | zero =>
    by_cases h : 1 ≤ cntL n (rndL q fs n 0) c
    · exact .inr h
    · left
      have h0 : cntL n (rndL q fs n 0) c = 0 := by omega
      have hn : ∀ v, v < n → ¬ (valL (rndL q fs n 0) v ≤ c) := by
        intro v hv
        have := List.countP_eq_zero.1 h0 v (by simpa using hv)
        simpa using this
      intro i hi _
      obtain ⟨h0, h1, h2⟩ := he i hi
      exact ⟨fun h => absurd h (hn _ (by omega)), fun h => absurd h (hn _ (by omega))⟩
  | succ k ih =>
    have hL : (rndL q fs n k).length = n := rndL_len k
    rcases Classical.em (shutL q fs (rndL q fs n k) c) with hs | hs
    · left
      intro i hi hq
      show valL (passL q fs (rndL q fs n k)) _ ≤ c ↔ valL (passL q fs (rndL q fs n k)) _ ≤ c
      rw [passL_shut hL he hs, passL_shut hL he hs]
      exact hs i hi hq
    · right
      have hk : k + 1 ≤ cntL n (rndL q fs n k) c := by
        rcases ih with h | h
        · exact absurd h hs
        · exact h
      unfold shutL at hs
      have ⟨i, hi, hq, hne⟩ : ∃ i, i < fs.length ∧ q i = false ∧ ¬ (valL (rndL q fs n k) (fibD fs i).a.toNat ≤ c ↔ valL (rndL q fs n k) (fibD fs i).b.toNat ≤ c) := by
        apply Classical.byContradiction
        intro hno
        exact hs fun i hi hq => Classical.byContradiction fun h => hno ⟨i, hi, hq, h⟩
      obtain ⟨h0, h1, h2⟩ := he i hi
      obtain ⟨ea, eb⟩ := passL_edge (q := q) hL he hi hq
      have hlt : cntL n (rndL q fs n k) c < cntL n (rndL q fs n (k + 1)) c := by
        refine countP_lt (fun v _ hv => ?_) ?_
        · have := passL_le (q := q) hL he v
          simp only [decide_eq_true_eq] at hv ⊢
          exact Int.le_trans this hv
        · by_cases hA : valL (rndL q fs n k) (fibD fs i).a.toNat ≤ c
          · have hB : ¬ valL (rndL q fs n k) (fibD fs i).b.toNat ≤ c := fun h => hne ⟨fun _ => h, fun _ => hA⟩
            refine ⟨(fibD fs i).b.toNat, by simp; omega, by simpa using hB, ?_⟩
            simp only [decide_eq_true_eq]
            exact Int.le_trans eb hA
          · have hB : valL (rndL q fs n k) (fibD fs i).b.toNat ≤ c := by
              apply Classical.byContradiction
              intro h
              exact hne ⟨fun x => absurd x hA, fun x => absurd x h⟩
            refine ⟨(fibD fs i).a.toNat, by simp; omega, by simpa using hA, ?_⟩
            simp only [decide_eq_true_eq]
            exact Int.le_trans ea hB
      omega
theorem shut_all (he : endsB n fs) (c : Int) : shutL q fs (compL q fs n) c := by
  rcases shut_or (q := q) he c n with h | h
  · exact h
  · have : cntL n (rndL q fs n n) c ≤ n := by unfold cntL; exact Nat.le_trans List.countP_le_length (by simp)
    omega
theorem valL_ext {L M : List Int} (hl : L.length = M.length) (h : ∀ v, valL L v = valL M v) : L = M := by
  apply List.ext_getElem?
  intro i
  rcases Nat.lt_or_ge i L.length with hi | hi
  · have := h i
    unfold valL at this
    rw [List.getD_eq_getElem?_getD, List.getD_eq_getElem?_getD, List.getElem?_eq_getElem hi, List.getElem?_eq_getElem (by omega : i < M.length)] at this
    rw [List.getElem?_eq_getElem hi, List.getElem?_eq_getElem (by omega : i < M.length)]
    simpa using this
  · rw [List.getElem?_eq_none hi, List.getElem?_eq_none (by omega)]
/-- A further round turns nothing. -/
theorem compL_fix (he : endsB n fs) : passL q fs (compL q fs n) = compL q fs n := by
  have hL : (compL q fs n).length = n := compL_len
  refine valL_ext (by unfold passL; rw [passTo_len]) (fun v => ?_)
  have h1 := (passL_shut hL he (shut_all (q := q) he (valL (passL q fs (compL q fs n)) v)) v).1 (Int.le_refl _)
  have h2 := passL_le (q := q) hL he v
  omega
/-- The ends of a fiber that is not gone have one label. -/
theorem compL_edge (he : endsB n fs) {i : Nat} (hi : i < fs.length) (hq : q i = false) : valL (compL q fs n) (fibD fs i).a.toNat = valL (compL q fs n) (fibD fs i).b.toNat := by
  have h1 := (shut_all (q := q) he (valL (compL q fs n) (fibD fs i).a.toNat) i hi hq).1 (Int.le_refl _)
  have h2 := (shut_all (q := q) he (valL (compL q fs n) (fibD fs i).b.toNat) i hi hq).2 (Int.le_refl _)
  omega
theorem rndL_stay {k : Nat} (h : rndL q fs n (k + 1) = rndL q fs n k) : ∀ j, k ≤ j → rndL q fs n j = rndL q fs n k := by
  intro j
  induction j with
  | zero => intro hk; rw [show k = 0 by omega]
  | succ j ih =>
    intro hk
    rcases Nat.lt_or_ge j k with h1 | h1
    · rw [show k = j + 1 by omega]
    · have := ih h1
      show passL q fs (rndL q fs n j) = _
      rw [this]; exact h
/-- Where a round turns nothing the labels are found. -/
theorem rndL_done (he : endsB n fs) {k : Nat} (h : rndL q fs n (k + 1) = rndL q fs n k) : rndL q fs n k = compL q fs n := by
  rcases Nat.le_total k n with h1 | h1
  · exact (rndL_stay h n h1).symm
  · exact rndL_stay (compL_fix he) k h1
theorem rndL_late (he : endsB n fs) {k : Nat} (h : n ≤ k) : rndL q fs n (k + 1) = rndL q fs n k := by
  rw [rndL_stay (compL_fix (q := q) he) k h, rndL_stay (compL_fix (q := q) he) (k + 1) (by omega)]
/-- Has one of the first i fibers turned a label? -/
def chgB (q : Nat → Bool) (fs : List Fib) (L : List Int) : Nat → Bool
  | 0 => false
  | i + 1 => chgB q fs L i || (!q i && !(valL (passTo q fs L i) (fibD fs i).a.toNat == valL (passTo q fs L i) (fibD fs i).b.toNat))
theorem chgB_no {L : List Int} (hL : L.length = n) (he : endsB n fs) {i : Nat} (hi : i ≤ fs.length) (h : chgB q fs L i = false) : passTo q fs L i = L := by
  induction i with
  | zero => rfl
  | succ i ih =>
    unfold chgB at h
    rw [Bool.or_eq_false_iff] at h
    have ih := ih (by omega) h.1
    rw [passTo_succ]
    cases hq : q i
    · simp only [Bool.false_eq_true, if_false]
      obtain ⟨h0, h1, h2⟩ := he i (by omega)
      rw [joinF_same (n := n) (by rw [passTo_len, hL]) h0 h1 h2 (by have := h.2; rw [hq] at this; simpa using this)]
      exact ih
    · simp only [if_true]; exact ih
theorem chgB_yes {L : List Int} (hL : L.length = n) (he : endsB n fs) {i : Nat} (hi : i ≤ fs.length) (h : chgB q fs L i = true) : passL q fs L ≠ L := by
  have ⟨j, hj, hq, hne⟩ : ∃ j, j < fs.length ∧ q j = false ∧ valL (passTo q fs L j) (fibD fs j).a.toNat ≠ valL (passTo q fs L j) (fibD fs j).b.toNat := by
    induction i with
    | zero => cases h
    | succ i ih =>
      unfold chgB at h
      rcases Bool.or_eq_true_iff.1 h with h | h
      · exact ih (by omega) h
      · exact ⟨i, by omega, by simpa using (Bool.and_eq_true_iff.1 h).1, by simpa using (Bool.and_eq_true_iff.1 h).2⟩
  obtain ⟨h0, h1, h2⟩ := he j hj
  have e : ∀ v, valL (passTo q fs L (j + 1)) v = if v = (fibD fs j).a.toNat ∨ v = (fibD fs j).b.toNat then min (valL (passTo q fs L j) (fibD fs j).a.toNat) (valL (passTo q fs L j) (fibD fs j).b.toNat) else valL (passTo q fs L j) v := fun v => by
    rw [passTo_no hq]; exact joinF_val (n := n) (by rw [passTo_len, hL]) h0 h1 h2 v
  intro hEq
  have k1 := fun v => passTo_mono (q := q) hL he (show j + 1 ≤ fs.length from hj) (Nat.le_refl _) v
  have k2 := fun v => passTo_mono (q := q) hL he (Nat.zero_le j) (Nat.le_of_lt hj) v
  have e0 : passTo q fs L 0 = L := rfl
  have em : passTo q fs L fs.length = L := hEq
  have a1 := k1 (fibD fs j).a.toNat
  have b1 := k1 (fibD fs j).b.toNat
  have a2 := k2 (fibD fs j).a.toNat
  have b2 := k2 (fibD fs j).b.toNat
  rw [e, if_pos (.inl rfl), em] at a1
  rw [e, if_pos (.inr rfl), em] at b1
  rw [e0] at a2 b2
  omega
end
end Go.Proofs.Ytfepilpllfiegaa
/- Stores into a row of numbers of the ledger. Conditions: none. -/
namespace Go.Proofs.Ytfepilpllfiegaa
open Go.RowKit
section
variable {w0 w w' : World} {L : List Thing}
/-- A row of one element at least lies at a block's head. -/
theorem Led.row {α : Type} {E : El α} (h : Led w0 w L) (i : Nat) {base : Nat} {e : TypeId} {v : Value} {xs : List α} (hi : L[i]? = some (tOwns E base e v xs)) (hne : 0 < xs.length) : ∃ g c, v = .slice (some ⟨g, 0, none⟩) xs.length c := by
  rcases Owns.cases (h.own i hi) with ⟨_, h0⟩ | ⟨g, c, cur, hv, _⟩
  · rw [h0] at hne; simp at hne
  · exact ⟨g, c, hv⟩
theorem Led.row_ {α : Type} {E : El α} (h : Led w0 w L) (i : Nat) {base n : Nat} {e : TypeId} {v : Value} {xs : List α} (hi : L[i]? = some (tOwns E base e v xs)) (hn : xs.length = n) (hne : 0 < n) : ∃ g c, v = .slice (some ⟨g, 0, none⟩) n c := by
  subst hn; exact h.row i hi hne
theorem Led.int_at (h : Led w0 w L) (i : Nat) {base g c n : Nat} {xs : List Int} (hi : L[i]? = some (tOwns elInt base 3 (.slice (some ⟨g, 0, none⟩) n c) xs)) {j : Nat} (hj : j < xs.length) : w.cell? ⟨g, j, none⟩ = some (.int .i64 (valL xs j)) := by
  rcases Owns.cases (h.own i hi) with ⟨h0, _⟩ | ⟨g1, c1, cur, hv, _, hb, _, _, _, hf⟩
  · cases h0
  · injection hv with h1 h2 h3
    injection h1 with h1
    injection h1 with h1
    subst h1
    have := hf j _ hj (valL_get hj) 0 _ rfl
    rw [hb.cell]
    simpa [elInt] using this
theorem Led.int_free (h : Led w0 w L) (i : Nat) {base g c n : Nat} {xs : List Int} (hi : L[i]? = some (tOwns elInt base 3 (.slice (some ⟨g, 0, none⟩) n c) xs)) (j : Nat) : w.frozen? ⟨g, j, none⟩ = false := by
  rcases Owns.cases (h.own i hi) with ⟨h0, _⟩ | ⟨g1, c1, cur, hv, _, hb, _, _, _, hf⟩
  · cases h0
  · injection hv with h1 h2 h3
    injection h1 with h1
    injection h1 with h1
    subst h1
    exact hb.frozen j
/-- One number is stored. -/
theorem Led.int_set (h : Led w0 w L) (i : Nat) {base g c n : Nat} {xs : List Int} (hi : L[i]? = some (tOwns elInt base 3 (.slice (some ⟨g, 0, none⟩) n c) xs)) {j : Nat} (hj : j < xs.length) (x : Int) :
    Led w0 (w.setCell ⟨g, j, none⟩ (.int .i64 x)) (L.set i (tOwns elInt base 3 (.slice (some ⟨g, 0, none⟩) n c) (xs.set j x))) := by
  have ho := h.own i hi
  rcases Owns.cases ho with ⟨h0, _⟩ | ⟨g1, c1, cur, hv, hbase, hb, hnc, hcm, hs, hf⟩
  · cases h0
  · injection hv with h1 h2 h3
    injection h1 with h1
    injection h1 with h1
    subst h1
    subst h3
    refine h.touch i hi rfl (Touch.set (S := fun b => (Value.slice (some ⟨g, 0, none⟩) n c).ownBlock = some b) w (p := ⟨g, j, none⟩) rfl _) ?_
    show Owns elInt _ base 3 (.slice (some ⟨g, 0, none⟩) n c) (xs.set j x)
    rw [h2]
    refine Owns.of_blk (hb.set j _) hbase (by simp) hnc (by simp [hs]) hcm (fun k y hk hy i u hu => ?_)
    have hu' : [Value.int .i64 y][i]? = some u := hu
    match i, hu' with
    | 0, hu' =>
      simp at hu'; subst hu'
      have e : k * elInt.sz + 0 = k := by show k * 1 + 0 = k; omega
      rw [e]
      rw [List.getElem?_set] at hy
      by_cases hjk : j = k
      · subst hjk
        rw [if_pos rfl, if_pos hj] at hy
        injection hy with hy; subst hy
        have hlt : j < cur.size := by rw [hs]; show j < c * 1; omega
        rw [Array.getElem?_setIfInBounds_self_of_lt hlt]
      · rw [if_neg hjk] at hy
        rw [Array.getElem?_setIfInBounds_ne hjk]
        have := hf k y hk hy 0 _ rfl
        rw [e] at this
        exact this
    | i + 1, hu' => simp at hu'
end
theorem marks_succ (k : Int) (n : Nat) : marks k (n + 1) = marks k n ++ [k + (n : Int)] := by simp [marks, List.range_succ]
end Go.Proofs.Ytfepilpllfiegaa
/- Things of a ledger, picked and put into another order. Conditions: none. -/
namespace Go.Proofs.Ytfepilpllfiegaa
open Go.RowKit
/-- A proposition kept apart (no assumption is taken for it). -/
structure Kept (P : Prop) : Prop where
  out : P
theorem share {P G : Prop} (k : Kept P → G) (h : P) : G := k ⟨h⟩
theorem Led.pick {w0 w : World} {L : List Thing} (h : Led w0 w L) (is : List Nat) (hn : is.Nodup) (he : is.all (fun i => decide (i < L.length)) = true) : Led w0 w (is.filterMap fun i => L[i]?) := by
  have hm : is.map (fun i => L[i]?) = (is.filterMap fun i => L[i]?).map some := by
    clear hn
    induction is with
    | nil => rfl
    | cons x is ih =>
      rw [List.all_cons, Bool.and_eq_true, decide_eq_true_eq] at he
      rw [List.map_cons, List.filterMap_cons, List.getElem?_eq_getElem he.1, ih he.2]
      rfl
  have key : ∀ (i : Nat) t, (is.filterMap fun i => L[i]?)[i]? = some t → ∃ k, is[i]? = some k ∧ L[k]? = some t := fun i t ht => by
    have h1 : (is.map (fun i => L[i]?))[i]? = some (some t) := by rw [hm, List.getElem?_map, ht]; rfl
    rw [List.getElem?_map] at h1
    cases hk : is[i]? with
    | none => rw [hk] at h1; cases h1
    | some k =>
      rw [hk] at h1
      injection h1 with h1
      exact ⟨k, rfl, h1⟩
  refine ⟨h.bl, fun i t ht => ?_, fun i j a b hij ha hb => ?_⟩
  · obtain ⟨k, _, hk⟩ := key i t ht
    exact h.all k t hk
  · obtain ⟨k, hk1, hk⟩ := key i a ha
    obtain ⟨l, hl1, hl⟩ := key j b hb
    exact h.apart k l a b (fun e => hij (by
      subst e
      exact (List.getElem?_inj (List.getElem?_eq_some_iff.1 hk1).1 hn).1 (hk1.trans hl1.symm))) hk hl
end Go.Proofs.Ytfepilpllfiegaa
/- A network copied: copyNetwork, l2Own, walked. Conditions: none. -/
namespace Go.Proofs.Ytfepilpllfiegaa
open Go.RowKit
/-- A network that owns its rows, out of the ledger. -/
theorem Led.netOwn2 {w0 w : World} {L : List Thing} (h : Led w0 w L) (i j : Nat) {b0 b1 b2 : Nat} {A A' : Option Addr} {n c m d : Nat} {xs : List ByteArray} {fs : List Fib} (hi : L[i]? = some (tOwns elStr b1 9 (.slice A n c) xs)) (hj : L[j]? = some (tOwns elFib b2 62 (.slice A' m d) fs))
    (hn : n = xs.length) (hm : m = fs.length) (hb1 : b0 ≤ b1) (hb2 : b0 ≤ b2) : NetOwn w b0 A n c A' m d xs fs := by
  have h1 := (h.own i hi).base hb1
  have h2 := (h.own j hj).base hb2
  obtain ⟨_, _, e1, a1, a2, _⟩ := h1.form
  obtain ⟨_, _, e2, b1, b2, _⟩ := h2.form
  injection e1 with _ e3 e4
  injection e2 with _ e5 e6
  exact ⟨by omega, by omega, by omega, by omega, hn.symm, hm.symm, h1, h2⟩
/-- What was made in two stretches. -/
theorem Led.join {w0 w w' : World} {L M : List Thing} (h : Led w0 w L) (k : Led w w' M) : Led w0 w' (M ++ L) := by
  have h' := h.step k.bl
  have hlo : ∀ (i : Nat) t, L[i]? = some t → ∀ b, t.S b → b < w.heap.size := fun i t hi b hb => t.lies w (h.all i t hi).1 b hb
  refine ⟨h'.bl, fun i t ht => ?_, fun i j a b hij ha hb x h1 h2 => ?_⟩
  · rw [List.getElem?_append] at ht
    split at ht
    · exact ⟨(k.all i t ht).1, fun b hb => Nat.le_trans h.bl.size ((k.all i t ht).2 b hb)⟩
    · exact h'.all _ t ht
  · rw [List.getElem?_append] at ha hb
    split at ha <;> split at hb
    · exact k.apart i j a b hij ha hb x h1 h2
    · have e1 := (k.all i a ha).2 x h1
      have e2 := hlo _ b hb x h2
      omega
    · have e1 := (k.all j b hb).2 x h2
      have e2 := hlo _ a ha x h1
      omega
    · exact h'.apart _ _ a b (by omega) ha hb x h1 h2
section
variable {n c m d : Nat} {A A' : Option Addr} {xs : List ByteArray} {fs : List Fib}
set_option maxHeartbeats 2000000 in
set_option maxRecDepth 100000 in
theorem copyNetwork_any (w : World) (h : NetIs w A n c A' m d xs fs) :
    Calls Try.prog 111 #[.agg #[.slice A n c, .slice A' m d]] w fun e w' => ∃ A1 c1 A2 c2, e = .returned (.agg #[.slice A1 n c1, .slice A2 m c2]) ∧ Led w w' [tOwns elStr w.heap.size 9 (.slice A1 n c1) xs, tOwns elFib w.heap.size 62 (.slice A2 m c2) fs] := by
  have hS := ((Led.nil w).blk_ w.heap.size rfl 27 #[.slice A n c, .slice A' m d]).blk_ (w.heap.size + 1) (by simp) 27 #[.slice none 0 0, .slice none 0 0]
  obtain ⟨j0, hj, hy0, hy1, hy2⟩ := info_parts fib_info
  obtain ⟨t0, ht, hx0, hx1, hx2⟩ := info_parts str_info
  have HN := hid h
  have hlx := hid h.xlen
  have hlf := hid h.flen
  have hnn := h.nle
  have hmm := h.mle
  clear h
  go_enter Try.func111, Try.ntmps111
  go_wp2_with fail
  generalize (w.alloc (.cells #[.slice A n c, .slice A' m d] 27)).alloc (.cells #[.slice none 0 0, .slice none 0 0] 27) = W0 at *
  have C0 : ∀ w', Led w w' [tBlk w.heap.size 27 #[.slice A n c, .slice A' m d]] → w'.cell? ⟨w.heap.size, 0, none⟩ = some (.slice A n c) := fun _ h => h.cell 0 0 rfl rfl
  have C1 : ∀ w', Led w w' [tBlk w.heap.size 27 #[.slice A n c, .slice A' m d]] → w'.cell? ⟨w.heap.size, 1, none⟩ = some (.slice A' m d) := fun _ h => h.cell 0 1 rfl rfl
  refine wp_region_held_drew (S := fun w' => Led w w' [tBlk w.heap.size 27 #[.slice A n c, .slice A' m d]]) (by kernel_rfl) ((hS.step (Cls.drew _)).drop 1) (fun hHeld => ?_)
  refine wpAnyH_take (i := 1) (oi := _) (v := ?_) rfl (by kernel_rfl) (by kernel_rfl) (by kernel_rfl) (fun _ _ _ h => h) (Or.inl ⟨by rfl, ?_⟩) (by assumption) ?_
  rotate_left
  · intro w hSw; go_simp; with_reducible rfl
  simp only [Act.put, List.getElem_toArray, List.getElem_cons_zero, List.getElem_cons_succ, List.setIfInBounds_toArray, List.set_cons_zero, List.set_cons_succ]
  refine wpAnyH_take (i := 2) (oi := _) (v := ?_) rfl (by kernel_rfl) (by kernel_rfl) (by kernel_rfl) (fun _ _ _ h => h) (Or.inl ⟨by rfl, ?_⟩) (by assumption) ?_
  rotate_left
  · intro w hSw; go_simp; with_reducible rfl
  simp only [Act.put, List.getElem_toArray, List.getElem_cons_zero, List.getElem_cons_succ, List.setIfInBounds_toArray, List.set_cons_zero, List.set_cons_succ]
  refine wpAnyH_take (i := 5) (oi := _) (v := ?_) rfl (by kernel_rfl) (by kernel_rfl) (by kernel_rfl) (fun _ _ _ h => h) (Or.inl ⟨by rfl, ?_⟩) (by assumption) ?_
  rotate_left
  · intro w hSw; go_simp; with_reducible rfl
  simp only [Act.put, List.getElem_toArray, List.getElem_cons_zero, List.getElem_cons_succ, List.setIfInBounds_toArray, List.set_cons_zero, List.set_cons_succ]
  refine wpAnyH_take (i := 6) (oi := _) (v := ?_) rfl (by kernel_rfl) (by kernel_rfl) (by kernel_rfl) (fun _ _ _ h => h) (Or.inl ⟨by rfl, ?_⟩) (by assumption) ?_
  rotate_left
  · intro w hSw; go_simp; with_reducible rfl
  simp only [Act.put, List.getElem_toArray, List.getElem_cons_zero, List.getElem_cons_succ, List.setIfInBounds_toArray, List.set_cons_zero, List.set_cons_succ]
  refine wpAnyH_ready (rs := [0, 4]) (by kernel_rfl) (by simp) ?_
  refine AllReadyH.cons rfl (fun K hK => ?_) ?_
  · skip
    have a1 := (hS.empty elStr 9 (W0.heap.size) rfl w.heap.size (by have := hS.bl.size; first | omega | (have := h1.bl.size; omega))).step (Cls.drew _)
    go_simp
    go_wp2_with fail
    refine hK.out _ _ (a1.drop 2) (fun hHeld => ?_)
    clear hK K
    try simp only [Act.put, List.getElem_toArray, List.getElem_cons_zero, List.getElem_cons_succ, List.setIfInBounds_toArray, List.set_cons_zero, List.set_cons_succ]
    refine wpAnyH_ready (rs := [3, 4]) (by kernel_rfl) (by simp) ?_
    refine AllReadyH.cons rfl (fun K hK => ?_) ?_
    · skip
      refine step_append_led rfl _ _ 24 rfl a1 0 rfl Try.underlying24 ht hx0 hx1 (by rw [hx2]; decide) rfl rfl rfl (HN.out.grow a1.bl).strs (by simp; omega) a1.bl.size ?_
      intro AS cS wS h1
      simp only [List.length_nil, Nat.zero_add, List.nil_append] at h1 ⊢
      refine hK.out _ _ (h1.drop 2) (fun hHeld => ?_)
      clear hK K
      try simp only [Act.put, List.getElem_toArray, List.getElem_cons_zero, List.getElem_cons_succ, List.setIfInBounds_toArray, List.set_cons_zero, List.set_cons_succ]
      refine wpAnyH_ready (rs := [4]) (by kernel_rfl) (by simp) ?_
      refine AllReadyH.cons rfl (fun K hK => ?_) AllReadyH.nil
      have a2 := h1.empty elFib 62 (wS.heap.size) rfl w.heap.size (by have := hS.bl.size; first | omega | (have := h1.bl.size; omega))
      go_simp
      go_wp2_with fail
      refine hK.out _ _ (a2.drop 3) (fun hHeld => ?_)
      clear hK K
      try simp only [Act.put, List.getElem_toArray, List.getElem_cons_zero, List.getElem_cons_succ, List.setIfInBounds_toArray, List.set_cons_zero, List.set_cons_succ]
      refine wpAnyH_ready (rs := [7]) (by kernel_rfl) (by simp) ?_
      refine AllReadyH.cons rfl (fun K hK => ?_) AllReadyH.nil
      refine step_append_led rfl _ _ 25 rfl a2 0 rfl Try.underlying25 hj hy0 hy1 (by rw [hy2]; decide) rfl rfl rfl (HN.out.grow a2.bl).fibs (by simp; omega) a2.bl.size ?_
      intro AF cF wF h2
      simp only [List.length_nil, Nat.zero_add, List.nil_append] at h2 ⊢
      refine hK.out _ _ (h2.drop 3) (fun hHeld => ?_)
      clear hK K
      try simp only [Act.put, List.getElem_toArray, List.getElem_cons_zero, List.getElem_cons_succ, List.setIfInBounds_toArray, List.set_cons_zero, List.set_cons_succ]
      refine wpAnyH_take (i := 8) (oi := _) (v := ?_) rfl (by kernel_rfl) (by kernel_rfl) (by kernel_rfl) (fun _ _ _ h => h) (Or.inl ⟨by rfl, ?_⟩) (by assumption) ?_
      rotate_left
      · intro w hSw; go_simp; with_reducible rfl
      simp only [Act.put, List.getElem_toArray, List.getElem_cons_zero, List.getElem_cons_succ, List.setIfInBounds_toArray, List.set_cons_zero, List.set_cons_succ]
      have q0 := h2.cell 2 0 rfl rfl
      have z0 := h2.frozen 2 0 rfl
      have q1 := h2.cell 2 1 rfl rfl
      have z1 := h2.frozen 2 1 rfl
      have HE := hid ((h2.set 2 rfl 0 (.slice AS n cS)).set 2 rfl 1 (.slice AF m cF))
      refine wpAnyH_ready (rs := [9]) (by kernel_rfl) (by simp) ?_
      refine AllReadyH.cons rfl (fun K hK => ?_) AllReadyH.nil
      go_simp
      go_wp2_with fail
      refine hK.out _ _ (HE.out.drop 3) (fun hHeld => ?_)
      clear hK K
      try simp only [Act.put, List.getElem_toArray, List.getElem_cons_zero, List.getElem_cons_succ, List.setIfInBounds_toArray, List.set_cons_zero, List.set_cons_succ]
      refine wpAnyH_done (by kernel_rfl) ?_ _
      have y0 := HE.out.cell 2 0 rfl rfl
      have y1 := HE.out.cell 2 1 rfl rfl
      have hP := HE.out.pick [1, 0] (by decide) rfl
      simp only [List.filterMap_cons, List.filterMap_nil, List.getElem?_cons_zero, List.getElem?_cons_succ, List.set_cons_zero, List.set_cons_succ] at hP
      have HP := hid hP
      clear q0 q1 z0 z1 C0 C1 hP
      go_wp2
      exact bodyPost_ret (v := .agg #[.slice AS n cS, .slice AF m cF]) (by simp [results, Try.results111, go_sem, y0, y1]) rfl ⟨AS, cS, AF, cF, rfl, HP.out⟩
    · skip
      refine AllReadyH.cons rfl (fun K hK => ?_) AllReadyH.nil
      have a2 := ((hS.empty elStr 9 (W0.heap.size) rfl w.heap.size (by have := hS.bl.size; first | omega | (have := h1.bl.size; omega))).empty elFib 62 (W0.heap.size + 1) (by simp) w.heap.size (by have := hS.bl.size; first | omega | (have := h1.bl.size; omega))).step (Cls.drew _)
      go_simp
      go_wp2_with fail
      refine hK.out _ _ (a2.drop 3) (fun hHeld => ?_)
      clear hK K
      try simp only [Act.put, List.getElem_toArray, List.getElem_cons_zero, List.getElem_cons_succ, List.setIfInBounds_toArray, List.set_cons_zero, List.set_cons_succ]
      refine wpAnyH_ready (rs := [3]) (by kernel_rfl) (by simp) ?_
      refine AllReadyH.cons rfl (fun K hK => ?_) AllReadyH.nil
      refine step_append_led rfl _ _ 24 rfl a2 1 rfl Try.underlying24 ht hx0 hx1 (by rw [hx2]; decide) rfl rfl rfl (HN.out.grow a2.bl).strs (by simp; omega) a2.bl.size ?_
      intro AS cS wS h1
      simp only [List.length_nil, Nat.zero_add, List.nil_append] at h1 ⊢
      refine hK.out _ _ (h1.drop 3) (fun hHeld => ?_)
      clear hK K
      try simp only [Act.put, List.getElem_toArray, List.getElem_cons_zero, List.getElem_cons_succ, List.setIfInBounds_toArray, List.set_cons_zero, List.set_cons_succ]
      refine wpAnyH_ready (rs := [7]) (by kernel_rfl) (by simp) ?_
      refine AllReadyH.cons rfl (fun K hK => ?_) AllReadyH.nil
      refine step_append_led rfl _ _ 25 rfl h1 0 rfl Try.underlying25 hj hy0 hy1 (by rw [hy2]; decide) rfl rfl rfl (HN.out.grow h1.bl).fibs (by simp; omega) h1.bl.size ?_
      intro AF cF wF h2
      simp only [List.length_nil, Nat.zero_add, List.nil_append] at h2 ⊢
      refine hK.out _ _ (h2.drop 3) (fun hHeld => ?_)
      clear hK K
      try simp only [Act.put, List.getElem_toArray, List.getElem_cons_zero, List.getElem_cons_succ, List.setIfInBounds_toArray, List.set_cons_zero, List.set_cons_succ]
      refine wpAnyH_take (i := 8) (oi := _) (v := ?_) rfl (by kernel_rfl) (by kernel_rfl) (by kernel_rfl) (fun _ _ _ h => h) (Or.inl ⟨by rfl, ?_⟩) (by assumption) ?_
      rotate_left
      · intro w hSw; go_simp; with_reducible rfl
      simp only [Act.put, List.getElem_toArray, List.getElem_cons_zero, List.getElem_cons_succ, List.setIfInBounds_toArray, List.set_cons_zero, List.set_cons_succ]
      have q0 := h2.cell 2 0 rfl rfl
      have z0 := h2.frozen 2 0 rfl
      have q1 := h2.cell 2 1 rfl rfl
      have z1 := h2.frozen 2 1 rfl
      have HE := hid ((h2.set 2 rfl 0 (.slice AS n cS)).set 2 rfl 1 (.slice AF m cF))
      refine wpAnyH_ready (rs := [9]) (by kernel_rfl) (by simp) ?_
      refine AllReadyH.cons rfl (fun K hK => ?_) AllReadyH.nil
      go_simp
      go_wp2_with fail
      refine hK.out _ _ (HE.out.drop 3) (fun hHeld => ?_)
      clear hK K
      try simp only [Act.put, List.getElem_toArray, List.getElem_cons_zero, List.getElem_cons_succ, List.setIfInBounds_toArray, List.set_cons_zero, List.set_cons_succ]
      refine wpAnyH_done (by kernel_rfl) ?_ _
      have y0 := HE.out.cell 2 0 rfl rfl
      have y1 := HE.out.cell 2 1 rfl rfl
      have hP := HE.out.pick [1, 0] (by decide) rfl
      simp only [List.filterMap_cons, List.filterMap_nil, List.getElem?_cons_zero, List.getElem?_cons_succ, List.set_cons_zero, List.set_cons_succ] at hP
      have HP := hid hP
      clear q0 q1 z0 z1 C0 C1 hP
      go_wp2
      exact bodyPost_ret (v := .agg #[.slice AS n cS, .slice AF m cF]) (by simp [results, Try.results111, go_sem, y0, y1]) rfl ⟨AS, cS, AF, cF, rfl, HP.out⟩
  · skip
    refine AllReadyH.cons rfl (fun K hK => ?_) AllReadyH.nil
    have a1 := (hS.empty elFib 62 (W0.heap.size) rfl w.heap.size (by have := hS.bl.size; first | omega | (have := h1.bl.size; omega))).step (Cls.drew _)
    go_simp
    go_wp2_with fail
    refine hK.out _ _ (a1.drop 2) (fun hHeld => ?_)
    clear hK K
    try simp only [Act.put, List.getElem_toArray, List.getElem_cons_zero, List.getElem_cons_succ, List.setIfInBounds_toArray, List.set_cons_zero, List.set_cons_succ]
    refine wpAnyH_ready (rs := [0]) (by kernel_rfl) (by simp) ?_
    refine AllReadyH.cons rfl (fun K hK => ?_) AllReadyH.nil
    have a2 := ((hS.empty elFib 62 (W0.heap.size) rfl w.heap.size (by have := hS.bl.size; first | omega | (have := h1.bl.size; omega))).empty elStr 9 (W0.heap.size + 1) (by simp) w.heap.size (by have := hS.bl.size; first | omega | (have := h1.bl.size; omega))).step (Cls.drew _)
    go_simp
    go_wp2_with fail
    refine hK.out _ _ (a2.drop 3) (fun hHeld => ?_)
    clear hK K
    try simp only [Act.put, List.getElem_toArray, List.getElem_cons_zero, List.getElem_cons_succ, List.setIfInBounds_toArray, List.set_cons_zero, List.set_cons_succ]
    refine wpAnyH_ready (rs := [3]) (by kernel_rfl) (by simp) ?_
    refine AllReadyH.cons rfl (fun K hK => ?_) AllReadyH.nil
    refine step_append_led rfl _ _ 24 rfl a2 0 rfl Try.underlying24 ht hx0 hx1 (by rw [hx2]; decide) rfl rfl rfl (HN.out.grow a2.bl).strs (by simp; omega) a2.bl.size ?_
    intro AS cS wS h1
    simp only [List.length_nil, Nat.zero_add, List.nil_append] at h1 ⊢
    refine hK.out _ _ (h1.drop 3) (fun hHeld => ?_)
    clear hK K
    try simp only [Act.put, List.getElem_toArray, List.getElem_cons_zero, List.getElem_cons_succ, List.setIfInBounds_toArray, List.set_cons_zero, List.set_cons_succ]
    refine wpAnyH_ready (rs := [7]) (by kernel_rfl) (by simp) ?_
    refine AllReadyH.cons rfl (fun K hK => ?_) AllReadyH.nil
    refine step_append_led rfl _ _ 25 rfl h1 1 rfl Try.underlying25 hj hy0 hy1 (by rw [hy2]; decide) rfl rfl rfl (HN.out.grow h1.bl).fibs (by simp; omega) h1.bl.size ?_
    intro AF cF wF h2
    simp only [List.length_nil, Nat.zero_add, List.nil_append] at h2 ⊢
    refine hK.out _ _ (h2.drop 3) (fun hHeld => ?_)
    clear hK K
    try simp only [Act.put, List.getElem_toArray, List.getElem_cons_zero, List.getElem_cons_succ, List.setIfInBounds_toArray, List.set_cons_zero, List.set_cons_succ]
    refine wpAnyH_take (i := 8) (oi := _) (v := ?_) rfl (by kernel_rfl) (by kernel_rfl) (by kernel_rfl) (fun _ _ _ h => h) (Or.inl ⟨by rfl, ?_⟩) (by assumption) ?_
    rotate_left
    · intro w hSw; go_simp; with_reducible rfl
    simp only [Act.put, List.getElem_toArray, List.getElem_cons_zero, List.getElem_cons_succ, List.setIfInBounds_toArray, List.set_cons_zero, List.set_cons_succ]
    have q0 := h2.cell 2 0 rfl rfl
    have z0 := h2.frozen 2 0 rfl
    have q1 := h2.cell 2 1 rfl rfl
    have z1 := h2.frozen 2 1 rfl
    have HE := hid ((h2.set 2 rfl 0 (.slice AS n cS)).set 2 rfl 1 (.slice AF m cF))
    refine wpAnyH_ready (rs := [9]) (by kernel_rfl) (by simp) ?_
    refine AllReadyH.cons rfl (fun K hK => ?_) AllReadyH.nil
    go_simp
    go_wp2_with fail
    refine hK.out _ _ (HE.out.drop 3) (fun hHeld => ?_)
    clear hK K
    try simp only [Act.put, List.getElem_toArray, List.getElem_cons_zero, List.getElem_cons_succ, List.setIfInBounds_toArray, List.set_cons_zero, List.set_cons_succ]
    refine wpAnyH_done (by kernel_rfl) ?_ _
    have y0 := HE.out.cell 2 0 rfl rfl
    have y1 := HE.out.cell 2 1 rfl rfl
    have hP := HE.out.pick [0, 1] (by decide) rfl
    simp only [List.filterMap_cons, List.filterMap_nil, List.getElem?_cons_zero, List.getElem?_cons_succ, List.set_cons_zero, List.set_cons_succ] at hP
    have HP := hid hP
    clear q0 q1 z0 z1 C0 C1 hP
    go_wp2
    exact bodyPost_ret (v := .agg #[.slice AS n cS, .slice AF m cF]) (by simp [results, Try.results111, go_sem, y0, y1]) rfl ⟨AS, cS, AF, cF, rfl, HP.out⟩
set_option maxHeartbeats 2000000 in
set_option maxRecDepth 100000 in
theorem l2Own_any (w : World) (h : NetIs w A n c A' m d xs fs) :
    Calls Try.prog 115 #[.agg #[.slice A n c, .slice A' m d]] w fun e w' => ∃ A1 c1 A2 c2, e = .returned (.agg #[.slice A1 n c1, .slice A2 m c2]) ∧ Led w w' [tOwns elStr w.heap.size 9 (.slice A1 n c1) xs, tOwns elFib w.heap.size 62 (.slice A2 m c2) fs] := by
  have hS := ((Led.nil w).blk_ w.heap.size rfl 27 #[.slice A n c, .slice A' m d]).blk_ (w.heap.size + 1) (by simp) 27 #[.slice none 0 0, .slice none 0 0]
  obtain ⟨j0, hj, hy0, hy1, hy2⟩ := info_parts fib_info
  obtain ⟨t0, ht, hx0, hx1, hx2⟩ := info_parts str_info
  have HN := hid h
  have hlx := hid h.xlen
  have hlf := hid h.flen
  have hnn := h.nle
  have hmm := h.mle
  clear h
  go_enter Try.func115, Try.ntmps115
  go_wp2_with fail
  generalize (w.alloc (.cells #[.slice A n c, .slice A' m d] 27)).alloc (.cells #[.slice none 0 0, .slice none 0 0] 27) = W0 at *
  have C0 : ∀ w', Led w w' [tBlk w.heap.size 27 #[.slice A n c, .slice A' m d]] → w'.cell? ⟨w.heap.size, 0, none⟩ = some (.slice A n c) := fun _ h => h.cell 0 0 rfl rfl
  have C1 : ∀ w', Led w w' [tBlk w.heap.size 27 #[.slice A n c, .slice A' m d]] → w'.cell? ⟨w.heap.size, 1, none⟩ = some (.slice A' m d) := fun _ h => h.cell 0 1 rfl rfl
  refine wp_region_held_drew (S := fun w' => Led w w' [tBlk w.heap.size 27 #[.slice A n c, .slice A' m d]]) (by kernel_rfl) ((hS.step (Cls.drew _)).drop 1) (fun hHeld => ?_)
  refine wpAnyH_take (i := 1) (oi := _) (v := ?_) rfl (by kernel_rfl) (by kernel_rfl) (by kernel_rfl) (fun _ _ _ h => h) (Or.inl ⟨by rfl, ?_⟩) (by assumption) ?_
  rotate_left
  · intro w hSw; go_simp; with_reducible rfl
  simp only [Act.put, List.getElem_toArray, List.getElem_cons_zero, List.getElem_cons_succ, List.setIfInBounds_toArray, List.set_cons_zero, List.set_cons_succ]
  refine wpAnyH_take (i := 2) (oi := _) (v := ?_) rfl (by kernel_rfl) (by kernel_rfl) (by kernel_rfl) (fun _ _ _ h => h) (Or.inl ⟨by rfl, ?_⟩) (by assumption) ?_
  rotate_left
  · intro w hSw; go_simp; with_reducible rfl
  simp only [Act.put, List.getElem_toArray, List.getElem_cons_zero, List.getElem_cons_succ, List.setIfInBounds_toArray, List.set_cons_zero, List.set_cons_succ]
  refine wpAnyH_take (i := 5) (oi := _) (v := ?_) rfl (by kernel_rfl) (by kernel_rfl) (by kernel_rfl) (fun _ _ _ h => h) (Or.inl ⟨by rfl, ?_⟩) (by assumption) ?_
  rotate_left
  · intro w hSw; go_simp; with_reducible rfl
  simp only [Act.put, List.getElem_toArray, List.getElem_cons_zero, List.getElem_cons_succ, List.setIfInBounds_toArray, List.set_cons_zero, List.set_cons_succ]
  refine wpAnyH_take (i := 6) (oi := _) (v := ?_) rfl (by kernel_rfl) (by kernel_rfl) (by kernel_rfl) (fun _ _ _ h => h) (Or.inl ⟨by rfl, ?_⟩) (by assumption) ?_
  rotate_left
  · intro w hSw; go_simp; with_reducible rfl
  simp only [Act.put, List.getElem_toArray, List.getElem_cons_zero, List.getElem_cons_succ, List.setIfInBounds_toArray, List.set_cons_zero, List.set_cons_succ]
  refine wpAnyH_ready (rs := [0, 4]) (by kernel_rfl) (by simp) ?_
  refine AllReadyH.cons rfl (fun K hK => ?_) ?_
  · skip
    have a1 := (hS.empty elStr 9 (W0.heap.size) rfl w.heap.size (by have := hS.bl.size; first | omega | (have := h1.bl.size; omega))).step (Cls.drew _)
    go_simp
    go_wp2_with fail
    refine hK.out _ _ (a1.drop 2) (fun hHeld => ?_)
    clear hK K
    try simp only [Act.put, List.getElem_toArray, List.getElem_cons_zero, List.getElem_cons_succ, List.setIfInBounds_toArray, List.set_cons_zero, List.set_cons_succ]
    refine wpAnyH_ready (rs := [3, 4]) (by kernel_rfl) (by simp) ?_
    refine AllReadyH.cons rfl (fun K hK => ?_) ?_
    · skip
      refine step_append_led rfl _ _ 24 rfl a1 0 rfl Try.underlying24 ht hx0 hx1 (by rw [hx2]; decide) rfl rfl rfl (HN.out.grow a1.bl).strs (by simp; omega) a1.bl.size ?_
      intro AS cS wS h1
      simp only [List.length_nil, Nat.zero_add, List.nil_append] at h1 ⊢
      refine hK.out _ _ (h1.drop 2) (fun hHeld => ?_)
      clear hK K
      try simp only [Act.put, List.getElem_toArray, List.getElem_cons_zero, List.getElem_cons_succ, List.setIfInBounds_toArray, List.set_cons_zero, List.set_cons_succ]
      refine wpAnyH_ready (rs := [4]) (by kernel_rfl) (by simp) ?_
      refine AllReadyH.cons rfl (fun K hK => ?_) AllReadyH.nil
      have a2 := h1.empty elFib 62 (wS.heap.size) rfl w.heap.size (by have := hS.bl.size; first | omega | (have := h1.bl.size; omega))
      go_simp
      go_wp2_with fail
      refine hK.out _ _ (a2.drop 3) (fun hHeld => ?_)
      clear hK K
      try simp only [Act.put, List.getElem_toArray, List.getElem_cons_zero, List.getElem_cons_succ, List.setIfInBounds_toArray, List.set_cons_zero, List.set_cons_succ]
      refine wpAnyH_ready (rs := [7]) (by kernel_rfl) (by simp) ?_
      refine AllReadyH.cons rfl (fun K hK => ?_) AllReadyH.nil
      refine step_append_led rfl _ _ 25 rfl a2 0 rfl Try.underlying25 hj hy0 hy1 (by rw [hy2]; decide) rfl rfl rfl (HN.out.grow a2.bl).fibs (by simp; omega) a2.bl.size ?_
      intro AF cF wF h2
      simp only [List.length_nil, Nat.zero_add, List.nil_append] at h2 ⊢
      refine hK.out _ _ (h2.drop 3) (fun hHeld => ?_)
      clear hK K
      try simp only [Act.put, List.getElem_toArray, List.getElem_cons_zero, List.getElem_cons_succ, List.setIfInBounds_toArray, List.set_cons_zero, List.set_cons_succ]
      refine wpAnyH_take (i := 8) (oi := _) (v := ?_) rfl (by kernel_rfl) (by kernel_rfl) (by kernel_rfl) (fun _ _ _ h => h) (Or.inl ⟨by rfl, ?_⟩) (by assumption) ?_
      rotate_left
      · intro w hSw; go_simp; with_reducible rfl
      simp only [Act.put, List.getElem_toArray, List.getElem_cons_zero, List.getElem_cons_succ, List.setIfInBounds_toArray, List.set_cons_zero, List.set_cons_succ]
      have q0 := h2.cell 2 0 rfl rfl
      have z0 := h2.frozen 2 0 rfl
      have q1 := h2.cell 2 1 rfl rfl
      have z1 := h2.frozen 2 1 rfl
      have HE := hid ((h2.set 2 rfl 0 (.slice AS n cS)).set 2 rfl 1 (.slice AF m cF))
      refine wpAnyH_ready (rs := [9]) (by kernel_rfl) (by simp) ?_
      refine AllReadyH.cons rfl (fun K hK => ?_) AllReadyH.nil
      go_simp
      go_wp2_with fail
      refine hK.out _ _ (HE.out.drop 3) (fun hHeld => ?_)
      clear hK K
      try simp only [Act.put, List.getElem_toArray, List.getElem_cons_zero, List.getElem_cons_succ, List.setIfInBounds_toArray, List.set_cons_zero, List.set_cons_succ]
      refine wpAnyH_done (by kernel_rfl) ?_ _
      have y0 := HE.out.cell 2 0 rfl rfl
      have y1 := HE.out.cell 2 1 rfl rfl
      have hP := HE.out.pick [1, 0] (by decide) rfl
      simp only [List.filterMap_cons, List.filterMap_nil, List.getElem?_cons_zero, List.getElem?_cons_succ, List.set_cons_zero, List.set_cons_succ] at hP
      have HP := hid hP
      clear q0 q1 z0 z1 C0 C1 hP
      go_wp2
      exact bodyPost_ret (v := .agg #[.slice AS n cS, .slice AF m cF]) (by simp [results, Try.results115, go_sem, y0, y1]) rfl ⟨AS, cS, AF, cF, rfl, HP.out⟩
    · skip
      refine AllReadyH.cons rfl (fun K hK => ?_) AllReadyH.nil
      have a2 := ((hS.empty elStr 9 (W0.heap.size) rfl w.heap.size (by have := hS.bl.size; first | omega | (have := h1.bl.size; omega))).empty elFib 62 (W0.heap.size + 1) (by simp) w.heap.size (by have := hS.bl.size; first | omega | (have := h1.bl.size; omega))).step (Cls.drew _)
      go_simp
      go_wp2_with fail
      refine hK.out _ _ (a2.drop 3) (fun hHeld => ?_)
      clear hK K
      try simp only [Act.put, List.getElem_toArray, List.getElem_cons_zero, List.getElem_cons_succ, List.setIfInBounds_toArray, List.set_cons_zero, List.set_cons_succ]
      refine wpAnyH_ready (rs := [3]) (by kernel_rfl) (by simp) ?_
      refine AllReadyH.cons rfl (fun K hK => ?_) AllReadyH.nil
      refine step_append_led rfl _ _ 24 rfl a2 1 rfl Try.underlying24 ht hx0 hx1 (by rw [hx2]; decide) rfl rfl rfl (HN.out.grow a2.bl).strs (by simp; omega) a2.bl.size ?_
      intro AS cS wS h1
      simp only [List.length_nil, Nat.zero_add, List.nil_append] at h1 ⊢
      refine hK.out _ _ (h1.drop 3) (fun hHeld => ?_)
      clear hK K
      try simp only [Act.put, List.getElem_toArray, List.getElem_cons_zero, List.getElem_cons_succ, List.setIfInBounds_toArray, List.set_cons_zero, List.set_cons_succ]
      refine wpAnyH_ready (rs := [7]) (by kernel_rfl) (by simp) ?_
      refine AllReadyH.cons rfl (fun K hK => ?_) AllReadyH.nil
      refine step_append_led rfl _ _ 25 rfl h1 0 rfl Try.underlying25 hj hy0 hy1 (by rw [hy2]; decide) rfl rfl rfl (HN.out.grow h1.bl).fibs (by simp; omega) h1.bl.size ?_
      intro AF cF wF h2
      simp only [List.length_nil, Nat.zero_add, List.nil_append] at h2 ⊢
      refine hK.out _ _ (h2.drop 3) (fun hHeld => ?_)
      clear hK K
      try simp only [Act.put, List.getElem_toArray, List.getElem_cons_zero, List.getElem_cons_succ, List.setIfInBounds_toArray, List.set_cons_zero, List.set_cons_succ]
      refine wpAnyH_take (i := 8) (oi := _) (v := ?_) rfl (by kernel_rfl) (by kernel_rfl) (by kernel_rfl) (fun _ _ _ h => h) (Or.inl ⟨by rfl, ?_⟩) (by assumption) ?_
      rotate_left
      · intro w hSw; go_simp; with_reducible rfl
      simp only [Act.put, List.getElem_toArray, List.getElem_cons_zero, List.getElem_cons_succ, List.setIfInBounds_toArray, List.set_cons_zero, List.set_cons_succ]
      have q0 := h2.cell 2 0 rfl rfl
      have z0 := h2.frozen 2 0 rfl
      have q1 := h2.cell 2 1 rfl rfl
      have z1 := h2.frozen 2 1 rfl
      have HE := hid ((h2.set 2 rfl 0 (.slice AS n cS)).set 2 rfl 1 (.slice AF m cF))
      refine wpAnyH_ready (rs := [9]) (by kernel_rfl) (by simp) ?_
      refine AllReadyH.cons rfl (fun K hK => ?_) AllReadyH.nil
      go_simp
      go_wp2_with fail
      refine hK.out _ _ (HE.out.drop 3) (fun hHeld => ?_)
      clear hK K
      try simp only [Act.put, List.getElem_toArray, List.getElem_cons_zero, List.getElem_cons_succ, List.setIfInBounds_toArray, List.set_cons_zero, List.set_cons_succ]
      refine wpAnyH_done (by kernel_rfl) ?_ _
      have y0 := HE.out.cell 2 0 rfl rfl
      have y1 := HE.out.cell 2 1 rfl rfl
      have hP := HE.out.pick [1, 0] (by decide) rfl
      simp only [List.filterMap_cons, List.filterMap_nil, List.getElem?_cons_zero, List.getElem?_cons_succ, List.set_cons_zero, List.set_cons_succ] at hP
      have HP := hid hP
      clear q0 q1 z0 z1 C0 C1 hP
      go_wp2
      exact bodyPost_ret (v := .agg #[.slice AS n cS, .slice AF m cF]) (by simp [results, Try.results115, go_sem, y0, y1]) rfl ⟨AS, cS, AF, cF, rfl, HP.out⟩
  · skip
    refine AllReadyH.cons rfl (fun K hK => ?_) AllReadyH.nil
    have a1 := (hS.empty elFib 62 (W0.heap.size) rfl w.heap.size (by have := hS.bl.size; first | omega | (have := h1.bl.size; omega))).step (Cls.drew _)
    go_simp
    go_wp2_with fail
    refine hK.out _ _ (a1.drop 2) (fun hHeld => ?_)
    clear hK K
    try simp only [Act.put, List.getElem_toArray, List.getElem_cons_zero, List.getElem_cons_succ, List.setIfInBounds_toArray, List.set_cons_zero, List.set_cons_succ]
    refine wpAnyH_ready (rs := [0]) (by kernel_rfl) (by simp) ?_
    refine AllReadyH.cons rfl (fun K hK => ?_) AllReadyH.nil
    have a2 := ((hS.empty elFib 62 (W0.heap.size) rfl w.heap.size (by have := hS.bl.size; first | omega | (have := h1.bl.size; omega))).empty elStr 9 (W0.heap.size + 1) (by simp) w.heap.size (by have := hS.bl.size; first | omega | (have := h1.bl.size; omega))).step (Cls.drew _)
    go_simp
    go_wp2_with fail
    refine hK.out _ _ (a2.drop 3) (fun hHeld => ?_)
    clear hK K
    try simp only [Act.put, List.getElem_toArray, List.getElem_cons_zero, List.getElem_cons_succ, List.setIfInBounds_toArray, List.set_cons_zero, List.set_cons_succ]
    refine wpAnyH_ready (rs := [3]) (by kernel_rfl) (by simp) ?_
    refine AllReadyH.cons rfl (fun K hK => ?_) AllReadyH.nil
    refine step_append_led rfl _ _ 24 rfl a2 0 rfl Try.underlying24 ht hx0 hx1 (by rw [hx2]; decide) rfl rfl rfl (HN.out.grow a2.bl).strs (by simp; omega) a2.bl.size ?_
    intro AS cS wS h1
    simp only [List.length_nil, Nat.zero_add, List.nil_append] at h1 ⊢
    refine hK.out _ _ (h1.drop 3) (fun hHeld => ?_)
    clear hK K
    try simp only [Act.put, List.getElem_toArray, List.getElem_cons_zero, List.getElem_cons_succ, List.setIfInBounds_toArray, List.set_cons_zero, List.set_cons_succ]
    refine wpAnyH_ready (rs := [7]) (by kernel_rfl) (by simp) ?_
    refine AllReadyH.cons rfl (fun K hK => ?_) AllReadyH.nil
    refine step_append_led rfl _ _ 25 rfl h1 1 rfl Try.underlying25 hj hy0 hy1 (by rw [hy2]; decide) rfl rfl rfl (HN.out.grow h1.bl).fibs (by simp; omega) h1.bl.size ?_
    intro AF cF wF h2
    simp only [List.length_nil, Nat.zero_add, List.nil_append] at h2 ⊢
    refine hK.out _ _ (h2.drop 3) (fun hHeld => ?_)
    clear hK K
    try simp only [Act.put, List.getElem_toArray, List.getElem_cons_zero, List.getElem_cons_succ, List.setIfInBounds_toArray, List.set_cons_zero, List.set_cons_succ]
    refine wpAnyH_take (i := 8) (oi := _) (v := ?_) rfl (by kernel_rfl) (by kernel_rfl) (by kernel_rfl) (fun _ _ _ h => h) (Or.inl ⟨by rfl, ?_⟩) (by assumption) ?_
    rotate_left
    · intro w hSw; go_simp; with_reducible rfl
    simp only [Act.put, List.getElem_toArray, List.getElem_cons_zero, List.getElem_cons_succ, List.setIfInBounds_toArray, List.set_cons_zero, List.set_cons_succ]
    have q0 := h2.cell 2 0 rfl rfl
    have z0 := h2.frozen 2 0 rfl
    have q1 := h2.cell 2 1 rfl rfl
    have z1 := h2.frozen 2 1 rfl
    have HE := hid ((h2.set 2 rfl 0 (.slice AS n cS)).set 2 rfl 1 (.slice AF m cF))
    refine wpAnyH_ready (rs := [9]) (by kernel_rfl) (by simp) ?_
    refine AllReadyH.cons rfl (fun K hK => ?_) AllReadyH.nil
    go_simp
    go_wp2_with fail
    refine hK.out _ _ (HE.out.drop 3) (fun hHeld => ?_)
    clear hK K
    try simp only [Act.put, List.getElem_toArray, List.getElem_cons_zero, List.getElem_cons_succ, List.setIfInBounds_toArray, List.set_cons_zero, List.set_cons_succ]
    refine wpAnyH_done (by kernel_rfl) ?_ _
    have y0 := HE.out.cell 2 0 rfl rfl
    have y1 := HE.out.cell 2 1 rfl rfl
    have hP := HE.out.pick [0, 1] (by decide) rfl
    simp only [List.filterMap_cons, List.filterMap_nil, List.getElem?_cons_zero, List.getElem?_cons_succ, List.set_cons_zero, List.set_cons_succ] at hP
    have HP := hid hP
    clear q0 q1 z0 z1 C0 C1 hP
    go_wp2
    exact bodyPost_ret (v := .agg #[.slice AS n cS, .slice AF m cF]) (by simp [results, Try.results115, go_sem, y0, y1]) rfl ⟨AS, cS, AF, cF, rfl, HP.out⟩
end
end Go.Proofs.Ytfepilpllfiegaa
/- slices.Insert of one fiber, walked. Conditions: at most 1048576 fibers. -/
namespace Go.Proofs.Ytfepilpllfiegaa
open Go.RowKit
theorem splice_get {α : Type} (L : List α) (off : Nat) (cs : List α) (h : off + cs.length ≤ L.length) (q : Nat) :
    (splice L off cs)[q]? = if q < off then L[q]? else if q < off + cs.length then cs[q - off]? else L[q]? := by
  unfold splice
  rw [List.getElem?_append, List.length_take, Nat.min_eq_left (by omega)]
  split
  · rename_i hq
    rw [List.getElem?_take, if_pos hq]
  · rename_i hq
    rw [List.getElem?_append]
    by_cases h2 : q < off + cs.length
    · rw [if_pos (by omega), if_pos h2]
    · rw [if_neg (by omega), if_neg h2, List.getElem?_drop]
      congr 1; omega
theorem touch_row (w : World) (g : Nat) (cs : Array Value) : Touch (fun b => b = g) w (w.setRow g cs) :=
  ⟨rfl, rfl, rfl, by simp [World.setRow], fun k _ hn => setRow_other w g k cs hn⟩
section
variable {P : Program}
/-- copy of elements of sz cells. -/
theorem run_copy_rowK (w : World) (dT sT ty elem : TypeId) (g o dLen dCap : Nat) (a : Addr) (sLen sCap : Nat) (cur : Array Value) (t : TypeId) (cs : List Value) (sz : Nat)
    (hu : P.underlying dT = some (.slice elem)) (hs : (P.info? elem).map (·.size) = some sz)
    (hg : w.heap[g]? = some (.cells cur t (0, 0))) (hn : cs.length = Nat.min sLen dLen * sz)
    (hsrc : ∀ j v, cs[j]? = some v → w.cell? (a.add j) = some v) (hfit : o + cs.length ≤ cur.size) (h1 : ∀ v ∈ cs, v.oneCell' = true) :
    (Builtin.copy_ #[dT, sT] ty #[.slice (some ⟨g, o, none⟩) dLen dCap, .slice (some a) sLen sCap]).run P w =
      .ok (goInt (Nat.min sLen dLen)) (w.setRow g (cur.toList.take o ++ cs ++ cur.toList.drop (o + cs.length)).toArray) := by
  have hl := run_loadCells_list (P := P) w a cs hsrc
  have hst := run_storeCells_at P g o t cs 0 cur w hg (by simpa using hfit) h1
  cases hq : P.info? elem with
  | none => simp [hq] at hs
  | some i =>
    have hi : i.size = sz := by simpa [hq] using hs
    simp [Builtin.copy_, run_underlying hu, Builtin.lenOf, Builtin.firstCells, sizeOf, typeInfo, hq, hi, ← hn, hl, hst]
theorem wp_copyK {o : Oper} {a : Act} {w : World} {K : Act → World → Prop} {Q : Exit → Act → World → Prop} (d s : Operand) (dT sT : TypeId)
    (ho : o.op = .call { callee := .builtin .copy, args := #[d, s], argTypes := #[dT, sT] }) (elem : TypeId) (sz : Nat) (hu : P.underlying dT = some (.slice elem)) (hsz : (P.info? elem).map (·.size) = some sz)
    (g off dLen dCap : Nat) (ad : Addr) (sLen sCap : Nat) (hd : a.eval d = .slice (some ⟨g, off, none⟩) dLen dCap) (hs : a.eval s = .slice (some ad) sLen sCap)
    (cur : List Value) (t : TypeId) (hg : w.heap[g]? = some (.cells cur.toArray t (0, 0))) (cs : List Value) (k : Nat) (hk : Nat.min sLen dLen = k) (hn : cs.length = k * sz)
    (hsrc : ∀ j v, cs[j]? = some v → w.cell? (ad.add j) = some v) (hfit : off + cs.length ≤ cur.length) (h1 : ∀ v ∈ cs, v.oneCell' = true)
    (h : ∀ w', Hid (w'.heap[g]? = some (.cells (splice cur off cs).toArray t (0, 0))) → Touch (fun b => b = g) w w' → K (a.put o.dst (goInt k)) w') : Oper.wp P o a w K Q := by
  subst hk
  have hrun := run_copy_rowK (P := P) w dT sT o.type elem g off dLen dCap ad sLen sCap cur.toArray t cs sz hu hsz hg hn hsrc (by simpa using hfit) h1
  unfold Oper.wp
  simp [execOp, ho, resolve, invoke, builtin, hd, hs, hrun, Result.andThen]
  exact h _ (show _ = _ by simpa [splice] using setRow_heap w g _ _ t _ hg) (by simpa using touch_row w g _)
theorem stepI {ops : Array Oper} {o : Oper} {a : Act} {w : World} {K : Act → World → Prop} {Q : Exit → Act → World → Prop} {E : Prop} (hgd : o.guard = none) (h : Oper.wp P o a w K Q) : if Region.wanted o (yielded ops a.tmps) = true then Oper.wp P o a w K Q else E := by
  rw [if_pos (by simp [Region.wanted, hgd])]; exact h
theorem wpList_copyK {ops : Array Oper} {rest : List Oper} {o : Oper} {a : Act} {w : World} {Q : Exit → Act → World → Prop} (hgd : o.guard = none) (d s : Operand) (dT sT : TypeId)
    (ho : o.op = .call { callee := .builtin .copy, args := #[d, s], argTypes := #[dT, sT] }) (elem : TypeId) (sz : Nat) (hu : P.underlying dT = some (.slice elem)) (hsz : (P.info? elem).map (·.size) = some sz)
    (g off dLen dCap : Nat) (ad : Addr) (sLen sCap : Nat) (hd : a.eval d = .slice (some ⟨g, off, none⟩) dLen dCap) (hs : a.eval s = .slice (some ad) sLen sCap)
    (cur : List Value) (t : TypeId) (hg : w.heap[g]? = some (.cells cur.toArray t (0, 0))) (cs : List Value) (k : Nat) (hk : Nat.min sLen dLen = k) (hn : cs.length = k * sz)
    (hsrc : ∀ j v, cs[j]? = some v → w.cell? (ad.add j) = some v) (hfit : off + cs.length ≤ cur.length) (h1 : ∀ v ∈ cs, v.oneCell' = true)
    (h : ∀ w', Hid (w'.heap[g]? = some (.cells (splice cur off cs).toArray t (0, 0))) → Touch (fun b => b = g) w w' → wpList P ops Q rest (a.put o.dst (goInt k)) w') : wpList P ops Q (o :: rest) a w :=
  wpList_plain hgd fun _ hK => wp_copyK d s dT sT ho elem sz hu hsz g off dLen dCap ad sLen sCap hd hs cur t hg cs k hk hn hsrc hfit h1 fun w' h2 h3 => hK _ _ (h w' h2 h3)
end
theorem fib_four : (Try.prog.info? 62).map (·.size) = some 4 := by kernel_rfl
theorem sees_fib {w : World} {g : Nat} {f : Fib} (h : Blk w g 62 #[.int .i64 f.a, .int .i64 f.b, .int .i64 f.len, .int .i64 f.risk]) : Sees elFib w w.heap.size (some ⟨g, 0, none⟩) 1 [f] := by
  refine ⟨rfl, .inr ⟨g, 0, rfl, h.lt, fun q x hx j u hu => ?_⟩⟩
  rcases q with _ | q
  · simp at hx; subst hx
    have e := h.cell (0 + 0 * elFib.sz + j)
    rw [e]
    have hu' : ([.int .i64 f.a, .int .i64 f.b, .int .i64 f.len, .int .i64 f.risk] : List Value)[j]? = some u := hu
    rw [← hu']
    simp
  · simp at hx
/-- The cells of a row of fibers, part of it. -/
def partC (cur : Array Value) (k n : Nat) : List Value := (cur.toList.drop (k * 4)).take ((n - k) * 4)
section
variable {cur : Array Value} {fs : List Fib} {n k c : Nat}
theorem partC_len (hs : cur.size = c * 4) (hnc : n ≤ c) (hk : k ≤ n) : (partC cur k n).length = (n - k) * 4 := by
  unfold partC
  rw [List.length_take, List.length_drop, Array.length_toList, hs]
  omega
theorem partC_get {j : Nat} {v : Value} (h : (partC cur k n)[j]? = some v) : j < (n - k) * 4 ∧ cur[k * 4 + j]? = some v := by
  unfold partC at h
  rw [List.getElem?_take] at h
  split at h
  · rename_i hj
    rw [List.getElem?_drop, Array.getElem?_toList] at h
    exact ⟨hj, h⟩
  · cases h
theorem partC_at {j : Nat} (hj : j < (n - k) * 4) : (partC cur k n)[j]? = cur[k * 4 + j]? := by
  unfold partC
  rw [List.getElem?_take, if_pos hj, List.getElem?_drop, Array.getElem?_toList]
theorem row_one (hf : Filled elFib cur fs n) (hl : fs.length = n) {q : Nat} {v : Value} (hq : q < n * 4) (h : cur[q]? = some v) : v.oneCell' = true := by
  have h1 : q / 4 < n := by omega
  obtain ⟨x, hx⟩ : ∃ x, fs[q / 4]? = some x := ⟨fs[q / 4]'(by omega), by simp [hl, h1]⟩
  have h3 : q % 4 < (elFib.cells x).length := by rw [elFib.len]; show q % 4 < 4; omega
  have h4 := hf (q / 4) x h1 hx (q % 4) _ (List.getElem?_eq_getElem h3)
  have e : q / 4 * elFib.sz + q % 4 = q := by show q / 4 * 4 + q % 4 = q; omega
  rw [e, h] at h4
  injection h4 with h4
  rw [h4]
  exact elFib.one x _ (List.getElem_mem h3)
theorem partC_one (hf : Filled elFib cur fs n) (hl : fs.length = n) : ∀ v ∈ partC cur k n, v.oneCell' = true := by
  intro v hv
  obtain ⟨j, hj⟩ := List.getElem?_of_mem hv
  obtain ⟨h1, h2⟩ := partC_get hj
  exact row_one hf hl (by omega) h2
/-- A row with one fiber more. -/
theorem filled_ins {R : Array Value} {f : Fib} (hl : fs.length = n) (hk : k ≤ n) (hf : Filled elFib cur fs n) (h1 : ∀ q, q < k * 4 → R[q]? = cur[q]?) (h2 : ∀ j, j < 4 → R[k * 4 + j]? = (elFib.cells f)[j]?) (h3 : ∀ q, k * 4 ≤ q → q < n * 4 → R[q + 4]? = cur[q]?) :
    Filled elFib R (fs.take k ++ f :: fs.drop k) (n + 1) := by
  intro j x hj hx i u hu
  have hi : i < 4 := by have := (List.getElem?_eq_some_iff.1 hu).1; rw [elFib.len] at this; exact this
  show R[j * 4 + i]? = some u
  rw [List.getElem?_append, List.length_take, Nat.min_eq_left (by omega)] at hx
  by_cases hjk : j < k
  · rw [if_pos hjk, List.getElem?_take, if_pos hjk] at hx
    rw [h1 _ (by omega)]
    exact hf j x (by omega) hx i u hu
  · rw [if_neg hjk] at hx
    obtain ⟨d, rfl⟩ : ∃ d, j = k + d := ⟨j - k, by omega⟩
    rw [show k + d - k = d by omega] at hx
    rcases d with _ | d
    · simp at hx; subst hx
      rw [Nat.add_zero, h2 i hi]; exact hu
    · simp only [List.getElem?_cons_succ, List.getElem?_drop] at hx
      rw [show (k + (d + 1)) * 4 + i = ((k + d) * 4 + i) + 4 by omega, h3 _ (by omega) (by omega)]
      exact hf (k + d) x (by omega) hx i u hu
end
theorem ins_room {cur : Array Value} {fs : List Fib} {f : Fib} {n k c : Nat} {M : List Value} (hs : cur.size = c * 4) (hnc : n ≤ c) (hk : k ≤ n) (hM : ∀ q, q < k * 4 → M[q]? = cur[q]?) (hl : (n + 1) * 4 ≤ M.length) (hfl : fs.length = n) (hf : Filled elFib cur fs n) :
    Filled elFib (splice (splice M ((k + 1) * 4) (partC cur k n)) (k * 4) (elFib.cells f)).toArray (fs.take k ++ f :: fs.drop k) (n + 1) := by
  have hp := partC_len hs hnc hk
  have h4 : (elFib.cells f).length = 4 := rfl
  have hl1 : (splice M ((k + 1) * 4) (partC cur k n)).length = M.length := length_splice _ _ _ (by omega)
  have hg := splice_get (splice M ((k + 1) * 4) (partC cur k n)) (k * 4) (elFib.cells f) (by omega)
  have hg1 := splice_get M ((k + 1) * 4) (partC cur k n) (by omega)
  refine filled_ins hfl hk hf (fun q hq => ?_) (fun j hj => ?_) (fun q h1 h2 => ?_)
  · rw [List.getElem?_toArray, hg, if_pos hq, hg1, if_pos (by omega), hM q hq]
  · rw [List.getElem?_toArray, hg, if_neg (by omega), if_pos (by omega), show k * 4 + j - k * 4 = j by omega]
  · rw [List.getElem?_toArray, hg, if_neg (by omega), if_neg (by omega), hg1, if_neg (by omega), if_pos (by omega), partC_at (by omega), show k * 4 + (q + 4 - (k + 1) * 4) = q by omega]
theorem ins_grow {cur : Array Value} {fs : List Fib} {f : Fib} {n k c : Nat} {M : List Value} (hs : cur.size = c * 4) (hnc : n ≤ c) (hk : k ≤ n) (hM : ∀ q, q < k * 4 → M[q]? = cur[q]?) (hl : (n + 1) * 4 ≤ M.length) (hfl : fs.length = n) (hf : Filled elFib cur fs n) :
    Filled elFib (splice (splice M (k * 4) (elFib.cells f)) ((k + 1) * 4) (partC cur k n)).toArray (fs.take k ++ f :: fs.drop k) (n + 1) := by
  have hp := partC_len hs hnc hk
  have h4 : (elFib.cells f).length = 4 := rfl
  have hl1 : (splice M (k * 4) (elFib.cells f)).length = M.length := length_splice _ _ _ (by omega)
  have hg := splice_get (splice M (k * 4) (elFib.cells f)) ((k + 1) * 4) (partC cur k n) (by omega)
  have hg1 := splice_get M (k * 4) (elFib.cells f) (by omega)
  refine filled_ins hfl hk hf (fun q hq => ?_) (fun j hj => ?_) (fun q h1 h2 => ?_)
  · rw [List.getElem?_toArray, hg, if_pos (by omega), hg1, if_pos hq, hM q hq]
  · rw [List.getElem?_toArray, hg, if_pos (by omega), hg1, if_neg (by omega), if_pos (by omega), show k * 4 + j - k * 4 = j by omega]
  · rw [List.getElem?_toArray, hg, if_neg (by omega), if_pos (by omega), partC_at (by omega), show k * 4 + (q + 4 - (k + 1) * 4) = q by omega]
set_option maxHeartbeats 4000000 in
set_option maxRecDepth 100000 in
theorem insert1_led {w0 w : World} {L : List Thing} (h : Led w0 w L) (i : Nat) {base n c k g : Nat} {A : Option Addr} {fs : List Fib} {f : Fib} (hi : L[i]? = some (tOwns elFib base 62 (.slice A n c) fs)) (j : Nat) (hj : L[j]? = some (tBlk g 62 #[.int .i64 f.a, .int .i64 f.b, .int .i64 f.len, .int .i64 f.risk])) (hij : i ≠ j) (hk : k ≤ n) (hn : n ≤ 1048576) (hbase : base ≤ w.heap.size) :
    Calls Try.prog 112 #[.slice A n c, .int .i64 k, .slice (some ⟨g, 0, none⟩) 1 1] w fun e w' => ∃ A' c', e = .returned (.slice A' (n + 1) c') ∧ Led w0 w' (L.set i (tOwns elFib base 62 (.slice A' (n + 1) c') (fs.take k ++ f :: fs.drop k))) := by
  obtain ⟨j0, hy, hy0, hy1, hy2⟩ := info_parts fib_info
  have hB : Blk w g 62 #[.int .i64 f.a, .int .i64 f.b, .int .i64 f.len, .int .i64 f.risk] := h.get j hj
  have hv := sees_fib hB
  have ho := h.own i hi
  have hlen : fs.length = n := by
    obtain ⟨A2, c2, hv2, _⟩ := ho.form
    injection hv2 with _ e2 _
    omega
  have hnc : n ≤ c ∧ c ≤ maxLen := by
    obtain ⟨A2, c2, hv2, h2, h3, _⟩ := ho.form
    injection hv2 with _ e2 e3
    omega
  have hc63 : (c : Int) ≤ 9223372036854775807 := by have := hnc.2; unfold maxLen at this; omega
  rcases Nat.lt_or_ge k n with hkn | hkn
  · rcases Owns.cases ho with ⟨h0, h00⟩ | ⟨g1, c1, cur, hv1, hbase1, hR, hnc1, hcm, hsz, hf⟩
    · rw [h00] at hlen
      simp at hlen
      omega
    · injection hv1 with e1 e2 e3
      subst e1 e3
      rw [hlen] at hf
      clear e2
      have hsz4 : cur.size = c * 4 := hsz
      have hgg : g ≠ g1 := fun e => h.apart j i _ _ (fun e2 => hij e2.symm) hj hi g rfl (by rw [e]; rfl)
      have hcs := hid (partC_len (k := k) hsz4 hnc.1 hk)
      have hone := hid (partC_one (k := k) hf hlen)
      have hget := hid (fun j v (h : (partC cur k n)[j]? = some v) => partC_get h)
      by_cases hroom : n + 1 ≤ c
      · have hov : ∀ o lb cb, (callFunc 149 #[.slice (some ⟨g, 0, none⟩) 1 1, .slice (some ⟨g1, o, none⟩) lb cb]).run Try.prog w = .ok (.value (.bool false)) w := fun o lb cb => by
          rw [run_callFunc_extern Try.func149 (by kernel_rfl) (by kernel_rfl) (by kernel_rfl) (e := Extern.SlicesOverlaps.overlaps #[25, 25] #[4]) (by kernel_rfl),
            Lib.run_overlaps_apart w 25 4 62 Try.underlying25 4 Try.sizeOf62 ⟨g, 0, none⟩ ⟨g1, o, none⟩ 1 1 lb cb hgg 62 62 4 cur.size (by unfold Blk at hB; simp [World.shape?, hB]) (by unfold Blk at hR; simp [World.shape?, hR]) (by rw [hsz4]; omega) (hB.frozen 0) (hB.frozen 4)]
          rfl
        have hw1 : IntKind.i64.wrap ((k : Int) + 1) = (k : Int) + 1 := by rw [IntKind.wrap_i64]; omega
        have hw2 : IntKind.i64.wrap ((n : Int) + 1) = (n : Int) + 1 := by rw [IntKind.wrap_i64]; omega
        have hb1 : (0 : Int) ≤ (k : Int) + 1 := by omega
        have htn : ((k : Int) + 1).toNat = k + 1 := by omega
        have htn2 : ((n : Int) + 1).toNat = n + 1 := by omega
        have hkn1 : ¬ ((k : Int) = (n : Int)) := by omega
        have hkn2 : (k : Int) ≤ (n : Int) := by omega
        have hkc : (k : Int) ≤ (c : Int) := by omega
        have hkc1 : ¬ (c = k) := by omega
        have hkc2 : ¬ (c = k + 1) := by omega
        have hnc2 : (n : Int) + 1 ≤ (c : Int) := by omega
        have hnc3 : ¬ ((c : Int) < (n : Int) + 1) := by omega
        have hb3 : (k : Int) ≤ (n : Int) + 1 := by omega
        have HB := hid hB
        have HR := hid hR
        have HF := hid hf
        have HV := hid hv
        have HO := hid ho
        have HLen := hid hlen
        have HS := hid h
        have HSZ := hid hsz4
        clear hB hR hf hv ho hlen h hsz4 hsz
        go_enter Try.func112, Try.ntmps112
        go_wp2_with (simp only [hov])
        obtain ⟨C1, hC1⟩ : ∃ C1, C1 = partC cur k n := ⟨_, rfl⟩
        have HC1 := hid hC1
        rw [← hC1] at hcs hone hget
        clear hC1
        have hg0 : Hid (w.drew.heap[g1]? = some (.cells cur.toList.toArray 62 (0, 0))) := by rw [Array.toArray_toList]; exact HR.out
        have hmin : Hid (Nat.min (n + 1 - k) (n - k) = n - k) := by unfold Hid; simp only [Nat.min_def]; split <;> omega
        have hmin2 : Hid (Nat.min 1 (n + 1 - k) = 1) := by unfold Hid; simp only [Nat.min_def]; split <;> omega
        have hsrc : Hid (∀ j v, C1[j]? = some v → w.drew.cell? ((⟨g1, k * 4, none⟩ : Addr).add j) = some v) := fun j v hj => by
          rw [Addr.add_lit]
          exact (HR.out.cell (k * 4 + j)).trans (hget.out j v hj).2
        have hfit : Hid ((k + 1) * 4 + C1.length ≤ cur.toList.length) := by unfold Hid; rw [hcs.out, Array.length_toList, HSZ.out]; omega
        go_region_law (refine stepI rfl ?_; simp only [Act.put, List.getElem_toArray, List.getElem_cons_zero, List.getElem_cons_succ, List.setIfInBounds_toArray, List.set_cons_zero, List.set_cons_succ]; refine wp_copyK (.tmp 73) (.tmp 76) 25 25 rfl 62 4 Try.underlying25 fib_four g1 ((k + 1) * 4) _ _ ⟨g1, k * 4, none⟩ _ _ rfl rfl cur.toList 62 hg0.out C1 (n - k) hmin.out hcs.out hsrc.out hfit.out hone.out ?_; intro w4 hg4 ht4; simp only [Act.put, List.setIfInBounds_toArray, List.set_cons_zero, List.set_cons_succ])
        all_goals
          have HT4 := hid ht4
          clear ht4
          obtain ⟨M1, hM1⟩ : ∃ M1, M1 = splice cur.toList ((k + 1) * 4) C1 := ⟨_, rfl⟩
          have HM1 := hid hM1
          rw [← hM1] at hg4
          have hM1l : Hid (M1.length = c * 4) := by unfold Hid; rw [hM1, length_splice _ _ _ hfit.out, Array.length_toList]; exact HSZ.out
          clear hM1
          obtain ⟨C2, hC2⟩ : ∃ C2, C2 = elFib.cells f := ⟨_, rfl⟩
          have HC2 := hid hC2
          have hC2l : Hid (C2.length = 1 * 4) := by unfold Hid; rw [hC2]; rfl
          have hsrc2 : Hid (∀ j v, C2[j]? = some v → w4.cell? ((⟨g, 0, none⟩ : Addr).add j) = some v) := fun j v hj => by
            rw [Addr.add_lit, (HB.out.touch ((Touch.of_below (Cls.drew w)).trans HT4.out |>.mono (S' := fun b => b = g1) (fun _ h => h)) hgg).cell, ← hj, hC2]
            simp [elFib]
          have hone2 : Hid (∀ v ∈ C2, v.oneCell' = true) := by unfold Hid; rw [hC2]; exact elFib.one f
          have hfit2 : Hid (k * 4 + C2.length ≤ M1.length) := by unfold Hid; rw [hC2l.out, hM1l.out]; omega
          clear hC2
          go_wp2_with (first
            | (refine wpList_copyK rfl (.tmp 80) (.tmp 81) 25 25 rfl 62 4 Try.underlying25 fib_four g1 (k * 4) _ _ ⟨g, 0, none⟩ _ _ rfl rfl M1 62 hg4.out C2 1 hmin2.out hC2l.out hsrc2.out hfit2.out hone2.out ?_)
            | go_in)
          intro w5 hg5 ht5
          have HT5 := hid ht5
          clear ht5
          go_wp2
          go_ret
          refine ⟨some ⟨g1, 0, none⟩, c, rfl, HS.out.regrow i hi (((Touch.of_below (Cls.drew w)).trans (HT4.out.trans HT5.out)).mono (fun b hb => by subst hb; rfl)) (fun b hb => .inl hb) ?_⟩
          rw [HM1.out, HC1.out, HC2.out] at hg5
          refine Owns.of_blk (n := n + 1) hg5.out hbase1 (by simp [HLen.out]; omega) hroom ?_ hcm (ins_room HSZ.out hnc.1 hk (fun q hq => by rw [Array.getElem?_toList]) (by rw [Array.length_toList, HSZ.out]; omega) HLen.out HF.out)
          rw [List.size_toArray, length_splice _ _ _ (by rw [← HC1.out, ← HM1.out, ← HC2.out]; exact hfit2.out), ← HC1.out, ← HM1.out, hM1l.out]
          rfl
      · have hroom2 : c < n + 1 := by omega
        obtain ⟨z, hz⟩ : ∃ z, z = Value.agg #[.int .i64 0, .int .i64 0, .int .i64 0, .int .i64 0] := ⟨_, rfl⟩
        rw [← hz] at hy0
        have hzc : z.cells.size = 4 := by rw [hz]; rfl
        clear hz
        have hOLDl : (cur.toList.take (k * 4)).length = k * 4 := by rw [List.length_take, Array.length_toList, hsz4]; omega
        have hOLD : ∀ q, q < k * 4 → (cur.toList.take (k * 4))[q]? = cur[q]? := fun q hq => by rw [List.getElem?_take, if_pos hq, Array.getElem?_toList]
        obtain ⟨OLD, hO⟩ : ∃ O, O = cur.toList.take (k * 4) := ⟨_, rfl⟩
        rw [← hO] at hOLDl hOLD
        clear hO
        have hold : (Builtin.firstCells j0.size k (.slice (some ⟨g1, 0, none⟩) k c)).run Try.prog w.drew = .ok OLD.toArray w.drew := by
          rw [hy1]
          exact run_firstCells_some w.drew 4 k ⟨g1, 0, none⟩ k c OLD hOLDl (fun q v hq => by
            rw [Addr.add_lit, Nat.zero_add]
            have hq2 := (List.getElem?_eq_some_iff.1 hq).1
            rw [hOLD q (by omega)] at hq
            exact (hR.cell q).trans hq)
        have hik : k + (n + 1 - k) = n + 1 := by omega
        have hkk : (n : Int) + 1 - (k : Int) = ((n + 1 - k : Nat) : Int) := by omega
        obtain ⟨G, hG⟩ : ∃ G, G = grownCap w (n + 1) c 62 := ⟨_, rfl⟩
        have hrz : ∀ ty, (Builtin.append_ #[25, 3] ty #[.slice (some ⟨g1, 0, none⟩) k c, .int .i64 ((n : Int) + 1 - (k : Int))]).run Try.prog w =
            .ok (.slice (some ⟨w.heap.size, 0, none⟩) (n + 1) G) (w.drew.alloc (.cells (OLD.toArray ++ Builtin.zeroCells z.cells (n + 1 - k) ++ Builtin.zeroCells z.cells (G - (n + 1))) 62)) := fun ty => by
          have h1 := Lib.run_append_grow_zeros w 25 3 ty 62 j0 z .i64 .i64 Try.underlying25 Try.underlying3 hy hy0 (some ⟨g1, 0, none⟩) k c OLD hold (n + 1 - k) (by omega) (by omega) (by omega) (by omega) (by rw [hy2]; omega) (by rw [hy2, hik]; exact growslice_fits hroom2 (by omega))
          rw [hik, ← hG] at h1
          rw [hkk]
          exact h1
        have hGn : n + 1 ≤ G := by rw [hG]; exact grownCap_ge w _ _ _
        have hGm : G ≤ maxLen := by rw [hG]; exact grownCap_le_maxLen w (n + 1) c 62 (by unfold maxLen; omega)
        have hG63 : (G : Int) ≤ 9223372036854775807 := by unfold maxLen at hGm; omega
        obtain ⟨ROW, hROW⟩ : ∃ R : Array Value, R = OLD.toArray ++ Builtin.zeroCells z.cells (n + 1 - k) ++ Builtin.zeroCells z.cells (G - (n + 1)) := ⟨_, rfl⟩
        rw [← hROW] at hrz
        have hROWl : Hid (ROW.size = G * 4) := by unfold Hid; rw [hROW]; simp [Builtin.zeroCells, hzc, hOLDl]; omega
        have hROWo : Hid (∀ q, q < k * 4 → ROW.toList[q]? = cur[q]?) := fun q hq => by
          rw [Array.getElem?_toList, hROW, Array.getElem?_append, if_pos (by simp [hOLDl]; omega), Array.getElem?_append, if_pos (by simp [hOLDl]; omega), List.getElem?_toArray]
          exact hOLD q hq
        clear hROW hG hold hOLD hOLDl hik hkk
        have hw1 : IntKind.i64.wrap ((k : Int) + 1) = (k : Int) + 1 := by rw [IntKind.wrap_i64]; omega
        have hw2 : IntKind.i64.wrap ((n : Int) + 1) = (n : Int) + 1 := by rw [IntKind.wrap_i64]; omega
        have hw3 : IntKind.i64.wrap ((n : Int) + 1 - (k : Int)) = (n : Int) + 1 - (k : Int) := by rw [IntKind.wrap_i64]; omega
        have hb1 : (0 : Int) ≤ (k : Int) + 1 := by omega
        have htn : ((k : Int) + 1).toNat = k + 1 := by omega
        have hkn1 : ¬ ((k : Int) = (n : Int)) := by omega
        have hkn2 : (k : Int) ≤ (n : Int) := by omega
        have hkc : (k : Int) ≤ (c : Int) := by omega
        have hkc1 : ¬ (c = k) := by omega
        have hnc3 : (c : Int) < (n : Int) + 1 := by omega
        have hb3 : (k : Int) ≤ (n : Int) + 1 := by omega
        have hb4 : (k : Int) + 1 ≤ (n : Int) + 1 := by omega
        have hGi : ¬ (G = k) := by omega
        have hGim : ¬ (G = k + 1) := by omega
        have HB := hid hB
        have HR := hid hR
        have HF := hid hf
        have HLen := hid hlen
        have HS := hid h
        have HSZ := hid hsz4
        have hg1w : Hid (g1 < w.heap.size) := hR.lt
        have hgw : Hid (g < w.heap.size) := hB.lt
        clear hB hR hf hv ho hlen h hsz4 hsz
        obtain ⟨C1, hC1⟩ : ∃ C1, C1 = partC cur k n := ⟨_, rfl⟩
        have HC1 := hid hC1
        rw [← hC1] at hcs hone hget
        clear hC1
        obtain ⟨C2, hC2⟩ : ∃ C2, C2 = elFib.cells f := ⟨_, rfl⟩
        have HC2 := hid hC2
        have hC2l : Hid (C2.length = 1 * 4) := by unfold Hid; rw [hC2]; rfl
        have hone2 : Hid (∀ v ∈ C2, v.oneCell' = true) := by unfold Hid; rw [hC2]; exact elFib.one f
        have hBW : Hid (Below w.heap.size w (w.alloc (.cells ROW 62)).drew) := (bl_alloc (Below.refl _ _) _).drew
        have hg0 : Hid ((w.alloc (.cells ROW 62)).drew.heap[w.heap.size]? = some (.cells ROW.toList.toArray 62 (0, 0))) := by rw [Array.toArray_toList]; exact Blk.new w _ _
        have hsrc2 : Hid (∀ j v, C2[j]? = some v → (w.alloc (.cells ROW 62)).drew.cell? ((⟨g, 0, none⟩ : Addr).add j) = some v) := fun j v hj => by
          rw [Addr.add_lit, (HB.out.below hBW.out hgw.out).cell, ← hj, hC2]
          simp [elFib]
        have hfit2 : Hid (k * 4 + C2.length ≤ ROW.toList.length) := by unfold Hid; rw [hC2l.out, Array.length_toList, hROWl.out]; omega
        have hmin2 : Hid (Nat.min 1 (n + 1 - k) = 1) := by unfold Hid; simp only [Nat.min_def]; split <;> omega
        have hmin : Hid (Nat.min (n - k) (n - k) = n - k) := Nat.min_self _
        clear hC2
        go_enter Try.func112, Try.ntmps112
        go_wp2_with (first
          | (at_builtin; refine Lib.wpList_append_run _ rfl _ _ _ _ rfl _ _ rfl rfl _ _ (hrz _) ?_)
          | (refine wpList_copyK rfl (.tmp 43) (.tmp 44) 25 25 rfl 62 4 Try.underlying25 fib_four w.heap.size (k * 4) _ _ ⟨g, 0, none⟩ _ _ rfl rfl ROW.toList 62 hg0.out C2 1 hmin2.out hC2l.out hsrc2.out hfit2.out hone2.out ?_)
          | go_in)
        intro w4 hg4 ht4
        obtain ⟨M1, hM1⟩ : ∃ M1, M1 = splice ROW.toList (k * 4) C2 := ⟨_, rfl⟩
        have HM1 := hid hM1
        rw [← hM1] at hg4
        have hM1l : Hid (M1.length = G * 4) := by unfold Hid; rw [hM1, length_splice _ _ _ hfit2.out, Array.length_toList]; exact hROWl.out
        clear hM1
        have hBW4 : Hid (Below w.heap.size w w4) := hBW.out.trans (ht4.below (fun b hb => by subst hb; exact Nat.le_refl _) hBW.out.size)
        clear ht4
        have hg4' : Hid (w4.drew.heap[w.heap.size]? = some (.cells M1.toArray 62 (0, 0))) := hg4
        have hsrc : Hid (∀ j v, C1[j]? = some v → w4.drew.cell? ((⟨g1, k * 4, none⟩ : Addr).add j) = some v) := fun j v hj => by
          rw [Addr.add_lit]
          exact ((HR.out.below hBW4.out hg1w.out).cell (k * 4 + j)).trans (hget.out j v hj).2
        have hfit : Hid ((k + 1) * 4 + C1.length ≤ M1.length) := by unfold Hid; rw [hcs.out, hM1l.out]; omega
        go_wp2_with fail
        go_region_law (refine stepI rfl ?_; simp only [Act.put, List.getElem_toArray, List.getElem_cons_zero, List.getElem_cons_succ, List.setIfInBounds_toArray, List.set_cons_zero, List.set_cons_succ]; refine wp_copyK (.tmp 50) (.tmp 53) 25 25 rfl 62 4 Try.underlying25 fib_four w.heap.size ((k + 1) * 4) _ _ ⟨g1, k * 4, none⟩ _ _ rfl rfl M1 62 hg4'.out C1 (n - k) hmin.out hcs.out hsrc.out hfit.out hone.out ?_; intro w5 hg5 ht5; simp only [Act.put, List.setIfInBounds_toArray, List.set_cons_zero, List.set_cons_succ])
        all_goals
          have hBW5 : Hid (Below w.heap.size w w5) := (hBW4.out.drew).trans (ht5.below (fun b hb => by subst hb; exact Nat.le_refl _) hBW4.out.size)
          clear ht5
          go_wp2
          go_ret
          refine ⟨some ⟨w.heap.size, 0, none⟩, G, rfl, HS.out.regrow i hi (Touch.of_below hBW5.out) (fun b hb => .inr (by have e : some w.heap.size = some b := hb; injection e with e; omega)) ?_⟩
          rw [HM1.out, HC1.out, HC2.out] at hg5
          refine Owns.of_blk (n := n + 1) hg5.out hbase (by simp [HLen.out]; omega) hGn ?_ hGm (ins_grow HSZ.out hnc.1 hk hROWo.out (by rw [Array.length_toList, hROWl.out]; omega) HLen.out HF.out)
          rw [List.size_toArray, length_splice _ _ _ (by rw [← HC1.out, ← HC2.out, ← HM1.out]; exact hfit.out), ← HC2.out, ← HM1.out, hM1l.out]
          rfl
  · obtain rfl : k = n := by omega
    have HV := hid hv
    have HLen := hid hlen
    have HS := hid h
    have hkc : (k : Int) ≤ (c : Int) := by omega
    have e : fs.take k ++ f :: fs.drop k = fs ++ [f] := by rw [← hlen, List.take_length, List.drop_length]
    rw [e]
    clear e hv h hB ho hlen
    go_enter Try.func112, Try.ntmps112
    go_wp2_with (first
      | (at_builtin; refine wpList_append_led rfl _ _ 25 rfl HS.out i hi Try.underlying25 hy hy0 hy1 (by rw [hy2]; decide) rfl rfl rfl HV.out (by rw [HLen.out]; omega) hbase ?_)
      | go_in)
    all_goals
      intro A' c' w1 hS1
      go_wp2
      go_ret
      exact ⟨A', c', by rw [HLen.out]; rfl, by rw [HLen.out] at hS1; exact hS1⟩
end Go.Proofs.Ytfepilpllfiegaa
/- A fiber more in a network, in plain Lean. Conditions: none. -/
namespace Go.Proofs.Ytfepilpllfiegaa
section
variable {xs : List ByteArray} {fs : List Fib} {f : Fib}
/-- The fiber comes behind the first k. -/
def aheadF (fs : List Fib) (f : Fib) (k : Nat) : Bool := decide (cmpFib (fs.getD k default) f ≤ 0)
/-- Where it goes. -/
def atTo (fs : List Fib) (f : Fib) : Nat → Nat → Nat
  | 0, k => k
  | r + 1, k => if aheadF fs f k then atTo fs f r (k + 1) else k
def atF (fs : List Fib) (f : Fib) : Nat := atTo fs f fs.length 0
theorem atTo_is {k : Nat} (hk : k ≤ fs.length) (h : allTo (aheadF fs f) k) (hi : k = fs.length ∨ aheadF fs f k = false) : ∀ r j, j + r = fs.length → j ≤ k → atTo fs f r j = k := by
  intro r
  induction r with
  | zero =>
    intro j hj hjk
    show j = k
    omega
  | succ r ih =>
    intro j hj hjk
    unfold atTo
    rcases Nat.lt_or_ge j k with h1 | h1
    · rw [if_pos (h j h1)]; exact ih (j + 1) (by omega) (by omega)
    · rcases hi with h2 | h2
      · omega
      · rw [show j = k by omega, h2]; rfl
theorem atF_is {k : Nat} (hk : k ≤ fs.length) (h : allTo (aheadF fs f) k) (hi : k = fs.length ∨ aheadF fs f k = false) : atF fs f = k := atTo_is hk h hi _ _ (by omega) (by omega)
theorem atTo_spec : ∀ r j, j + r = fs.length → allTo (aheadF fs f) j → atTo fs f r j ≤ fs.length ∧ allTo (aheadF fs f) (atTo fs f r j) ∧ (atTo fs f r j = fs.length ∨ aheadF fs f (atTo fs f r j) = false) := by
  intro r
  induction r with
  | zero => intro j hj h; exact ⟨by show j ≤ _; omega, h, .inl (by show j = _; omega)⟩
  | succ r ih =>
    intro j hj h
    unfold atTo
    cases g : aheadF fs f j
    · exact ⟨by show j ≤ _; omega, h, .inr g⟩
    · exact ih (j + 1) (by omega) (allTo_succ h g)
theorem atF_le : atF fs f ≤ fs.length := (atTo_spec fs.length 0 (by omega) (allTo_zero _)).1
theorem atF_ahead : allTo (aheadF fs f) (atF fs f) := (atTo_spec fs.length 0 (by omega) (allTo_zero _)).2.1
theorem atF_stop : atF fs f = fs.length ∨ aheadF fs f (atF fs f) = false := (atTo_spec fs.length 0 (by omega) (allTo_zero _)).2.2
def insF (fs : List Fib) (f : Fib) : List Fib := fs.take (atF fs f) ++ f :: fs.drop (atF fs f)
theorem insF_len : (insF fs f).length = fs.length + 1 := by
  have := atF_le (fs := fs) (f := f)
  unfold insF; simp; omega
theorem insF_lo {j : Nat} (h : j < atF fs f) : (insF fs f).getD j default = fs.getD j default := by
  have := atF_le (fs := fs) (f := f)
  unfold insF
  rw [List.getD_eq_getElem?_getD, List.getD_eq_getElem?_getD, List.getElem?_append_left (by simp; omega), List.getElem?_take, if_pos h]
theorem insF_at : (insF fs f).getD (atF fs f) default = f := by
  have := atF_le (fs := fs) (f := f)
  unfold insF
  rw [List.getD_eq_getElem?_getD, List.getElem?_append_right (by simp; omega)]
  simp [Nat.min_eq_left this]
theorem insF_hi {j : Nat} (h : atF fs f ≤ j) : (insF fs f).getD (j + 1) default = fs.getD j default := by
  have := atF_le (fs := fs) (f := f)
  unfold insF
  rw [List.getD_eq_getElem?_getD, List.getD_eq_getElem?_getD, List.getElem?_append_right (by simp; omega)]
  simp [Nat.min_eq_left this]
  rw [show j + 1 - atF fs f = (j - atF fs f) + 1 by omega, List.getElem?_cons_succ, List.getElem?_drop, show atF fs f + (j - atF fs f) = j by omega]
theorem cmpB_neg_ (a b : Int) : cmpB a b = -cmpB b a := by unfold cmpB; split <;> (try split) <;> (try split) <;> omega
theorem cmpFib_neg (f g : Fib) : cmpFib f g = -cmpFib g f := by
  unfold cmpFib orI orI orI orI orI
  rw [cmpB_neg_ f.a, cmpB_neg_ f.b, cmpB_neg_ f.len, cmpB_neg_ f.risk]
  split <;> split <;> (try omega) <;> (try (split <;> split <;> (try omega))) <;> (try (split <;> split <;> (try omega))) <;> (try (split <;> split <;> (try omega)))
theorem insF_good (h : allTo (fibAt xs.length fs) fs.length) : allB (fibAt xs.length (insF fs f)) (fs.length + 1) = fibB xs.length f := by
  have hle := atF_le (fs := fs) (f := f)
  rw [Bool.eq_iff_iff, allB_iff]
  constructor
  · intro hh
    have h1 := hh (atF fs f) (by omega)
    unfold fibAt at h1
    rw [Bool.and_eq_true, insF_at] at h1
    exact h1.1
  · intro hf j hj
    have hold : ∀ i, i < fs.length → fibB xs.length (fs.getD i default) = true ∧ (i = 0 ∨ cmpFib (fs.getD (i - 1) default) (fs.getD i default) ≤ 0) := fun i hi => by
      have h1 := h i hi
      unfold fibAt at h1
      rw [Bool.and_eq_true, Bool.or_eq_true, beq_iff_eq, decide_eq_true_eq] at h1
      exact h1
    unfold fibAt
    rw [Bool.and_eq_true, Bool.or_eq_true, beq_iff_eq, decide_eq_true_eq]
    rcases Nat.lt_trichotomy j (atF fs f) with h1 | h1 | h1
    · rw [insF_lo h1]
      refine ⟨(hold j (by omega)).1, ?_⟩
      rcases (hold j (by omega)).2 with h2 | h2
      · exact .inl h2
      · right
        rw [insF_lo (by omega)]; exact h2
    · subst h1
      rw [insF_at]
      refine ⟨hf, ?_⟩
      rcases Nat.eq_zero_or_pos (atF fs f) with h2 | h2
      · exact .inl h2
      · right
        rw [insF_lo (by omega)]
        have := atF_ahead (fs := fs) (f := f) (atF fs f - 1) (by omega)
        unfold aheadF at this
        simpa using this
    · obtain ⟨i, rfl⟩ : ∃ i, j = i + 1 := ⟨j - 1, by omega⟩
      rw [insF_hi (by omega)]
      refine ⟨(hold i (by omega)).1, .inr ?_⟩
      rw [Nat.add_sub_cancel]
      rcases Nat.lt_or_ge (atF fs f) i with h2 | h2
      · obtain ⟨k, rfl⟩ : ∃ k, i = k + 1 := ⟨i - 1, by omega⟩
        rw [insF_hi (by omega)]
        rcases (hold (k + 1) (by omega)).2 with h3 | h3
        · omega
        · simpa using h3
      · have e : i = atF fs f := by omega
        subst e
        rw [insF_at, cmpFib_neg]
        rcases atF_stop (fs := fs) (f := f) with h3 | h3
        · omega
        · unfold aheadF at h3
          rw [decide_eq_false_iff_not] at h3
          omega
/-- May the fiber be added? -/
def addB (xs : List ByteArray) (fs : List Fib) (f : Fib) : Bool := (goodB xs fs && fibB xs.length f) && decide (fs.length < 14)
theorem addB_eq : addB xs fs f = (goodB xs fs && goodB xs (insF fs f)) := by
  unfold addB
  cases g : goodB xs fs
  · rfl
  · have g' := g
    unfold goodB at g'
    rw [Bool.and_eq_true, Bool.and_eq_true, Bool.and_eq_true] at g'
    have h1 := insF_good (f := f) (allB_iff.1 g'.2)
    have e : goodB xs (insF fs f) = (decide (fs.length + 1 ≤ 14) && fibB xs.length f) := by
      unfold goodB
      rw [insF_len, h1, g'.1.1.1, g'.1.2]; simp
    rw [e, Bool.true_and, Bool.true_and, Bool.and_comm]
    congr 1
def addX (xs : List ByteArray) (fs : List Fib) (f : Fib) : List ByteArray := if addB xs fs f then xs else []
def addF (xs : List ByteArray) (fs : List Fib) (f : Fib) : List Fib := if addB xs fs f then insF fs f else []
def addI (xs : List ByteArray) (fs : List Fib) (f : Fib) : Int := if addB xs fs f then atF fs f else 0
theorem goodB_sizes (h : goodB xs fs = true) : xs.length ≤ 8 ∧ fs.length ≤ 14 := by unfold goodB at h; simp at h; omega
theorem add_small (xs : List ByteArray) (fs : List Fib) (f : Fib) : (addX xs fs f).length ≤ 8 ∧ (addF xs fs f).length ≤ 14 := by
  unfold addX addF
  cases g : addB xs fs f
  · simp
  · rw [addB_eq, Bool.and_eq_true] at g
    have h1 := goodB_sizes g.1
    have h2 := goodB_sizes g.2
    simp; omega
end
end Go.Proofs.Ytfepilpllfiegaa
