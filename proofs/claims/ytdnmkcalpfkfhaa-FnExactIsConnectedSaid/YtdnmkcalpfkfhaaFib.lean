/- Fibers: how they compare, in plain Lean. Conditions: none. -/
import Derived.Test.YtdnmkcalpfkfhaaNet0
namespace Go.Proofs.Ytdnmkcalpfkfhaa
/-- A fiber. -/
structure Fib where
  a : Int
  b : Int
  len : Int
  risk : Int
def fibV (f : Fib) : Value := .agg #[.int .i64 f.a, .int .i64 f.b, .int .i64 f.len, .int .i64 f.risk]
def elFib : El Fib := ⟨4, fun f => [.int .i64 f.a, .int .i64 f.b, .int .i64 f.len, .int .i64 f.risk], fun _ => rfl, by decide,
  fun _ u h => by simp at h; rcases h with rfl | rfl | rfl | rfl <;> rfl⟩
/-- The first number that is not 0. -/
def orI : List Int → Int
  | [] => 0
  | x :: l => if x = 0 then orI l else x
def cmpFib (f g : Fib) : Int := orI [cmpB f.a g.a, cmpB f.b g.b, cmpB f.len g.len, cmpB f.risk g.risk]
/-- The reference's number. -/
def befF (f g : Fib) : Int := if f.a = g.a then if f.b = g.b then if f.len = g.len then f.risk - g.risk else f.len - g.len else f.b - g.b else f.a - g.a
theorem cmpB_zero {a b : Int} : cmpB a b = 0 ↔ a = b := by unfold cmpB; split <;> (try split) <;> omega
theorem cmpB_pos {a b : Int} : 0 < cmpB a b ↔ b < a := by unfold cmpB; split <;> (try split) <;> omega
theorem cmpB_neg {a b : Int} : cmpB a b < 0 ↔ a < b := by unfold cmpB; split <;> (try split) <;> omega
theorem befF_pos (f g : Fib) : 0 < befF f g ↔ 0 < cmpFib f g := by
  unfold befF cmpFib orI orI orI orI orI
  simp only [cmpB_zero]
  split
  · split
    · split
      · split
        · rename_i h; simp [h]
        · rw [cmpB_pos]; omega
      · rw [cmpB_pos]; omega
    · rw [cmpB_pos]; omega
  · rw [cmpB_pos]; omega
theorem befF_le (f g : Fib) : befF f g ≤ 0 ↔ cmpFib f g ≤ 0 := by have := befF_pos f g; omega
/-- A row of fibers, one more written. -/
def put4 (cur : Array Value) (k : Nat) (f : Fib) : Array Value := (((cur.setIfInBounds (k * 4) (.int .i64 f.a)).setIfInBounds (k * 4 + 1) (.int .i64 f.b)).setIfInBounds (k * 4 + 2) (.int .i64 f.len)).setIfInBounds (k * 4 + 3) (.int .i64 f.risk)
theorem put4_size (cur : Array Value) (k : Nat) (f : Fib) : (put4 cur k f).size = cur.size := by simp [put4]
theorem put4_other {cur : Array Value} {k i : Nat} {f : Fib} (h : i < k * 4 ∨ k * 4 + 3 < i) : (put4 cur k f)[i]? = cur[i]? := by
  unfold put4
  rw [Array.getElem?_setIfInBounds_ne (by omega), Array.getElem?_setIfInBounds_ne (by omega), Array.getElem?_setIfInBounds_ne (by omega), Array.getElem?_setIfInBounds_ne (by omega)]
theorem put4_new {cur : Array Value} {k : Nat} {f : Fib} (hs : k * 4 + 3 < cur.size) : ∀ i u, (elFib.cells f)[i]? = some u → (put4 cur k f)[k * 4 + i]? = some u := by
  intro i u hu
  unfold put4
  match i, hu with
  | 0, hu =>
    rw [Array.getElem?_setIfInBounds_ne (by omega), Array.getElem?_setIfInBounds_ne (by omega), Array.getElem?_setIfInBounds_ne (by omega)]
    rw [Nat.add_zero, Array.getElem?_setIfInBounds_self_of_lt (by omega)]; exact hu
  | 1, hu =>
    rw [Array.getElem?_setIfInBounds_ne (by omega), Array.getElem?_setIfInBounds_ne (by omega)]
    rw [Array.getElem?_setIfInBounds_self_of_lt (by simp; omega)]; exact hu
  | 2, hu =>
    rw [Array.getElem?_setIfInBounds_ne (by omega)]
    rw [Array.getElem?_setIfInBounds_self_of_lt (by simp; omega)]; exact hu
  | 3, hu => rw [Array.getElem?_setIfInBounds_self_of_lt (by simp; omega)]; exact hu
  | i + 4, hu => simp [elFib] at hu
theorem Filled.put4 {cur : Array Value} {xs : List Fib} {k : Nat} {f : Fib} (h : Filled elFib cur xs k) (hx : xs[k]? = some f) (hs : k * 4 + 3 < cur.size) : Filled elFib (put4 cur k f) xs (k + 1) :=
  h.step hx (fun _ hi => put4_other (.inl hi)) (put4_new hs)
theorem Blk.put4 {w : World} {g : Nat} {e : TypeId} {cur : Array Value} (h : Blk w g e cur) (k : Nat) (f : Fib) :
    Blk ((((w.setCell ⟨g, k * 4, none⟩ (.int .i64 f.a)).setCell ⟨g, k * 4 + 1, none⟩ (.int .i64 f.b)).setCell ⟨g, k * 4 + 2, none⟩ (.int .i64 f.len)).setCell ⟨g, k * 4 + 3, none⟩ (.int .i64 f.risk)) g e (put4 cur k f) :=
  (((h.set _ _).set _ _).set _ _).set _ _
end Go.Proofs.Ytdnmkcalpfkfhaa
