/- A network in memory, under one word; its two looks under that word. Conditions: none. -/
import Derived.Test.YtdnmkcalpfkfhaaNet2
import Derived.Test.YtdnmkcalpfkfhaaNet4
import Derived.Test.YtdnmkcalpfkfhaaToN
namespace Go.Proofs.Ytdnmkcalpfkfhaa
open Go.RowKit
/-- The value is a network that shows the names xs and the fibers fs. -/
def NetIs (w : World) (A : Option Addr) (n c : Nat) (A' : Option Addr) (m d : Nat) (xs : List ByteArray) (fs : List Fib) : Prop :=
  (n ≤ c ∧ n ≤ 1048576) ∧ (m ≤ d ∧ m ≤ 1048576) ∧ Sees elStr w w.heap.size A n xs ∧ Sees elFib w w.heap.size A' m fs ∧ ∀ x ∈ xs, x.size ≤ maxLen
section
variable {w w' : World} {n c m d : Nat} {A A' : Option Addr} {xs : List ByteArray} {fs : List Fib}
theorem NetIs.grow (h : NetIs w A n c A' m d xs fs) (hb : Below w.heap.size w w') : NetIs w' A n c A' m d xs fs :=
  ⟨h.1, h.2.1, (h.2.2.1.grow hb).more hb.size, (h.2.2.2.1.grow hb).more hb.size, h.2.2.2.2⟩
theorem NetIs.strs (h : NetIs w A n c A' m d xs fs) : Sees elStr w w.heap.size A n xs := h.2.2.1
theorem NetIs.fibs (h : NetIs w A n c A' m d xs fs) : Sees elFib w w.heap.size A' m fs := h.2.2.2.1
theorem NetIs.nle (h : NetIs w A n c A' m d xs fs) : n ≤ 1048576 := h.1.2
theorem NetIs.mle (h : NetIs w A n c A' m d xs fs) : m ≤ 1048576 := h.2.1.2
theorem NetIs.xlen (h : NetIs w A n c A' m d xs fs) : xs.length = n := h.2.2.1.len
theorem NetIs.flen (h : NetIs w A n c A' m d xs fs) : fs.length = m := h.2.2.2.1.len
theorem NetOwn.is {base : Nat} (h : NetOwn w base A n c A' m d xs fs) (hn : n ≤ 1048576) (hm : m ≤ 1048576) (hx : ∀ x ∈ xs, x.size ≤ maxLen) : NetIs w A n c A' m d xs fs :=
  ⟨⟨h.1, hn⟩, ⟨h.2.2.1, hm⟩, h.strs, h.fibs, hx⟩
end
theorem validN {n c m d : Nat} {A A' : Option Addr} {xs : List ByteArray} {fs : List Fib} (w : World) (h : NetIs w A n c A' m d xs fs) :
    Calls Try.prog 61 #[.agg #[.slice A n c, .slice A' m d]] w fun e w' => e = .returned (.bool (goodB xs fs)) ∧ Below w.heap.size w w' :=
  isValid_any w h.strs h.fibs (Nat.le_refl _) h.nle h.mle h.1.1 h.2.1.1 h.2.2.2.2
theorem goodN {n c m d : Nat} {A A' : Option Addr} {xs : List ByteArray} {fs : List Fib} (w : World) (h : NetIs w A n c A' m d xs fs) :
    Calls Try.prog 102 #[.agg #[.slice A n c, .slice A' m d]] w fun e w' => e = .returned (.bool (goodB xs fs)) ∧ Below w.heap.size w w' :=
  l2Good_any w h.strs h.fibs (Nat.le_refl _) h.nle h.mle h.2.2.2.2
theorem goodB_bd {xs : List ByteArray} {fs : List Fib} (h : goodB xs fs = true) : 2 ≤ xs.length ∧ xs.length ≤ 8 ∧ fs.length ≤ 14 := by
  unfold goodB at h; simp at h; omega
theorem goodB_fibB {xs : List ByteArray} {fs : List Fib} (h : goodB xs fs = true) {f : Fib} (hf : f ∈ fs) : fibB xs.length f = true := by
  obtain ⟨k, hk, e⟩ := List.mem_iff_getElem.1 hf
  unfold goodB at h
  rw [Bool.and_eq_true] at h
  have := allB_iff.1 h.2 k hk
  unfold fibAt at this
  rw [Bool.and_eq_true, getD_of (x := f) (by rw [List.getElem?_eq_getElem hk, e])] at this
  exact this.1
end Go.Proofs.Ytdnmkcalpfkfhaa
