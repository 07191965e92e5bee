/- eqIntSS, walked. Conditions: at most 1048576 rows and numbers in a row. -/
import Derived.Test.YtdnmkcalpfkfhaaRows
import Derived.Test.YtdnmkcalpfkfhaaSs
import Derived.Test.YtdnmkcalpfkfhaaNet1
namespace Go.Proofs.Ytdnmkcalpfkfhaa
open Go.RowKit
/-- Rows of numbers as they read. -/
def SeesSS (w : World) (A : Option Addr) (n : Nat) (ss : List Sl) (rows : List (List Int)) : Prop :=
  Sees elSl w w.heap.size A n ss ∧ ss.length = rows.length ∧ ∀ (i : Nat) s r, ss[i]? = some s → rows[i]? = some r → s.n = r.length ∧ Sees elInt w w.heap.size s.A s.n r
theorem OwnsSS.sees {w : World} {base n c : Nat} {A : Option Addr} {ss : List Sl} {rows : List (List Int)} (h : OwnsSS w base (.slice A n c) ss rows) : SeesSS w A ss.length ss rows := by
  refine ⟨h.1.sees, h.2.1, fun i s r h1 h2 => ?_⟩
  have ho := h.2.2.1 i s r h1 h2
  obtain ⟨A', c', hv, _, _, hs⟩ := ho.form
  unfold slV at hv
  injection hv with e1 e2 e3
  exact ⟨e2, by rw [e1, e2]; exact hs⟩
theorem SeesSS.grow {w w' : World} {A : Option Addr} {n : Nat} {ss : List Sl} {rows : List (List Int)} (h : SeesSS w A n ss rows) (hb : Below w.heap.size w w') : SeesSS w' A n ss rows :=
  ⟨(h.1.grow hb).more hb.size, h.2.1, fun i s r h1 h2 => ⟨(h.2.2 i s r h1 h2).1, ((h.2.2 i s r h1 h2).2.grow hb).more hb.size⟩⟩
end Go.Proofs.Ytdnmkcalpfkfhaa
