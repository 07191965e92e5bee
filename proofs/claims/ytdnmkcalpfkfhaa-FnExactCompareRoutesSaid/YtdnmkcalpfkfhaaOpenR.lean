/- A route that came in. Conditions: none. -/
import Derived.Test.YtdnmkcalpfkfhaaOpenI
namespace Go.Proofs.Ytdnmkcalpfkfhaa
open Go.ChangeShapes Go.WideShapes Go.ChangeAt Go.RowKit Go.Deep Go.Joins
section
variable {H : Type} {enc : TypeId × Value → H} {W : World} {spare : Nat → Bool} {held : Bool}
theorem cellsR : Try.prog.cellsOf 28 = 2 := by kernel_rfl
/-- A route that came in. -/
def RouteArg (W : World) (s : Int) (A : Option Addr) (n c : Nat) (xs : List Int) : Prop := (-9223372036854775808 ≤ s ∧ s ≤ 9223372036854775807) ∧ IntsArg W A n c xs
set_option maxRecDepth 100000 in
theorem open_route {base : Nat} {v : Value} {d : DataW H} {p : List MemPlace} (hv : Value.okWide Try.prog W .any base 28 v) (h : DataW.Trod enc Try.prog W 0 spare held 28 v d p) :
    ∃ s A n c xs, v = .agg #[.int .i64 s, .slice A n c] ∧ RouteArg W s A n c xs := by
  obtain ⟨v0, v1, y0, y1, k, rfl, _, _, h0, h1⟩ := open_agg2 Try.underlying28 (by kernel_rfl) cellsR hv h
  obtain ⟨s, e0, hs⟩ := el_int Try.underlying3 _ _ _ h0
  obtain ⟨A, n, c, xs, e1, b1, b2, b3, b4⟩ := open_sl elInt _ Try.underlying26 cellsI (el_int Try.underlying3) h1
  simp [elInt] at e0 e1
  exact ⟨s, A, n, c, xs, by rw [e0, e1], hs, ⟨b1, b2, b3, b4⟩⟩
end
end Go.Proofs.Ytdnmkcalpfkfhaa
