/- Lists of numbers, and a fiber, that came in. Conditions: none. -/
import Derived.Test.YtdnmkcalpfkfhaaOpenN
namespace Go.Proofs.Ytdnmkcalpfkfhaa
open Go.RowKit
section
variable {H : Type} {enc : TypeId × Value → H} {W : World} {spare : Nat → Bool} {held : Bool}
/-- A list of numbers that came in. -/
def IntsArg (W : World) (A : Option Addr) (n c : Nat) (xs : List Int) : Prop := SlArg elInt W A n c xs (fun a => -9223372036854775808 ≤ a ∧ a ≤ 9223372036854775807)
set_option maxRecDepth 100000 in
theorem open_ints {base : Nat} {v : Value} {d : DataW H} {p : List MemPlace} (hv : Value.okWide Try.prog W .any base 26 v) (h : DataW.Trod enc Try.prog W 0 spare held 26 v d p) :
    ∃ A n c xs, v = .slice A n c ∧ IntsArg W A n c xs :=
  open_sl_val elInt _ Try.underlying26 cellsI (el_int Try.underlying3) hv h
end
end Go.Proofs.Ytdnmkcalpfkfhaa
