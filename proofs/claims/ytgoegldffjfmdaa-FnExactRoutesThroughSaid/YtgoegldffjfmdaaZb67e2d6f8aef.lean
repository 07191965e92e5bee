/- FnExactRoutesThrough: the routes that use some fibers; memory that was there reads as it did. Conditions: none. -/
import Derived.Test.YtgoegldffjfmdaaRows
import Derived.Test.YtgoegldffjfmdaaZb72206116fe6
import Derived.Test.YtgoegldffjfmdaaZ30c26adfc633

namespace Go.Proofs.Ytgoegldffjfmdaa.fnExactRoutesThrough
open Go.ChangeShapes Go.WideShapes Go.ChangeAt Go.RowKit Go.Deep
open Go.ChangeMaps (open_string shut_string)
theorem own : ownKnob Try.prog.godebug = none := by kernel_rfl
theorem laidOut : laidOutB Try.prog = true := by kernel_rfl
theorem reads : Try.f5.params.toList.all (fun t => Try.prog.readableRec t && decide (t < Try.prog.types.size)) = true := by kernel_rfl
theorem plain {H : Type} (ds : List (DataW H)) (h : ds.length = Try.f5.params.toList.length) : (Rows.fnExactRoutesThroughSpec.fn H ds).results = [.lit (.bool true)] ∧ (Rows.fnExactRoutesThroughSpec.fn H ds).args = ds ∧ (Rows.fnExactRoutesThroughSpec.fn H ds).vars = [] := by
  rw [Try.params5] at h
  match ds, h with
  | [d0, d1, d2], _ => exact ⟨rfl, rfl, rfl⟩
set_option maxRecDepth 100000 in
theorem lifted (os : Os) (started : os.Started) (H : Type) (enc : TypeId × Value → H) :
    ReturnsInHanded {} Try.checked os 5 .any (Rows.fnExactRoutesThroughSpec.pre6 enc Try.prog Try.f5 Rows.fnExactRoutesThroughRow.domain false) (Rows.fnExactRoutesThroughSpec.post enc Try.prog Try.f5 false true false false) := by
  refine returnsInHanded_of_change (C := Try.checked) own started (by kernel_rfl) Try.func5
    (ChangeSpec.witness6 (enc := enc) (C := Try.checked) false ⟨#[], #[.agg #[.slice none 0 0, .slice none 0 0], .slice none 0 0, .slice none 0 0], []⟩ 8 (by kernel_rfl) (by kernel_rfl) (by kernel_rfl) (by kernel_rfl)) ?_
  intro W base args ds gs before hval0 hW _ _
  have hval : ∀ (j : Nat) t v, Try.f5.params[j]? = some t → args[j]? = some v → Value.okWide Try.prog W .any base t v := hval0
  refine law_contract (P := Try.prog) laidOut reads rfl Try.underlying4 rfl plain W args ds gs before hW (fun p hA => ?_)
  clear hval0 hW
  rw [Try.params5] at hA hval
  obtain ⟨v0, vs0, d0, ds0, p0, q0, hargs, rfl, rfl, h0, r0⟩ := trodAll_cons hA
  obtain ⟨v1, vs1, d1, ds1, p1, q1, rfl, rfl, rfl, h1, r1⟩ := trodAll_cons r0
  obtain ⟨v2, vs2, d2, ds2, p2, q2, rfl, rfl, rfl, h2, r2⟩ := trodAll_cons r1
  obtain ⟨rfl, rfl, rfl⟩ := trodAll_nil r2
  obtain rfl : args = #[v0, v1, v2] := by cases args; simp_all
  obtain ⟨A0, n0, c0, B0, m0, e0, x0, y0, rfl, hs0⟩ := open_net (hval 0 25 v0 rfl rfl) h0
  obtain ⟨A1, n1, c1, s1, x1, rfl, hs1⟩ := open_routes (hval 1 41 v1 rfl rfl) h1
  obtain ⟨A2, n2, c2, x2, rfl, hs2⟩ := open_ints (hval 2 27 v2 rfl rfl) h2
  exact walk W hs0 hs1 hs2
theorem proved : Rows.FnExactRoutesThroughSaid :=
  OpenClaim.holds_of_wide 5 Try.f5 rfl rfl rfl rfl rfl rfl rfl ⟨rfl, rfl, rfl, rfl, rfl⟩ rfl rfl rfl rfl rfl (by kernel_rfl) Try.func5 (by kernel_rfl)
    (of_decide_eq_true (by kernel_rfl)) (by unfold Func.isWrapper; first | (rw [if_pos (by decide +kernel)]; kernel_rfl) | (rw [if_neg (by decide +kernel)]; exact ⟨rfl, rfl⟩))
    (fun os started H enc _ => lifted os started H enc)
#print axioms proved
end Go.Proofs.Ytgoegldffjfmdaa.fnExactRoutesThrough
