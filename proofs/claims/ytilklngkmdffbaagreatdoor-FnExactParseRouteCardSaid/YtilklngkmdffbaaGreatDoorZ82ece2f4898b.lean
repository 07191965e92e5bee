/- FnExactParseRoute, the tied card: the law returns true at every input; memory that was there reads as it did. Conditions: the listed tables of the library read as the program lays them, which the card ties to its text. -/
import Derived.Test.YtilklngkmdffbaaGreatDoorCards
import Derived.Test.YtilklngkmdffbaaGreatDoorTie
import Derived.Test.YtilklngkmdffbaaGreatDoorZdbe13c27a004
import Derived.Test.YtilklngkmdffbaaGreatDoorZdbc901ec01f5
import Derived.Test.YtilklngkmdffbaaGreatDoorZde3d1906e502
import Derived.Deep.DeepHandedRow
import Derived.Deep.DeepWitnessRowRef
import Derived.LaidMore
import Derived.Lib.LaidTab
import Derived.Stop.LaidErr
import Derived.Lay

namespace Go.Proofs.YtilklngkmdffbaaGreatDoor.fnExactParseRoute
open Go.ChangeShapes Go.WideShapes Go.ChangeAt Go.RowKit Go.Deep
open Go.ChangeMaps (open_string shut_string)
theorem own : ownKnob Tryz.prog.godebug = none := by kernel_rfl
theorem laidOut : laidOutB Tryz.prog = true := by kernel_rfl
theorem reads : Tryz.f3.params.toList.all (fun t => Tryz.prog.readableRec t && decide (t < Tryz.prog.types.size)) = true := by kernel_rfl
theorem plain {H : Type} (ds : List (DataW H)) (h : ds.length = Tryz.f3.params.toList.length) : (Rows.fnExactParseRouteSpec.fn H ds).results = [.lit (.bool true)] ∧ (Rows.fnExactParseRouteSpec.fn H ds).args = ds ∧ (Rows.fnExactParseRouteSpec.fn H ds).vars = [] := by
  rw [Tryz.params3] at h
  match ds, h with
  | [d0, d1], _ => exact ⟨rfl, rfl, rfl⟩
theorem met {W : World} (h : laidMetH Tryz.prog Rows.fnExactParseRouteRow.laid W) : laidMet Tryz.prog Rows.fnExactParseRouteRow.laid W := by
  rw [MakeChecks.laidMetH_plain _ _ _ (by kernel_rfl)] at h
  exact h
theorem tab {W : World} (h : laidMetH Tryz.prog Rows.fnExactParseRouteRow.laid W) : Tab W := tab_of_laid (met h)
theorem laid_met (os : Os) : laidMet Tryz.prog Rows.fnExactParseRouteRow.laid (((World.laidAll Tryz.prog os Rows.fnExactParseRouteRow.laid)).forCall (fun _ _ => 0) ⟨#[], #[Value.agg #[.slice none 0 0, .slice none 0 0], .string ByteArray.empty], []⟩).memory :=
  laidMet_laidAll _ (by kernel_rfl) (by kernel_rfl)
theorem reads0 (os : Os) {H : Type} (enc : TypeId × Value → H) : ∃ places, DataW.whole enc Tryz.prog (((World.laidAll Tryz.prog os Rows.fnExactParseRouteRow.laid)).forCall (fun _ _ => 0) ⟨#[], #[Value.agg #[.slice none 0 0, .slice none 0 0], .string ByteArray.empty], []⟩).memory Tryz.f3.params.toList Rows.fnExactParseRouteSpec.vars false (#[Value.agg #[.slice none 0 0, .slice none 0 0], .string ByteArray.empty]).toList 8 = some ([.agg [.nil, .nil], .lit (.string [])], [], places) :=
  ⟨[], by kernel_rfl⟩
set_option maxRecDepth 100000 in
theorem lifted (os : Os) (started : os.Started) (H : Type) (enc : TypeId × Value → H) (F : Stop.Interp) :
    ReturnsInHanded {} Tryz.checked os 3 .any ((OpenSpec.ofChange Rows.fnExactParseRouteSpec).preRow enc Tryz.prog Tryz.f3 Rows.fnExactParseRouteRow.domain false Rows.fnExactParseRouteRow.laid) (((OpenSpec.ofChange Rows.fnExactParseRouteSpec).at F).post enc Tryz.prog Tryz.f3 false true false false) := by
  obtain ⟨places, hx⟩ := reads0 os enc
  refine returnsInHanded_of_row (C := Tryz.checked) (s := OpenSpec.ofChange Rows.fnExactParseRouteSpec) own started (by kernel_rfl) Tryz.func3
    (witness_row_atRef (enc := enc) (C := Tryz.checked) false (World.laidAll Tryz.prog os Rows.fnExactParseRouteRow.laid) #[Value.agg #[.slice none 0 0, .slice none 0 0], .string ByteArray.empty] (World.laidAll_os _ _ _) (by kernel_rfl) (by kernel_rfl) (by kernel_rfl)
      (OpenSpec.preRow_of_cond 8 hx (by kernel_rfl) (fun k hk => by cases hk) (by kernel_rfl) (laid_met os))) ?_
  intro W base args ds gs before hval0 hW _ _ _ hL hSh _
  have hval : ∀ (j : Nat) t v, Tryz.f3.params[j]? = some t → args[j]? = some v → Value.okWide Tryz.prog W .any base t v := hval0
  have hT := tab hL
  have hE := sent_of_laid6 (met hL)
  refine law_contract (P := Tryz.prog) laidOut reads rfl Tryz.underlying4 rfl plain W args ds gs before hW (fun p hA => ?_)
  clear hval0 hW
  rw [Tryz.params3] at hA hval
  obtain ⟨v0, vs0, d0, ds0, p0, q0, hargs, rfl, rfl, h0, r0⟩ := trodAll_cons hA
  obtain ⟨v1, vs1, d1, ds1, p1, q1, rfl, rfl, rfl, h1, r1⟩ := trodAll_cons r0
  obtain ⟨rfl, rfl, rfl⟩ := trodAll_nil r1
  obtain rfl : args = #[v0, v1] := by cases args; simp_all
  obtain ⟨A0, n0, c0, B0, m0, e0, x0, y0, rfl, w0⟩ := open_net (hval 0 25 v0 rfl rfl) h0
  obtain ⟨a1, rfl, _, _, w1⟩ := open_string Tryz.underlying9 (hval 1 9 v1 rfl rfl) h1
  exact fnExactParseRoute.walk W w0 w1 hT hE (mx_of_shape hSh)
theorem said : Rows.FnExactParseRouteSaid :=
  OpenClaim.holds_of_cond 3 Tryz.f3 rfl rfl rfl rfl rfl rfl rfl ⟨rfl, rfl, rfl, rfl, rfl⟩ rfl rfl rfl rfl rfl (by kernel_rfl) Tryz.func3 (by kernel_rfl)
    (of_decide_eq_true (by kernel_rfl)) (by unfold Func.isWrapper; first | (rw [if_pos (by decide +kernel)]; kernel_rfl) | (rw [if_neg (by decide +kernel)]; exact ⟨rfl, rfl⟩))
    (fun os started H enc _ F => by rw [OpenClaim.pre_eq_preRow]; exact lifted os started H enc F)
theorem plain7 (f : FuncId) (fn : Func) (hf : Tryz.pinned.checked.prog.funcNamed Rows.fnExactParseRouteRow.func = some f) (hfn : Tryz.pinned.checked.prog.funcs[f]? = some fn) :
    true = Tryz.pinned.checked.prog.looks [] ∧ ∀ (j : Nat) t, fn.params[j]? = some t → Tryz.pinned.checked.prog.wantsStandIn t = false := by
  obtain rfl : f = 3 := Option.some.inj ((show Tryz.prog.funcNamed Rows.fnExactParseRouteRow.func = some 3 by kernel_rfl).symm.trans hf) |>.symm
  obtain rfl : fn = Tryz.f3 := (Option.some.inj (Tryz.func3.symm.trans hfn)).symm
  refine ⟨by kernel_rfl, fun j t ht => ?_⟩
  rw [Tryz.params3] at ht
  have hm := List.mem_of_getElem? (l := [25, 9]) (by simpa using ht)
  have hall : ([25, 9].all fun u => !Tryz.prog.wantsStandIn u) = true := by kernel_rfl
  exact (show Tryz.prog.wantsStandIn t = false by simpa using List.all_eq_true.1 hall t hm)
theorem proved : Rows.FnExactParseRouteCardSaid :=
  Claim7.holds_tied_plain_at .later [] _ _ _ _ said (fun _ h => by cases h) (by kernel_rfl) (fun _ h => by cases h) fnExactParseRoute_row_tie rfl ⟨rfl, rfl⟩ (by kernel_rfl) rfl plain7 (by kernel_rfl)
#print axioms proved
end Go.Proofs.YtilklngkmdffbaaGreatDoor.fnExactParseRoute
