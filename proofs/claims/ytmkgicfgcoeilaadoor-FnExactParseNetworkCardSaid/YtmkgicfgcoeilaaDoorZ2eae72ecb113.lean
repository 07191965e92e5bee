/- FnExactParseNetwork, the tied card: the law returns true at every input; memory that was there reads as it did. Conditions: the listed tables of the library read as the program lays them, which the card ties to its text. -/
import Derived.Test.YtmkgicfgcoeilaaDoorCards
import Derived.Test.YtmkgicfgcoeilaaDoorTie
import Derived.Test.YtmkgicfgcoeilaaDoorZe4137382bf2f
import Derived.Test.YtmkgicfgcoeilaaDoorZb454307f9e42
import Derived.Test.YtmkgicfgcoeilaaDoorZdb50fc3d8a8d
import Derived.Deep.DeepHandedRow
import Derived.Deep.DeepWitnessRowRef
import Derived.LaidMore
import Derived.Lib.LaidTab
import Derived.Stop.LaidErr
import Derived.Lay

namespace Go.Proofs.YtmkgicfgcoeilaaDoor.fnExactParseNetwork
open Go.ChangeShapes Go.WideShapes Go.ChangeAt Go.RowKit Go.Deep
open Go.ChangeMaps (open_string shut_string)
theorem own : ownKnob Tryd.prog.godebug = none := by kernel_rfl
theorem laidOut : laidOutB Tryd.prog = true := by kernel_rfl
theorem reads : Tryd.f3.params.toList.all (fun t => Tryd.prog.readableRec t && decide (t < Tryd.prog.types.size)) = true := by kernel_rfl
theorem plain {H : Type} (ds : List (DataW H)) (h : ds.length = Tryd.f3.params.toList.length) : (Rows.fnExactParseNetworkSpec.fn H ds).results = [.lit (.bool true)] ∧ (Rows.fnExactParseNetworkSpec.fn H ds).args = ds ∧ (Rows.fnExactParseNetworkSpec.fn H ds).vars = [] := by
  rw [Tryd.params3] at h
  match ds, h with
  | [d0], _ => exact ⟨rfl, rfl, rfl⟩
theorem met {W : World} (h : laidMetH Tryd.prog Rows.fnExactParseNetworkRow.laid W) : laidMet Tryd.prog Rows.fnExactParseNetworkRow.laid W := by
  rw [MakeChecks.laidMetH_plain _ _ _ (by kernel_rfl)] at h
  exact h
theorem tab {W : World} (h : laidMetH Tryd.prog Rows.fnExactParseNetworkRow.laid W) : Tab W := tab_of_laid (met h)
theorem laid_met (os : Os) : laidMet Tryd.prog Rows.fnExactParseNetworkRow.laid (((World.laidAll Tryd.prog os Rows.fnExactParseNetworkRow.laid)).forCall (fun _ _ => 0) ⟨#[], #[Value.string ByteArray.empty], []⟩).memory :=
  laidMet_laidAll _ (by kernel_rfl) (by kernel_rfl)
theorem reads0 (os : Os) {H : Type} (enc : TypeId × Value → H) : ∃ places, DataW.whole enc Tryd.prog (((World.laidAll Tryd.prog os Rows.fnExactParseNetworkRow.laid)).forCall (fun _ _ => 0) ⟨#[], #[Value.string ByteArray.empty], []⟩).memory Tryd.f3.params.toList Rows.fnExactParseNetworkSpec.vars false (#[Value.string ByteArray.empty]).toList 8 = some ([.lit (.string [])], [], places) :=
  ⟨[], by kernel_rfl⟩
set_option maxRecDepth 100000 in
theorem lifted (os : Os) (started : os.Started) (H : Type) (enc : TypeId × Value → H) (F : Stop.Interp) :
    ReturnsInHanded {} Tryd.checked os 3 .any ((OpenSpec.ofChange Rows.fnExactParseNetworkSpec).preRow enc Tryd.prog Tryd.f3 Rows.fnExactParseNetworkRow.domain false Rows.fnExactParseNetworkRow.laid) (((OpenSpec.ofChange Rows.fnExactParseNetworkSpec).at F).post enc Tryd.prog Tryd.f3 false true false false) := by
  obtain ⟨places, hx⟩ := reads0 os enc
  refine returnsInHanded_of_row (C := Tryd.checked) (s := OpenSpec.ofChange Rows.fnExactParseNetworkSpec) own started (by kernel_rfl) Tryd.func3
    (witness_row_atRef (enc := enc) (C := Tryd.checked) false (World.laidAll Tryd.prog os Rows.fnExactParseNetworkRow.laid) #[Value.string ByteArray.empty] (World.laidAll_os _ _ _) (by kernel_rfl) (by kernel_rfl) (by kernel_rfl)
      (OpenSpec.preRow_of_cond 8 hx (by kernel_rfl) (fun k hk => by cases hk) (by kernel_rfl) (laid_met os))) ?_
  intro W base args ds gs before hval0 hW _ _ _ hL hSh _
  have hval : ∀ (j : Nat) t v, Tryd.f3.params[j]? = some t → args[j]? = some v → Value.okWide Tryd.prog W .any base t v := hval0
  have hT := tab hL
  have hE := sent_of_laid6 (met hL)
  refine law_contract (P := Tryd.prog) laidOut reads rfl Tryd.underlying4 rfl plain W args ds gs before hW (fun p hA => ?_)
  clear hval0 hW
  rw [Tryd.params3] at hA hval
  obtain ⟨v0, vs0, d0, ds0, p0, q0, hargs, rfl, rfl, h0, r0⟩ := trodAll_cons hA
  obtain ⟨rfl, rfl, rfl⟩ := trodAll_nil r0
  obtain rfl : args = #[v0] := by cases args; simp_all
  obtain ⟨a0, rfl, _, _, w0⟩ := open_string Tryd.underlying9 (hval 0 9 v0 rfl rfl) h0
  exact fnExactParseNetwork.walk W w0 hT hE (mx_of_shape hSh)
theorem said : Rows.FnExactParseNetworkSaid :=
  OpenClaim.holds_of_cond 3 Tryd.f3 rfl rfl rfl rfl rfl rfl rfl ⟨rfl, rfl, rfl, rfl, rfl⟩ rfl rfl rfl rfl rfl (by kernel_rfl) Tryd.func3 (by kernel_rfl)
    (of_decide_eq_true (by kernel_rfl)) (by unfold Func.isWrapper; first | (rw [if_pos (by decide +kernel)]; kernel_rfl) | (rw [if_neg (by decide +kernel)]; exact ⟨rfl, rfl⟩))
    (fun os started H enc _ F => by rw [OpenClaim.pre_eq_preRow]; exact lifted os started H enc F)
theorem plain7 (f : FuncId) (fn : Func) (hf : Tryd.pinned.checked.prog.funcNamed Rows.fnExactParseNetworkRow.func = some f) (hfn : Tryd.pinned.checked.prog.funcs[f]? = some fn) :
    true = Tryd.pinned.checked.prog.looks [] ∧ ∀ (j : Nat) t, fn.params[j]? = some t → Tryd.pinned.checked.prog.wantsStandIn t = false := by
  obtain rfl : f = 3 := Option.some.inj ((show Tryd.prog.funcNamed Rows.fnExactParseNetworkRow.func = some 3 by kernel_rfl).symm.trans hf) |>.symm
  obtain rfl : fn = Tryd.f3 := (Option.some.inj (Tryd.func3.symm.trans hfn)).symm
  refine ⟨by kernel_rfl, fun j t ht => ?_⟩
  rw [Tryd.params3] at ht
  have hm := List.mem_of_getElem? (l := [9]) (by simpa using ht)
  have hall : ([9].all fun u => !Tryd.prog.wantsStandIn u) = true := by kernel_rfl
  exact (show Tryd.prog.wantsStandIn t = false by simpa using List.all_eq_true.1 hall t hm)
theorem proved : Rows.FnExactParseNetworkCardSaid :=
  Claim7.holds_tied_plain_at .later [] _ _ _ _ said (fun _ h => by cases h) (by kernel_rfl) (fun _ h => by cases h) fnExactParseNetwork_row_tie rfl ⟨rfl, rfl⟩ (by kernel_rfl) rfl plain7 (by kernel_rfl)
#print axioms proved
end Go.Proofs.YtmkgicfgcoeilaaDoor.fnExactParseNetwork
