/-
  No cell of these rows narrows 'for every input' (looked for: loops, veiled, ifaces, maps, wideKeys, modest, calm, conditions, laid).
  DERIVED. THE GIVEN ROWS OF THIS SEAT. 12 by the template 'for every input the law returns true; each argument reads behind the call as it read before'; 0 by the template 'total and deterministic' (their statements: YtjklphlgmlomjaaTotals.lean).
  GIVEN WITH THE SEED: the statements are not yours to turn. If you find one false, say at which input.
  Laid BY PROGRAM, IN A SANDBOX (cutbox-rows.mjs): the forced cells as the released guide's own fill.sh prints them over the translation f0f79679ce4831fc… (all of the seat's roots in one cut). By AI agents, Wed Nov 11 2026. No macro, syntax, notation, axiom, sorry.
-/
import Derived.Test.YtjklphlgmlomjaaChecked
import GoSem.Claim
import GoSem.ClaimJoined
import GoSem.ClaimMapViews
import Derived.JoinedTies
import Derived.KernelRfl
namespace Go.Proofs.Ytjklphlgmlomjaa
/- THE CELL 'sum', in the pinned program and in every row, IS THE sha256 OF THE DUMP (.gsa) THAT YtjklphlgmlomjaaProg.lean LOADS. Nothing in Lean hashes anything: it is a label: what it is worth is what the hold of that sum in a sandbox is worth. -/
noncomputable def Try.pinned : Pinned := { name := "ytjklphlgmlomjaa", sum := "f0f79679ce4831fc0491aae47de7f41044a2265fcfe7dbdbf4f3540ded141237", checked := Try.checked }
namespace Rows
def none {H : Type} : Left H := { results := [], args := [] }

/-- 'laws.FnExactAreDisjoint': WHATEVER THE INPUT: true; the input reads as it did. -/
def fnExactAreDisjointSpec : ChangeSpec := { name := "fnExactAreDisjoint", fn := fun _ => fun
  | [d1, d2, d3, d4] => { results := [.lit (.bool true)], args := [d1, d2, d3, d4] }
  | _ => none }
def fnExactAreDisjointRow : OpenClaim := { program := "ytjklphlgmlomjaa", sum := "f0f79679ce4831fc0491aae47de7f41044a2265fcfe7dbdbf4f3540ded141237", func := "loop.example/g00897/laws.FnExactAreDisjoint", spec := "fnExactAreDisjoint", unfollowed := true, recurses := true, apart := false }
def FnExactAreDisjointSaid : Prop := fnExactAreDisjointRow.holds Try.pinned (OpenSpec.ofChange fnExactAreDisjointSpec)

/-- ITS FALSE NEIGHBOUR: 'it returns false'. Refute it at one input. -/
def fnExactAreDisjointWrong : ChangeSpec := { name := "fnExactAreDisjoint", fn := fun _ => fun
  | [d1, d2, d3, d4] => { results := [.lit (.bool false)], args := [d1, d2, d3, d4] }
  | _ => none }
def FnExactAreDisjointWrongFalsely : Prop := fnExactAreDisjointRow.holds Try.pinned (OpenSpec.ofChange fnExactAreDisjointWrong)

/-- 'laws.FnExactReverseRoute': WHATEVER THE INPUT: true; the input reads as it did. -/
def fnExactReverseRouteSpec : ChangeSpec := { name := "fnExactReverseRoute", fn := fun _ => fun
  | [d1, d2] => { results := [.lit (.bool true)], args := [d1, d2] }
  | _ => none }
def fnExactReverseRouteRow : OpenClaim := { program := "ytjklphlgmlomjaa", sum := "f0f79679ce4831fc0491aae47de7f41044a2265fcfe7dbdbf4f3540ded141237", func := "loop.example/g00897/laws.FnExactReverseRoute", spec := "fnExactReverseRoute", apart := false }
def FnExactReverseRouteSaid : Prop := fnExactReverseRouteRow.holds Try.pinned (OpenSpec.ofChange fnExactReverseRouteSpec)

/-- ITS FALSE NEIGHBOUR: 'it returns false'. Refute it at one input. -/
def fnExactReverseRouteWrong : ChangeSpec := { name := "fnExactReverseRoute", fn := fun _ => fun
  | [d1, d2] => { results := [.lit (.bool false)], args := [d1, d2] }
  | _ => none }
def FnExactReverseRouteWrongFalsely : Prop := fnExactReverseRouteRow.holds Try.pinned (OpenSpec.ofChange fnExactReverseRouteWrong)

/-- 'laws.FnExactJoinRoutes': WHATEVER THE INPUT: true; the input reads as it did. -/
def fnExactJoinRoutesSpec : ChangeSpec := { name := "fnExactJoinRoutes", fn := fun _ => fun
  | [d1, d2, d3] => { results := [.lit (.bool true)], args := [d1, d2, d3] }
  | _ => none }
def fnExactJoinRoutesRow : OpenClaim := { program := "ytjklphlgmlomjaa", sum := "f0f79679ce4831fc0491aae47de7f41044a2265fcfe7dbdbf4f3540ded141237", func := "loop.example/g00897/laws.FnExactJoinRoutes", spec := "fnExactJoinRoutes", apart := false }
def FnExactJoinRoutesSaid : Prop := fnExactJoinRoutesRow.holds Try.pinned (OpenSpec.ofChange fnExactJoinRoutesSpec)

/-- ITS FALSE NEIGHBOUR: 'it returns false'. Refute it at one input. -/
def fnExactJoinRoutesWrong : ChangeSpec := { name := "fnExactJoinRoutes", fn := fun _ => fun
  | [d1, d2, d3] => { results := [.lit (.bool false)], args := [d1, d2, d3] }
  | _ => none }
def FnExactJoinRoutesWrongFalsely : Prop := fnExactJoinRoutesRow.holds Try.pinned (OpenSpec.ofChange fnExactJoinRoutesWrong)

/-- 'laws.FnExactBridges': WHATEVER THE INPUT: true; the input reads as it did. -/
def fnExactBridgesSpec : ChangeSpec := { name := "fnExactBridges", fn := fun _ => fun
  | [d] => { results := [.lit (.bool true)], args := [d] }
  | _ => none }
def fnExactBridgesRow : OpenClaim := { program := "ytjklphlgmlomjaa", sum := "f0f79679ce4831fc0491aae47de7f41044a2265fcfe7dbdbf4f3540ded141237", func := "loop.example/g00897/laws.FnExactBridges", spec := "fnExactBridges", apart := false }
def FnExactBridgesSaid : Prop := fnExactBridgesRow.holds Try.pinned (OpenSpec.ofChange fnExactBridgesSpec)

/-- ITS FALSE NEIGHBOUR: 'it returns false'. Refute it at one input. -/
def fnExactBridgesWrong : ChangeSpec := { name := "fnExactBridges", fn := fun _ => fun
  | [d] => { results := [.lit (.bool false)], args := [d] }
  | _ => none }
def FnExactBridgesWrongFalsely : Prop := fnExactBridgesRow.holds Try.pinned (OpenSpec.ofChange fnExactBridgesWrong)

/-- 'laws.FnExactCutNodes': WHATEVER THE INPUT: true; the input reads as it did. -/
def fnExactCutNodesSpec : ChangeSpec := { name := "fnExactCutNodes", fn := fun _ => fun
  | [d] => { results := [.lit (.bool true)], args := [d] }
  | _ => none }
def fnExactCutNodesRow : OpenClaim := { program := "ytjklphlgmlomjaa", sum := "f0f79679ce4831fc0491aae47de7f41044a2265fcfe7dbdbf4f3540ded141237", func := "loop.example/g00897/laws.FnExactCutNodes", spec := "fnExactCutNodes", apart := false }
def FnExactCutNodesSaid : Prop := fnExactCutNodesRow.holds Try.pinned (OpenSpec.ofChange fnExactCutNodesSpec)

/-- ITS FALSE NEIGHBOUR: 'it returns false'. Refute it at one input. -/
def fnExactCutNodesWrong : ChangeSpec := { name := "fnExactCutNodes", fn := fun _ => fun
  | [d] => { results := [.lit (.bool false)], args := [d] }
  | _ => none }
def FnExactCutNodesWrongFalsely : Prop := fnExactCutNodesRow.holds Try.pinned (OpenSpec.ofChange fnExactCutNodesWrong)

/-- 'laws.FnExactCriticalGroups': WHATEVER THE INPUT: true; the input reads as it did. -/
def fnExactCriticalGroupsSpec : ChangeSpec := { name := "fnExactCriticalGroups", fn := fun _ => fun
  | [d] => { results := [.lit (.bool true)], args := [d] }
  | _ => none }
def fnExactCriticalGroupsRow : OpenClaim := { program := "ytjklphlgmlomjaa", sum := "f0f79679ce4831fc0491aae47de7f41044a2265fcfe7dbdbf4f3540ded141237", func := "loop.example/g00897/laws.FnExactCriticalGroups", spec := "fnExactCriticalGroups", apart := false }
def FnExactCriticalGroupsSaid : Prop := fnExactCriticalGroupsRow.holds Try.pinned (OpenSpec.ofChange fnExactCriticalGroupsSpec)

/-- ITS FALSE NEIGHBOUR: 'it returns false'. Refute it at one input. -/
def fnExactCriticalGroupsWrong : ChangeSpec := { name := "fnExactCriticalGroups", fn := fun _ => fun
  | [d] => { results := [.lit (.bool false)], args := [d] }
  | _ => none }
def FnExactCriticalGroupsWrongFalsely : Prop := fnExactCriticalGroupsRow.holds Try.pinned (OpenSpec.ofChange fnExactCriticalGroupsWrong)

/-- 'laws.FnExactDistances': WHATEVER THE INPUT: true; the input reads as it did. -/
def fnExactDistancesSpec : ChangeSpec := { name := "fnExactDistances", fn := fun _ => fun
  | [d1, d2] => { results := [.lit (.bool true)], args := [d1, d2] }
  | _ => none }
def fnExactDistancesRow : OpenClaim := { program := "ytjklphlgmlomjaa", sum := "f0f79679ce4831fc0491aae47de7f41044a2265fcfe7dbdbf4f3540ded141237", func := "loop.example/g00897/laws.FnExactDistances", spec := "fnExactDistances", unfollowed := true, recurses := true, apart := false }
def FnExactDistancesSaid : Prop := fnExactDistancesRow.holds Try.pinned (OpenSpec.ofChange fnExactDistancesSpec)

/-- ITS FALSE NEIGHBOUR: 'it returns false'. Refute it at one input. -/
def fnExactDistancesWrong : ChangeSpec := { name := "fnExactDistances", fn := fun _ => fun
  | [d1, d2] => { results := [.lit (.bool false)], args := [d1, d2] }
  | _ => none }
def FnExactDistancesWrongFalsely : Prop := fnExactDistancesRow.holds Try.pinned (OpenSpec.ofChange fnExactDistancesWrong)

/-- 'laws.FnExactDiameter': WHATEVER THE INPUT: true; the input reads as it did. -/
def fnExactDiameterSpec : ChangeSpec := { name := "fnExactDiameter", fn := fun _ => fun
  | [d] => { results := [.lit (.bool true)], args := [d] }
  | _ => none }
def fnExactDiameterRow : OpenClaim := { program := "ytjklphlgmlomjaa", sum := "f0f79679ce4831fc0491aae47de7f41044a2265fcfe7dbdbf4f3540ded141237", func := "loop.example/g00897/laws.FnExactDiameter", spec := "fnExactDiameter", apart := false }
def FnExactDiameterSaid : Prop := fnExactDiameterRow.holds Try.pinned (OpenSpec.ofChange fnExactDiameterSpec)

/-- ITS FALSE NEIGHBOUR: 'it returns false'. Refute it at one input. -/
def fnExactDiameterWrong : ChangeSpec := { name := "fnExactDiameter", fn := fun _ => fun
  | [d] => { results := [.lit (.bool false)], args := [d] }
  | _ => none }
def FnExactDiameterWrongFalsely : Prop := fnExactDiameterRow.holds Try.pinned (OpenSpec.ofChange fnExactDiameterWrong)

/-- 'laws.FnExactDetourFactor': WHATEVER THE INPUT: true; the input reads as it did. -/
def fnExactDetourFactorSpec : ChangeSpec := { name := "fnExactDetourFactor", fn := fun _ => fun
  | [d1, d2] => { results := [.lit (.bool true)], args := [d1, d2] }
  | _ => none }
def fnExactDetourFactorRow : OpenClaim := { program := "ytjklphlgmlomjaa", sum := "f0f79679ce4831fc0491aae47de7f41044a2265fcfe7dbdbf4f3540ded141237", func := "loop.example/g00897/laws.FnExactDetourFactor", spec := "fnExactDetourFactor", apart := false }
def FnExactDetourFactorSaid : Prop := fnExactDetourFactorRow.holds Try.pinned (OpenSpec.ofChange fnExactDetourFactorSpec)

/-- ITS FALSE NEIGHBOUR: 'it returns false'. Refute it at one input. -/
def fnExactDetourFactorWrong : ChangeSpec := { name := "fnExactDetourFactor", fn := fun _ => fun
  | [d1, d2] => { results := [.lit (.bool false)], args := [d1, d2] }
  | _ => none }
def FnExactDetourFactorWrongFalsely : Prop := fnExactDetourFactorRow.holds Try.pinned (OpenSpec.ofChange fnExactDetourFactorWrong)

/-- 'laws.FnExactAddFiber': WHATEVER THE INPUT: true; the input reads as it did. -/
def fnExactAddFiberSpec : ChangeSpec := { name := "fnExactAddFiber", fn := fun _ => fun
  | [d1, d2] => { results := [.lit (.bool true)], args := [d1, d2] }
  | _ => none }
def fnExactAddFiberRow : OpenClaim := { program := "ytjklphlgmlomjaa", sum := "f0f79679ce4831fc0491aae47de7f41044a2265fcfe7dbdbf4f3540ded141237", func := "loop.example/g00897/laws.FnExactAddFiber", spec := "fnExactAddFiber", inPlace := ["slices.overlaps[loop.example/g00897/impl.Fiber]"], apart := false }
def FnExactAddFiberSaid : Prop := fnExactAddFiberRow.holds Try.pinned (OpenSpec.ofChange fnExactAddFiberSpec)

/-- ITS FALSE NEIGHBOUR: 'it returns false'. Refute it at one input. -/
def fnExactAddFiberWrong : ChangeSpec := { name := "fnExactAddFiber", fn := fun _ => fun
  | [d1, d2] => { results := [.lit (.bool false)], args := [d1, d2] }
  | _ => none }
def FnExactAddFiberWrongFalsely : Prop := fnExactAddFiberRow.holds Try.pinned (OpenSpec.ofChange fnExactAddFiberWrong)

/-- 'laws.FnExactMinimumCut': WHATEVER THE INPUT: true; the input reads as it did. -/
def fnExactMinimumCutSpec : ChangeSpec := { name := "fnExactMinimumCut", fn := fun _ => fun
  | [d1, d2, d3] => { results := [.lit (.bool true)], args := [d1, d2, d3] }
  | _ => none }
def fnExactMinimumCutRow : OpenClaim := { program := "ytjklphlgmlomjaa", sum := "f0f79679ce4831fc0491aae47de7f41044a2265fcfe7dbdbf4f3540ded141237", func := "loop.example/g00897/laws.FnExactMinimumCut", spec := "fnExactMinimumCut", unfollowed := true, recurses := true, apart := false }
def FnExactMinimumCutSaid : Prop := fnExactMinimumCutRow.holds Try.pinned (OpenSpec.ofChange fnExactMinimumCutSpec)

/-- ITS FALSE NEIGHBOUR: 'it returns false'. Refute it at one input. -/
def fnExactMinimumCutWrong : ChangeSpec := { name := "fnExactMinimumCut", fn := fun _ => fun
  | [d1, d2, d3] => { results := [.lit (.bool false)], args := [d1, d2, d3] }
  | _ => none }
def FnExactMinimumCutWrongFalsely : Prop := fnExactMinimumCutRow.holds Try.pinned (OpenSpec.ofChange fnExactMinimumCutWrong)

/-- 'laws.FnExactDisjointCount': WHATEVER THE INPUT: true; the input reads as it did. -/
def fnExactDisjointCountSpec : ChangeSpec := { name := "fnExactDisjointCount", fn := fun _ => fun
  | [d1, d2, d3] => { results := [.lit (.bool true)], args := [d1, d2, d3] }
  | _ => none }
def fnExactDisjointCountRow : OpenClaim := { program := "ytjklphlgmlomjaa", sum := "f0f79679ce4831fc0491aae47de7f41044a2265fcfe7dbdbf4f3540ded141237", func := "loop.example/g00897/laws.FnExactDisjointCount", spec := "fnExactDisjointCount", unfollowed := true, recurses := true, apart := false }
def FnExactDisjointCountSaid : Prop := fnExactDisjointCountRow.holds Try.pinned (OpenSpec.ofChange fnExactDisjointCountSpec)

/-- ITS FALSE NEIGHBOUR: 'it returns false'. Refute it at one input. -/
def fnExactDisjointCountWrong : ChangeSpec := { name := "fnExactDisjointCount", fn := fun _ => fun
  | [d1, d2, d3] => { results := [.lit (.bool false)], args := [d1, d2, d3] }
  | _ => none }
def FnExactDisjointCountWrongFalsely : Prop := fnExactDisjointCountRow.holds Try.pinned (OpenSpec.ofChange fnExactDisjointCountWrong)

/- THE SECOND FORM. 'bulk': how many values and letters a reading holds, each counted each time it is reached (what is shared counts as often as it is met; a slice's spare places count too). A statement '..UptoSaid' is the law's where the arguments, and the package variables that the reading takes, are together of bulk at most 1048576: NARROWER than '..Said'. Prove '..Said' where nothing that the law and all that it calls make is longer than what came in: it says more and counts as full. Else prove '..UptoSaid'. A law counts once. -/
mutual
def uptoBulk {H : Type} : DataW H → Nat
  | .lit (.string bytes) => bytes.length + 1
  | .lit _ => 1
  | .nil => 1
  | .ptr d => uptoBulk d + 1
  | .slice elems spare => uptoBulkAll elems + uptoBulkAll spare + 1
  | .agg parts => uptoBulkAll parts + 1
  | .iface _ d => uptoBulk d + 1
  | .map entries => uptoBulkEntries entries + 1
  | .held _ => 1
def uptoBulkAll {H : Type} : List (DataW H) → Nat
  | [] => 0
  | d :: r => uptoBulk d + uptoBulkAll r
def uptoBulkEntries {H : Type} : List (Lit × DataW H) → Nat
  | [] => 0
  | x :: r => uptoBulkEntry x + uptoBulkEntries r
def uptoBulkEntry {H : Type} : Lit × DataW H → Nat
  | (.string bytes, d) => bytes.length + uptoBulk d + 1
  | (_, d) => uptoBulk d + 1
 end
def uptoSmall : (H : Type) → List (DataW H) → Bool := fun _ ds => decide (uptoBulkAll ds ≤ 1048576)
def OpenSpec.upto (s : _root_.Go.ChangeSpec) : _root_.Go.OpenSpec := { _root_.Go.OpenSpec.ofChange s with cond := some uptoSmall }

/-- 'laws.FnExactAreDisjoint', WHERE WHAT IT READS IS OF BULK AT MOST 1048576: true; the input reads as it did. -/
def fnExactAreDisjointUptoRow : OpenClaim := { program := "ytjklphlgmlomjaa", sum := "f0f79679ce4831fc0491aae47de7f41044a2265fcfe7dbdbf4f3540ded141237", func := "loop.example/g00897/laws.FnExactAreDisjoint", spec := "fnExactAreDisjoint", unfollowed := true, recurses := true, apart := false, narrowed := true }
def FnExactAreDisjointUptoSaid : Prop := fnExactAreDisjointUptoRow.holds Try.pinned (OpenSpec.upto fnExactAreDisjointSpec)

/-- 'laws.FnExactReverseRoute', WHERE WHAT IT READS IS OF BULK AT MOST 1048576: true; the input reads as it did. -/
def fnExactReverseRouteUptoRow : OpenClaim := { program := "ytjklphlgmlomjaa", sum := "f0f79679ce4831fc0491aae47de7f41044a2265fcfe7dbdbf4f3540ded141237", func := "loop.example/g00897/laws.FnExactReverseRoute", spec := "fnExactReverseRoute", apart := false, narrowed := true }
def FnExactReverseRouteUptoSaid : Prop := fnExactReverseRouteUptoRow.holds Try.pinned (OpenSpec.upto fnExactReverseRouteSpec)

/-- 'laws.FnExactJoinRoutes', WHERE WHAT IT READS IS OF BULK AT MOST 1048576: true; the input reads as it did. -/
def fnExactJoinRoutesUptoRow : OpenClaim := { program := "ytjklphlgmlomjaa", sum := "f0f79679ce4831fc0491aae47de7f41044a2265fcfe7dbdbf4f3540ded141237", func := "loop.example/g00897/laws.FnExactJoinRoutes", spec := "fnExactJoinRoutes", apart := false, narrowed := true }
def FnExactJoinRoutesUptoSaid : Prop := fnExactJoinRoutesUptoRow.holds Try.pinned (OpenSpec.upto fnExactJoinRoutesSpec)

/-- 'laws.FnExactBridges', WHERE WHAT IT READS IS OF BULK AT MOST 1048576: true; the input reads as it did. -/
def fnExactBridgesUptoRow : OpenClaim := { program := "ytjklphlgmlomjaa", sum := "f0f79679ce4831fc0491aae47de7f41044a2265fcfe7dbdbf4f3540ded141237", func := "loop.example/g00897/laws.FnExactBridges", spec := "fnExactBridges", apart := false, narrowed := true }
def FnExactBridgesUptoSaid : Prop := fnExactBridgesUptoRow.holds Try.pinned (OpenSpec.upto fnExactBridgesSpec)

/-- 'laws.FnExactCutNodes', WHERE WHAT IT READS IS OF BULK AT MOST 1048576: true; the input reads as it did. -/
def fnExactCutNodesUptoRow : OpenClaim := { program := "ytjklphlgmlomjaa", sum := "f0f79679ce4831fc0491aae47de7f41044a2265fcfe7dbdbf4f3540ded141237", func := "loop.example/g00897/laws.FnExactCutNodes", spec := "fnExactCutNodes", apart := false, narrowed := true }
def FnExactCutNodesUptoSaid : Prop := fnExactCutNodesUptoRow.holds Try.pinned (OpenSpec.upto fnExactCutNodesSpec)

/-- 'laws.FnExactCriticalGroups', WHERE WHAT IT READS IS OF BULK AT MOST 1048576: true; the input reads as it did. -/
def fnExactCriticalGroupsUptoRow : OpenClaim := { program := "ytjklphlgmlomjaa", sum := "f0f79679ce4831fc0491aae47de7f41044a2265fcfe7dbdbf4f3540ded141237", func := "loop.example/g00897/laws.FnExactCriticalGroups", spec := "fnExactCriticalGroups", apart := false, narrowed := true }
def FnExactCriticalGroupsUptoSaid : Prop := fnExactCriticalGroupsUptoRow.holds Try.pinned (OpenSpec.upto fnExactCriticalGroupsSpec)

/-- 'laws.FnExactDistances', WHERE WHAT IT READS IS OF BULK AT MOST 1048576: true; the input reads as it did. -/
def fnExactDistancesUptoRow : OpenClaim := { program := "ytjklphlgmlomjaa", sum := "f0f79679ce4831fc0491aae47de7f41044a2265fcfe7dbdbf4f3540ded141237", func := "loop.example/g00897/laws.FnExactDistances", spec := "fnExactDistances", unfollowed := true, recurses := true, apart := false, narrowed := true }
def FnExactDistancesUptoSaid : Prop := fnExactDistancesUptoRow.holds Try.pinned (OpenSpec.upto fnExactDistancesSpec)

/-- 'laws.FnExactDiameter', WHERE WHAT IT READS IS OF BULK AT MOST 1048576: true; the input reads as it did. -/
def fnExactDiameterUptoRow : OpenClaim := { program := "ytjklphlgmlomjaa", sum := "f0f79679ce4831fc0491aae47de7f41044a2265fcfe7dbdbf4f3540ded141237", func := "loop.example/g00897/laws.FnExactDiameter", spec := "fnExactDiameter", apart := false, narrowed := true }
def FnExactDiameterUptoSaid : Prop := fnExactDiameterUptoRow.holds Try.pinned (OpenSpec.upto fnExactDiameterSpec)

/-- 'laws.FnExactDetourFactor', WHERE WHAT IT READS IS OF BULK AT MOST 1048576: true; the input reads as it did. -/
def fnExactDetourFactorUptoRow : OpenClaim := { program := "ytjklphlgmlomjaa", sum := "f0f79679ce4831fc0491aae47de7f41044a2265fcfe7dbdbf4f3540ded141237", func := "loop.example/g00897/laws.FnExactDetourFactor", spec := "fnExactDetourFactor", apart := false, narrowed := true }
def FnExactDetourFactorUptoSaid : Prop := fnExactDetourFactorUptoRow.holds Try.pinned (OpenSpec.upto fnExactDetourFactorSpec)

/-- 'laws.FnExactAddFiber', WHERE WHAT IT READS IS OF BULK AT MOST 1048576: true; the input reads as it did. -/
def fnExactAddFiberUptoRow : OpenClaim := { program := "ytjklphlgmlomjaa", sum := "f0f79679ce4831fc0491aae47de7f41044a2265fcfe7dbdbf4f3540ded141237", func := "loop.example/g00897/laws.FnExactAddFiber", spec := "fnExactAddFiber", inPlace := ["slices.overlaps[loop.example/g00897/impl.Fiber]"], apart := false, narrowed := true }
def FnExactAddFiberUptoSaid : Prop := fnExactAddFiberUptoRow.holds Try.pinned (OpenSpec.upto fnExactAddFiberSpec)

/-- 'laws.FnExactMinimumCut', WHERE WHAT IT READS IS OF BULK AT MOST 1048576: true; the input reads as it did. -/
def fnExactMinimumCutUptoRow : OpenClaim := { program := "ytjklphlgmlomjaa", sum := "f0f79679ce4831fc0491aae47de7f41044a2265fcfe7dbdbf4f3540ded141237", func := "loop.example/g00897/laws.FnExactMinimumCut", spec := "fnExactMinimumCut", unfollowed := true, recurses := true, apart := false, narrowed := true }
def FnExactMinimumCutUptoSaid : Prop := fnExactMinimumCutUptoRow.holds Try.pinned (OpenSpec.upto fnExactMinimumCutSpec)

/-- 'laws.FnExactDisjointCount', WHERE WHAT IT READS IS OF BULK AT MOST 1048576: true; the input reads as it did. -/
def fnExactDisjointCountUptoRow : OpenClaim := { program := "ytjklphlgmlomjaa", sum := "f0f79679ce4831fc0491aae47de7f41044a2265fcfe7dbdbf4f3540ded141237", func := "loop.example/g00897/laws.FnExactDisjointCount", spec := "fnExactDisjointCount", unfollowed := true, recurses := true, apart := false, narrowed := true }
def FnExactDisjointCountUptoSaid : Prop := fnExactDisjointCountUptoRow.holds Try.pinned (OpenSpec.upto fnExactDisjointCountSpec)

end Rows
end Go.Proofs.Ytjklphlgmlomjaa
