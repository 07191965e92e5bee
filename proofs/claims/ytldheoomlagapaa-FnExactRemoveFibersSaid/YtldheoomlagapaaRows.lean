/-
  No cell of these rows narrows 'for every input' (looked for: loops, veiled, ifaces, maps, wideKeys, modest, calm, conditions, laid).
  DERIVED. THE GIVEN ROWS OF THIS SEAT. 12 by the template 'for every input the law returns true; each argument reads behind the call as it read before'; 0 by the template 'total and deterministic' (their statements: YtldheoomlagapaaTotals.lean).
  GIVEN WITH THE SEED: the statements are not yours to turn. If you find one false, say at which input.
  Laid BY PROGRAM, IN A SANDBOX (cutbox-rows.mjs): the forced cells as the released guide's own fill.sh prints them over the translation 150a9b8417e02a27… (all of the seat's roots in one cut). By AI agents, Wed Nov 11 2026. No macro, syntax, notation, axiom, sorry.
-/
import Derived.Test.YtldheoomlagapaaChecked
import GoSem.Claim
import GoSem.ClaimJoined
import GoSem.ClaimMapViews
import Derived.JoinedTies
import Derived.KernelRfl
namespace Go.Proofs.Ytldheoomlagapaa
/- THE CELL 'sum', in the pinned program and in every row, IS THE sha256 OF THE DUMP (.gsa) THAT YtldheoomlagapaaProg.lean LOADS. Nothing in Lean hashes anything: it is a label: what it is worth is what the hold of that sum in a sandbox is worth. -/
noncomputable def Try.pinned : Pinned := { name := "ytldheoomlagapaa", sum := "150a9b8417e02a278f04fd374dc2ec541491a6db15f9ba48a666cadfbe98655e", checked := Try.checked }
namespace Rows
def none {H : Type} : Left H := { results := [], args := [] }

/-- 'laws.FnExactIsValidNetwork': WHATEVER THE INPUT: true; the input reads as it did. -/
def fnExactIsValidNetworkSpec : ChangeSpec := { name := "fnExactIsValidNetwork", fn := fun _ => fun
  | [d] => { results := [.lit (.bool true)], args := [d] }
  | _ => none }
def fnExactIsValidNetworkRow : OpenClaim := { program := "ytldheoomlagapaa", sum := "150a9b8417e02a278f04fd374dc2ec541491a6db15f9ba48a666cadfbe98655e", func := "loop.example/g00897/laws.FnExactIsValidNetwork", spec := "fnExactIsValidNetwork", apart := false }
def FnExactIsValidNetworkSaid : Prop := fnExactIsValidNetworkRow.holds Try.pinned (OpenSpec.ofChange fnExactIsValidNetworkSpec)

/-- ITS FALSE NEIGHBOUR: 'it returns false'. Refute it at one input. -/
def fnExactIsValidNetworkWrong : ChangeSpec := { name := "fnExactIsValidNetwork", fn := fun _ => fun
  | [d] => { results := [.lit (.bool false)], args := [d] }
  | _ => none }
def FnExactIsValidNetworkWrongFalsely : Prop := fnExactIsValidNetworkRow.holds Try.pinned (OpenSpec.ofChange fnExactIsValidNetworkWrong)

/-- 'laws.FnExactNodeNumber': WHATEVER THE INPUT: true; the input reads as it did. -/
def fnExactNodeNumberSpec : ChangeSpec := { name := "fnExactNodeNumber", fn := fun _ => fun
  | [d1, d2] => { results := [.lit (.bool true)], args := [d1, d2] }
  | _ => none }
def fnExactNodeNumberRow : OpenClaim := { program := "ytldheoomlagapaa", sum := "150a9b8417e02a278f04fd374dc2ec541491a6db15f9ba48a666cadfbe98655e", func := "loop.example/g00897/laws.FnExactNodeNumber", spec := "fnExactNodeNumber", apart := false }
def FnExactNodeNumberSaid : Prop := fnExactNodeNumberRow.holds Try.pinned (OpenSpec.ofChange fnExactNodeNumberSpec)

/-- ITS FALSE NEIGHBOUR: 'it returns false'. Refute it at one input. -/
def fnExactNodeNumberWrong : ChangeSpec := { name := "fnExactNodeNumber", fn := fun _ => fun
  | [d1, d2] => { results := [.lit (.bool false)], args := [d1, d2] }
  | _ => none }
def FnExactNodeNumberWrongFalsely : Prop := fnExactNodeNumberRow.holds Try.pinned (OpenSpec.ofChange fnExactNodeNumberWrong)

/-- 'laws.FnExactTotalLength': WHATEVER THE INPUT: true; the input reads as it did. -/
def fnExactTotalLengthSpec : ChangeSpec := { name := "fnExactTotalLength", fn := fun _ => fun
  | [d] => { results := [.lit (.bool true)], args := [d] }
  | _ => none }
def fnExactTotalLengthRow : OpenClaim := { program := "ytldheoomlagapaa", sum := "150a9b8417e02a278f04fd374dc2ec541491a6db15f9ba48a666cadfbe98655e", func := "loop.example/g00897/laws.FnExactTotalLength", spec := "fnExactTotalLength", apart := false }
def FnExactTotalLengthSaid : Prop := fnExactTotalLengthRow.holds Try.pinned (OpenSpec.ofChange fnExactTotalLengthSpec)

/-- ITS FALSE NEIGHBOUR: 'it returns false'. Refute it at one input. -/
def fnExactTotalLengthWrong : ChangeSpec := { name := "fnExactTotalLength", fn := fun _ => fun
  | [d] => { results := [.lit (.bool false)], args := [d] }
  | _ => none }
def FnExactTotalLengthWrongFalsely : Prop := fnExactTotalLengthRow.holds Try.pinned (OpenSpec.ofChange fnExactTotalLengthWrong)

/-- 'laws.FnExactOtherEnd': WHATEVER THE INPUT: true; the input reads as it did. -/
def fnExactOtherEndSpec : ChangeSpec := { name := "fnExactOtherEnd", fn := fun _ => fun
  | [d1, d2, d3] => { results := [.lit (.bool true)], args := [d1, d2, d3] }
  | _ => none }
def fnExactOtherEndRow : OpenClaim := { program := "ytldheoomlagapaa", sum := "150a9b8417e02a278f04fd374dc2ec541491a6db15f9ba48a666cadfbe98655e", func := "loop.example/g00897/laws.FnExactOtherEnd", spec := "fnExactOtherEnd", apart := false }
def FnExactOtherEndSaid : Prop := fnExactOtherEndRow.holds Try.pinned (OpenSpec.ofChange fnExactOtherEndSpec)

/-- ITS FALSE NEIGHBOUR: 'it returns false'. Refute it at one input. -/
def fnExactOtherEndWrong : ChangeSpec := { name := "fnExactOtherEnd", fn := fun _ => fun
  | [d1, d2, d3] => { results := [.lit (.bool false)], args := [d1, d2, d3] }
  | _ => none }
def FnExactOtherEndWrongFalsely : Prop := fnExactOtherEndRow.holds Try.pinned (OpenSpec.ofChange fnExactOtherEndWrong)

/-- 'laws.FnExactFibersAt': WHATEVER THE INPUT: true; the input reads as it did. -/
def fnExactFibersAtSpec : ChangeSpec := { name := "fnExactFibersAt", fn := fun _ => fun
  | [d1, d2] => { results := [.lit (.bool true)], args := [d1, d2] }
  | _ => none }
def fnExactFibersAtRow : OpenClaim := { program := "ytldheoomlagapaa", sum := "150a9b8417e02a278f04fd374dc2ec541491a6db15f9ba48a666cadfbe98655e", func := "loop.example/g00897/laws.FnExactFibersAt", spec := "fnExactFibersAt", unfollowed := true, recurses := true, apart := false }
def FnExactFibersAtSaid : Prop := fnExactFibersAtRow.holds Try.pinned (OpenSpec.ofChange fnExactFibersAtSpec)

/-- ITS FALSE NEIGHBOUR: 'it returns false'. Refute it at one input. -/
def fnExactFibersAtWrong : ChangeSpec := { name := "fnExactFibersAt", fn := fun _ => fun
  | [d1, d2] => { results := [.lit (.bool false)], args := [d1, d2] }
  | _ => none }
def FnExactFibersAtWrongFalsely : Prop := fnExactFibersAtRow.holds Try.pinned (OpenSpec.ofChange fnExactFibersAtWrong)

/-- 'laws.FnExactRiskGroups': WHATEVER THE INPUT: true; the input reads as it did. -/
def fnExactRiskGroupsSpec : ChangeSpec := { name := "fnExactRiskGroups", fn := fun _ => fun
  | [d] => { results := [.lit (.bool true)], args := [d] }
  | _ => none }
def fnExactRiskGroupsRow : OpenClaim := { program := "ytldheoomlagapaa", sum := "150a9b8417e02a278f04fd374dc2ec541491a6db15f9ba48a666cadfbe98655e", func := "loop.example/g00897/laws.FnExactRiskGroups", spec := "fnExactRiskGroups", apart := false }
def FnExactRiskGroupsSaid : Prop := fnExactRiskGroupsRow.holds Try.pinned (OpenSpec.ofChange fnExactRiskGroupsSpec)

/-- ITS FALSE NEIGHBOUR: 'it returns false'. Refute it at one input. -/
def fnExactRiskGroupsWrong : ChangeSpec := { name := "fnExactRiskGroups", fn := fun _ => fun
  | [d] => { results := [.lit (.bool false)], args := [d] }
  | _ => none }
def FnExactRiskGroupsWrongFalsely : Prop := fnExactRiskGroupsRow.holds Try.pinned (OpenSpec.ofChange fnExactRiskGroupsWrong)

/-- 'laws.FnExactFailingWith': WHATEVER THE INPUT: true; the input reads as it did. -/
def fnExactFailingWithSpec : ChangeSpec := { name := "fnExactFailingWith", fn := fun _ => fun
  | [d1, d2] => { results := [.lit (.bool true)], args := [d1, d2] }
  | _ => none }
def fnExactFailingWithRow : OpenClaim := { program := "ytldheoomlagapaa", sum := "150a9b8417e02a278f04fd374dc2ec541491a6db15f9ba48a666cadfbe98655e", func := "loop.example/g00897/laws.FnExactFailingWith", spec := "fnExactFailingWith", unfollowed := true, recurses := true, apart := false }
def FnExactFailingWithSaid : Prop := fnExactFailingWithRow.holds Try.pinned (OpenSpec.ofChange fnExactFailingWithSpec)

/-- ITS FALSE NEIGHBOUR: 'it returns false'. Refute it at one input. -/
def fnExactFailingWithWrong : ChangeSpec := { name := "fnExactFailingWith", fn := fun _ => fun
  | [d1, d2] => { results := [.lit (.bool false)], args := [d1, d2] }
  | _ => none }
def FnExactFailingWithWrongFalsely : Prop := fnExactFailingWithRow.holds Try.pinned (OpenSpec.ofChange fnExactFailingWithWrong)

/-- 'laws.FnExactRemoveFibers': WHATEVER THE INPUT: true; the input reads as it did. -/
def fnExactRemoveFibersSpec : ChangeSpec := { name := "fnExactRemoveFibers", fn := fun _ => fun
  | [d1, d2] => { results := [.lit (.bool true)], args := [d1, d2] }
  | _ => none }
def fnExactRemoveFibersRow : OpenClaim := { program := "ytldheoomlagapaa", sum := "150a9b8417e02a278f04fd374dc2ec541491a6db15f9ba48a666cadfbe98655e", func := "loop.example/g00897/laws.FnExactRemoveFibers", spec := "fnExactRemoveFibers", apart := false }
def FnExactRemoveFibersSaid : Prop := fnExactRemoveFibersRow.holds Try.pinned (OpenSpec.ofChange fnExactRemoveFibersSpec)

/-- ITS FALSE NEIGHBOUR: 'it returns false'. Refute it at one input. -/
def fnExactRemoveFibersWrong : ChangeSpec := { name := "fnExactRemoveFibers", fn := fun _ => fun
  | [d1, d2] => { results := [.lit (.bool false)], args := [d1, d2] }
  | _ => none }
def FnExactRemoveFibersWrongFalsely : Prop := fnExactRemoveFibersRow.holds Try.pinned (OpenSpec.ofChange fnExactRemoveFibersWrong)

/-- 'laws.FnExactAddFiber': WHATEVER THE INPUT: true; the input reads as it did. -/
def fnExactAddFiberSpec : ChangeSpec := { name := "fnExactAddFiber", fn := fun _ => fun
  | [d1, d2] => { results := [.lit (.bool true)], args := [d1, d2] }
  | _ => none }
def fnExactAddFiberRow : OpenClaim := { program := "ytldheoomlagapaa", sum := "150a9b8417e02a278f04fd374dc2ec541491a6db15f9ba48a666cadfbe98655e", func := "loop.example/g00897/laws.FnExactAddFiber", spec := "fnExactAddFiber", inPlace := ["slices.overlaps[loop.example/g00897/impl.Fiber]"], apart := false }
def FnExactAddFiberSaid : Prop := fnExactAddFiberRow.holds Try.pinned (OpenSpec.ofChange fnExactAddFiberSpec)

/-- ITS FALSE NEIGHBOUR: 'it returns false'. Refute it at one input. -/
def fnExactAddFiberWrong : ChangeSpec := { name := "fnExactAddFiber", fn := fun _ => fun
  | [d1, d2] => { results := [.lit (.bool false)], args := [d1, d2] }
  | _ => none }
def FnExactAddFiberWrongFalsely : Prop := fnExactAddFiberRow.holds Try.pinned (OpenSpec.ofChange fnExactAddFiberWrong)

/-- 'laws.FnNetworks': WHATEVER THE INPUT: true; the input reads as it did. -/
def fnNetworksSpec : ChangeSpec := { name := "fnNetworks", fn := fun _ => fun
  | [d] => { results := [.lit (.bool true)], args := [d] }
  | _ => none }
def fnNetworksRow : OpenClaim := { program := "ytldheoomlagapaa", sum := "150a9b8417e02a278f04fd374dc2ec541491a6db15f9ba48a666cadfbe98655e", func := "loop.example/g00897/laws.FnNetworks", spec := "fnNetworks", inPlace := ["slices.overlaps[loop.example/g00897/impl.Fiber]"], unfollowed := true, recurses := true, apart := false }
def FnNetworksSaid : Prop := fnNetworksRow.holds Try.pinned (OpenSpec.ofChange fnNetworksSpec)

/-- ITS FALSE NEIGHBOUR: 'it returns false'. Refute it at one input. -/
def fnNetworksWrong : ChangeSpec := { name := "fnNetworks", fn := fun _ => fun
  | [d] => { results := [.lit (.bool false)], args := [d] }
  | _ => none }
def FnNetworksWrongFalsely : Prop := fnNetworksRow.holds Try.pinned (OpenSpec.ofChange fnNetworksWrong)

/-- 'laws.FnExactFibersBetween': WHATEVER THE INPUT: true; the input reads as it did. -/
def fnExactFibersBetweenSpec : ChangeSpec := { name := "fnExactFibersBetween", fn := fun _ => fun
  | [d1, d2] => { results := [.lit (.bool true)], args := [d1, d2] }
  | _ => none }
def fnExactFibersBetweenRow : OpenClaim := { program := "ytldheoomlagapaa", sum := "150a9b8417e02a278f04fd374dc2ec541491a6db15f9ba48a666cadfbe98655e", func := "loop.example/g00897/laws.FnExactFibersBetween", spec := "fnExactFibersBetween", apart := false }
def FnExactFibersBetweenSaid : Prop := fnExactFibersBetweenRow.holds Try.pinned (OpenSpec.ofChange fnExactFibersBetweenSpec)

/-- ITS FALSE NEIGHBOUR: 'it returns false'. Refute it at one input. -/
def fnExactFibersBetweenWrong : ChangeSpec := { name := "fnExactFibersBetween", fn := fun _ => fun
  | [d1, d2] => { results := [.lit (.bool false)], args := [d1, d2] }
  | _ => none }
def FnExactFibersBetweenWrongFalsely : Prop := fnExactFibersBetweenRow.holds Try.pinned (OpenSpec.ofChange fnExactFibersBetweenWrong)

/-- 'laws.FnExactIsValidRoute': WHATEVER THE INPUT: true; the input reads as it did. -/
def fnExactIsValidRouteSpec : ChangeSpec := { name := "fnExactIsValidRoute", fn := fun _ => fun
  | [d1, d2] => { results := [.lit (.bool true)], args := [d1, d2] }
  | _ => none }
def fnExactIsValidRouteRow : OpenClaim := { program := "ytldheoomlagapaa", sum := "150a9b8417e02a278f04fd374dc2ec541491a6db15f9ba48a666cadfbe98655e", func := "loop.example/g00897/laws.FnExactIsValidRoute", spec := "fnExactIsValidRoute", apart := false }
def FnExactIsValidRouteSaid : Prop := fnExactIsValidRouteRow.holds Try.pinned (OpenSpec.ofChange fnExactIsValidRouteSpec)

/-- ITS FALSE NEIGHBOUR: 'it returns false'. Refute it at one input. -/
def fnExactIsValidRouteWrong : ChangeSpec := { name := "fnExactIsValidRoute", fn := fun _ => fun
  | [d1, d2] => { results := [.lit (.bool false)], args := [d1, d2] }
  | _ => none }
def FnExactIsValidRouteWrongFalsely : Prop := fnExactIsValidRouteRow.holds Try.pinned (OpenSpec.ofChange fnExactIsValidRouteWrong)

/- THE SECOND FORM. 'bulk': how many values and letters a reading holds, each counted each time it is reached (what is shared counts as often as it is met; a slice's spare places count too). A statement '..UptoSaid' is the law's where the arguments, and the package variables that the reading takes, are together of bulk at most 1048576: NARROWER than '..Said'. Prove '..Said' where nothing that the law and all that it calls make is longer than what came in: it says more and counts as full. Else prove '..UptoSaid'. A law counts once. -/
mutual
def uptoBulk {H : Type} : DataW H → Nat
  | .lit (.string bytes) => bytes.length + 1
  | .lit _ => 1
  | .nil => 1
  | .ptr d => uptoBulk d + 1
  | .slice elems spare => uptoBulkAll elems + uptoBulkAll spare + 1
  | .agg parts => uptoBulkAll parts + 1
  | .iface _ d => uptoBulk d + 1
  | .map entries => uptoBulkEntries entries + 1
  | .held _ => 1
def uptoBulkAll {H : Type} : List (DataW H) → Nat
  | [] => 0
  | d :: r => uptoBulk d + uptoBulkAll r
def uptoBulkEntries {H : Type} : List (Lit × DataW H) → Nat
  | [] => 0
  | x :: r => uptoBulkEntry x + uptoBulkEntries r
def uptoBulkEntry {H : Type} : Lit × DataW H → Nat
  | (.string bytes, d) => bytes.length + uptoBulk d + 1
  | (_, d) => uptoBulk d + 1
 end
def uptoSmall : (H : Type) → List (DataW H) → Bool := fun _ ds => decide (uptoBulkAll ds ≤ 1048576)
def OpenSpec.upto (s : _root_.Go.ChangeSpec) : _root_.Go.OpenSpec := { _root_.Go.OpenSpec.ofChange s with cond := some uptoSmall }

/-- 'laws.FnExactIsValidNetwork', WHERE WHAT IT READS IS OF BULK AT MOST 1048576: true; the input reads as it did. -/
def fnExactIsValidNetworkUptoRow : OpenClaim := { program := "ytldheoomlagapaa", sum := "150a9b8417e02a278f04fd374dc2ec541491a6db15f9ba48a666cadfbe98655e", func := "loop.example/g00897/laws.FnExactIsValidNetwork", spec := "fnExactIsValidNetwork", apart := false, narrowed := true }
def FnExactIsValidNetworkUptoSaid : Prop := fnExactIsValidNetworkUptoRow.holds Try.pinned (OpenSpec.upto fnExactIsValidNetworkSpec)

/-- 'laws.FnExactNodeNumber', WHERE WHAT IT READS IS OF BULK AT MOST 1048576: true; the input reads as it did. -/
def fnExactNodeNumberUptoRow : OpenClaim := { program := "ytldheoomlagapaa", sum := "150a9b8417e02a278f04fd374dc2ec541491a6db15f9ba48a666cadfbe98655e", func := "loop.example/g00897/laws.FnExactNodeNumber", spec := "fnExactNodeNumber", apart := false, narrowed := true }
def FnExactNodeNumberUptoSaid : Prop := fnExactNodeNumberUptoRow.holds Try.pinned (OpenSpec.upto fnExactNodeNumberSpec)

/-- 'laws.FnExactTotalLength', WHERE WHAT IT READS IS OF BULK AT MOST 1048576: true; the input reads as it did. -/
def fnExactTotalLengthUptoRow : OpenClaim := { program := "ytldheoomlagapaa", sum := "150a9b8417e02a278f04fd374dc2ec541491a6db15f9ba48a666cadfbe98655e", func := "loop.example/g00897/laws.FnExactTotalLength", spec := "fnExactTotalLength", apart := false, narrowed := true }
def FnExactTotalLengthUptoSaid : Prop := fnExactTotalLengthUptoRow.holds Try.pinned (OpenSpec.upto fnExactTotalLengthSpec)

/-- 'laws.FnExactOtherEnd', WHERE WHAT IT READS IS OF BULK AT MOST 1048576: true; the input reads as it did. -/
def fnExactOtherEndUptoRow : OpenClaim := { program := "ytldheoomlagapaa", sum := "150a9b8417e02a278f04fd374dc2ec541491a6db15f9ba48a666cadfbe98655e", func := "loop.example/g00897/laws.FnExactOtherEnd", spec := "fnExactOtherEnd", apart := false, narrowed := true }
def FnExactOtherEndUptoSaid : Prop := fnExactOtherEndUptoRow.holds Try.pinned (OpenSpec.upto fnExactOtherEndSpec)

/-- 'laws.FnExactFibersAt', WHERE WHAT IT READS IS OF BULK AT MOST 1048576: true; the input reads as it did. -/
def fnExactFibersAtUptoRow : OpenClaim := { program := "ytldheoomlagapaa", sum := "150a9b8417e02a278f04fd374dc2ec541491a6db15f9ba48a666cadfbe98655e", func := "loop.example/g00897/laws.FnExactFibersAt", spec := "fnExactFibersAt", unfollowed := true, recurses := true, apart := false, narrowed := true }
def FnExactFibersAtUptoSaid : Prop := fnExactFibersAtUptoRow.holds Try.pinned (OpenSpec.upto fnExactFibersAtSpec)

/-- 'laws.FnExactRiskGroups', WHERE WHAT IT READS IS OF BULK AT MOST 1048576: true; the input reads as it did. -/
def fnExactRiskGroupsUptoRow : OpenClaim := { program := "ytldheoomlagapaa", sum := "150a9b8417e02a278f04fd374dc2ec541491a6db15f9ba48a666cadfbe98655e", func := "loop.example/g00897/laws.FnExactRiskGroups", spec := "fnExactRiskGroups", apart := false, narrowed := true }
def FnExactRiskGroupsUptoSaid : Prop := fnExactRiskGroupsUptoRow.holds Try.pinned (OpenSpec.upto fnExactRiskGroupsSpec)

/-- 'laws.FnExactFailingWith', WHERE WHAT IT READS IS OF BULK AT MOST 1048576: true; the input reads as it did. -/
def fnExactFailingWithUptoRow : OpenClaim := { program := "ytldheoomlagapaa", sum := "150a9b8417e02a278f04fd374dc2ec541491a6db15f9ba48a666cadfbe98655e", func := "loop.example/g00897/laws.FnExactFailingWith", spec := "fnExactFailingWith", unfollowed := true, recurses := true, apart := false, narrowed := true }
def FnExactFailingWithUptoSaid : Prop := fnExactFailingWithUptoRow.holds Try.pinned (OpenSpec.upto fnExactFailingWithSpec)

/-- 'laws.FnExactRemoveFibers', WHERE WHAT IT READS IS OF BULK AT MOST 1048576: true; the input reads as it did. -/
def fnExactRemoveFibersUptoRow : OpenClaim := { program := "ytldheoomlagapaa", sum := "150a9b8417e02a278f04fd374dc2ec541491a6db15f9ba48a666cadfbe98655e", func := "loop.example/g00897/laws.FnExactRemoveFibers", spec := "fnExactRemoveFibers", apart := false, narrowed := true }
def FnExactRemoveFibersUptoSaid : Prop := fnExactRemoveFibersUptoRow.holds Try.pinned (OpenSpec.upto fnExactRemoveFibersSpec)

/-- 'laws.FnExactAddFiber', WHERE WHAT IT READS IS OF BULK AT MOST 1048576: true; the input reads as it did. -/
def fnExactAddFiberUptoRow : OpenClaim := { program := "ytldheoomlagapaa", sum := "150a9b8417e02a278f04fd374dc2ec541491a6db15f9ba48a666cadfbe98655e", func := "loop.example/g00897/laws.FnExactAddFiber", spec := "fnExactAddFiber", inPlace := ["slices.overlaps[loop.example/g00897/impl.Fiber]"], apart := false, narrowed := true }
def FnExactAddFiberUptoSaid : Prop := fnExactAddFiberUptoRow.holds Try.pinned (OpenSpec.upto fnExactAddFiberSpec)

/-- 'laws.FnNetworks', WHERE WHAT IT READS IS OF BULK AT MOST 1048576: true; the input reads as it did. -/
def fnNetworksUptoRow : OpenClaim := { program := "ytldheoomlagapaa", sum := "150a9b8417e02a278f04fd374dc2ec541491a6db15f9ba48a666cadfbe98655e", func := "loop.example/g00897/laws.FnNetworks", spec := "fnNetworks", inPlace := ["slices.overlaps[loop.example/g00897/impl.Fiber]"], unfollowed := true, recurses := true, apart := false, narrowed := true }
def FnNetworksUptoSaid : Prop := fnNetworksUptoRow.holds Try.pinned (OpenSpec.upto fnNetworksSpec)

/-- 'laws.FnExactFibersBetween', WHERE WHAT IT READS IS OF BULK AT MOST 1048576: true; the input reads as it did. -/
def fnExactFibersBetweenUptoRow : OpenClaim := { program := "ytldheoomlagapaa", sum := "150a9b8417e02a278f04fd374dc2ec541491a6db15f9ba48a666cadfbe98655e", func := "loop.example/g00897/laws.FnExactFibersBetween", spec := "fnExactFibersBetween", apart := false, narrowed := true }
def FnExactFibersBetweenUptoSaid : Prop := fnExactFibersBetweenUptoRow.holds Try.pinned (OpenSpec.upto fnExactFibersBetweenSpec)

/-- 'laws.FnExactIsValidRoute', WHERE WHAT IT READS IS OF BULK AT MOST 1048576: true; the input reads as it did. -/
def fnExactIsValidRouteUptoRow : OpenClaim := { program := "ytldheoomlagapaa", sum := "150a9b8417e02a278f04fd374dc2ec541491a6db15f9ba48a666cadfbe98655e", func := "loop.example/g00897/laws.FnExactIsValidRoute", spec := "fnExactIsValidRoute", apart := false, narrowed := true }
def FnExactIsValidRouteUptoSaid : Prop := fnExactIsValidRouteUptoRow.holds Try.pinned (OpenSpec.upto fnExactIsValidRouteSpec)

end Rows
end Go.Proofs.Ytldheoomlagapaa
