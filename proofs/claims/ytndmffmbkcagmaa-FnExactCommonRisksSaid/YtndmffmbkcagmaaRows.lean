/-
  No cell of these rows narrows 'for every input' (looked for: loops, veiled, ifaces, maps, wideKeys, modest, calm, conditions, laid).
  DERIVED. THE GIVEN ROWS OF THIS SEAT. 7 by the template 'for every input the law returns true; each argument reads behind the call as it read before'; 0 by the template 'total and deterministic' (their statements: YtndmffmbkcagmaaTotals.lean).
  GIVEN WITH THE SEED: the statements are not yours to turn. If you find one false, say at which input.
  Laid BY PROGRAM, IN A SANDBOX (cutbox-rows.mjs): the forced cells as the released guide's own fill.sh prints them over the translation 0687fb6195ac5bcf… (all of the seat's roots in one cut). By AI agents, Wed Nov 11 2026. No macro, syntax, notation, axiom, sorry.
-/
import Derived.Test.YtndmffmbkcagmaaChecked
import GoSem.Claim
import GoSem.ClaimJoined
import GoSem.ClaimMapViews
import Derived.JoinedTies
import Derived.KernelRfl
namespace Go.Proofs.Ytndmffmbkcagmaa
/- THE CELL 'sum', in the pinned program and in every row, IS THE sha256 OF THE DUMP (.gsa) THAT YtndmffmbkcagmaaProg.lean LOADS. Nothing in Lean hashes anything: it is a label: what it is worth is what the hold of that sum in a sandbox is worth. -/
noncomputable def Try.pinned : Pinned := { name := "ytndmffmbkcagmaa", sum := "0687fb6195ac5bcf33f550ee73e18f481cd2fbdc241bcc0e27c41682e985d6b4", checked := Try.checked }
namespace Rows
def none {H : Type} : Left H := { results := [], args := [] }

/-- 'laws.FnExactReverseRoute': WHATEVER THE INPUT: true; the input reads as it did. -/
def fnExactReverseRouteSpec : ChangeSpec := { name := "fnExactReverseRoute", fn := fun _ => fun
  | [d1, d2] => { results := [.lit (.bool true)], args := [d1, d2] }
  | _ => none }
def fnExactReverseRouteRow : OpenClaim := { program := "ytndmffmbkcagmaa", sum := "0687fb6195ac5bcf33f550ee73e18f481cd2fbdc241bcc0e27c41682e985d6b4", func := "loop.example/g00897/laws.FnExactReverseRoute", spec := "fnExactReverseRoute", apart := false }
def FnExactReverseRouteSaid : Prop := fnExactReverseRouteRow.holds Try.pinned (OpenSpec.ofChange fnExactReverseRouteSpec)

/-- ITS FALSE NEIGHBOUR: 'it returns false'. Refute it at one input. -/
def fnExactReverseRouteWrong : ChangeSpec := { name := "fnExactReverseRoute", fn := fun _ => fun
  | [d1, d2] => { results := [.lit (.bool false)], args := [d1, d2] }
  | _ => none }
def FnExactReverseRouteWrongFalsely : Prop := fnExactReverseRouteRow.holds Try.pinned (OpenSpec.ofChange fnExactReverseRouteWrong)

/-- 'laws.FnExactJoinRoutes': WHATEVER THE INPUT: true; the input reads as it did. -/
def fnExactJoinRoutesSpec : ChangeSpec := { name := "fnExactJoinRoutes", fn := fun _ => fun
  | [d1, d2, d3] => { results := [.lit (.bool true)], args := [d1, d2, d3] }
  | _ => none }
def fnExactJoinRoutesRow : OpenClaim := { program := "ytndmffmbkcagmaa", sum := "0687fb6195ac5bcf33f550ee73e18f481cd2fbdc241bcc0e27c41682e985d6b4", func := "loop.example/g00897/laws.FnExactJoinRoutes", spec := "fnExactJoinRoutes", apart := false }
def FnExactJoinRoutesSaid : Prop := fnExactJoinRoutesRow.holds Try.pinned (OpenSpec.ofChange fnExactJoinRoutesSpec)

/-- ITS FALSE NEIGHBOUR: 'it returns false'. Refute it at one input. -/
def fnExactJoinRoutesWrong : ChangeSpec := { name := "fnExactJoinRoutes", fn := fun _ => fun
  | [d1, d2, d3] => { results := [.lit (.bool false)], args := [d1, d2, d3] }
  | _ => none }
def FnExactJoinRoutesWrongFalsely : Prop := fnExactJoinRoutesRow.holds Try.pinned (OpenSpec.ofChange fnExactJoinRoutesWrong)

/-- 'laws.FnExactSharedFibers': WHATEVER THE INPUT: true; the input reads as it did. -/
def fnExactSharedFibersSpec : ChangeSpec := { name := "fnExactSharedFibers", fn := fun _ => fun
  | [d1, d2, d3] => { results := [.lit (.bool true)], args := [d1, d2, d3] }
  | _ => none }
def fnExactSharedFibersRow : OpenClaim := { program := "ytndmffmbkcagmaa", sum := "0687fb6195ac5bcf33f550ee73e18f481cd2fbdc241bcc0e27c41682e985d6b4", func := "loop.example/g00897/laws.FnExactSharedFibers", spec := "fnExactSharedFibers", recurses := true, apart := false }
def FnExactSharedFibersSaid : Prop := fnExactSharedFibersRow.holds Try.pinned (OpenSpec.ofChange fnExactSharedFibersSpec)

/-- ITS FALSE NEIGHBOUR: 'it returns false'. Refute it at one input. -/
def fnExactSharedFibersWrong : ChangeSpec := { name := "fnExactSharedFibers", fn := fun _ => fun
  | [d1, d2, d3] => { results := [.lit (.bool false)], args := [d1, d2, d3] }
  | _ => none }
def FnExactSharedFibersWrongFalsely : Prop := fnExactSharedFibersRow.holds Try.pinned (OpenSpec.ofChange fnExactSharedFibersWrong)

/-- 'laws.FnExactCommonRisks': WHATEVER THE INPUT: true; the input reads as it did. -/
def fnExactCommonRisksSpec : ChangeSpec := { name := "fnExactCommonRisks", fn := fun _ => fun
  | [d1, d2, d3] => { results := [.lit (.bool true)], args := [d1, d2, d3] }
  | _ => none }
def fnExactCommonRisksRow : OpenClaim := { program := "ytndmffmbkcagmaa", sum := "0687fb6195ac5bcf33f550ee73e18f481cd2fbdc241bcc0e27c41682e985d6b4", func := "loop.example/g00897/laws.FnExactCommonRisks", spec := "fnExactCommonRisks", unfollowed := true, recurses := true, apart := false }
def FnExactCommonRisksSaid : Prop := fnExactCommonRisksRow.holds Try.pinned (OpenSpec.ofChange fnExactCommonRisksSpec)

/-- ITS FALSE NEIGHBOUR: 'it returns false'. Refute it at one input. -/
def fnExactCommonRisksWrong : ChangeSpec := { name := "fnExactCommonRisks", fn := fun _ => fun
  | [d1, d2, d3] => { results := [.lit (.bool false)], args := [d1, d2, d3] }
  | _ => none }
def FnExactCommonRisksWrongFalsely : Prop := fnExactCommonRisksRow.holds Try.pinned (OpenSpec.ofChange fnExactCommonRisksWrong)

/-- 'laws.FnExactAreDisjoint': WHATEVER THE INPUT: true; the input reads as it did. -/
def fnExactAreDisjointSpec : ChangeSpec := { name := "fnExactAreDisjoint", fn := fun _ => fun
  | [d1, d2, d3, d4] => { results := [.lit (.bool true)], args := [d1, d2, d3, d4] }
  | _ => none }
def fnExactAreDisjointRow : OpenClaim := { program := "ytndmffmbkcagmaa", sum := "0687fb6195ac5bcf33f550ee73e18f481cd2fbdc241bcc0e27c41682e985d6b4", func := "loop.example/g00897/laws.FnExactAreDisjoint", spec := "fnExactAreDisjoint", unfollowed := true, recurses := true, apart := false }
def FnExactAreDisjointSaid : Prop := fnExactAreDisjointRow.holds Try.pinned (OpenSpec.ofChange fnExactAreDisjointSpec)

/-- ITS FALSE NEIGHBOUR: 'it returns false'. Refute it at one input. -/
def fnExactAreDisjointWrong : ChangeSpec := { name := "fnExactAreDisjoint", fn := fun _ => fun
  | [d1, d2, d3, d4] => { results := [.lit (.bool false)], args := [d1, d2, d3, d4] }
  | _ => none }
def FnExactAreDisjointWrongFalsely : Prop := fnExactAreDisjointRow.holds Try.pinned (OpenSpec.ofChange fnExactAreDisjointWrong)

/-- 'laws.FnExactRiskDisjoint': WHATEVER THE INPUT: true; the input reads as it did. -/
def fnExactRiskDisjointSpec : ChangeSpec := { name := "fnExactRiskDisjoint", fn := fun _ => fun
  | [d1, d2, d3] => { results := [.lit (.bool true)], args := [d1, d2, d3] }
  | _ => none }
def fnExactRiskDisjointRow : OpenClaim := { program := "ytndmffmbkcagmaa", sum := "0687fb6195ac5bcf33f550ee73e18f481cd2fbdc241bcc0e27c41682e985d6b4", func := "loop.example/g00897/laws.FnExactRiskDisjoint", spec := "fnExactRiskDisjoint", unfollowed := true, recurses := true, apart := false }
def FnExactRiskDisjointSaid : Prop := fnExactRiskDisjointRow.holds Try.pinned (OpenSpec.ofChange fnExactRiskDisjointSpec)

/-- ITS FALSE NEIGHBOUR: 'it returns false'. Refute it at one input. -/
def fnExactRiskDisjointWrong : ChangeSpec := { name := "fnExactRiskDisjoint", fn := fun _ => fun
  | [d1, d2, d3] => { results := [.lit (.bool false)], args := [d1, d2, d3] }
  | _ => none }
def FnExactRiskDisjointWrongFalsely : Prop := fnExactRiskDisjointRow.holds Try.pinned (OpenSpec.ofChange fnExactRiskDisjointWrong)

/-- 'laws.FnRoutes': WHATEVER THE INPUT: true; the input reads as it did. -/
def fnRoutesSpec : ChangeSpec := { name := "fnRoutes", fn := fun _ => fun
  | [d] => { results := [.lit (.bool true)], args := [d] }
  | _ => none }
def fnRoutesRow : OpenClaim := { program := "ytndmffmbkcagmaa", sum := "0687fb6195ac5bcf33f550ee73e18f481cd2fbdc241bcc0e27c41682e985d6b4", func := "loop.example/g00897/laws.FnRoutes", spec := "fnRoutes", recurses := true, apart := false }
def FnRoutesSaid : Prop := fnRoutesRow.holds Try.pinned (OpenSpec.ofChange fnRoutesSpec)

/-- ITS FALSE NEIGHBOUR: 'it returns false'. Refute it at one input. -/
def fnRoutesWrong : ChangeSpec := { name := "fnRoutes", fn := fun _ => fun
  | [d] => { results := [.lit (.bool false)], args := [d] }
  | _ => none }
def FnRoutesWrongFalsely : Prop := fnRoutesRow.holds Try.pinned (OpenSpec.ofChange fnRoutesWrong)

/- THE SECOND FORM. 'bulk': how many values and letters a reading holds, each counted each time it is reached (what is shared counts as often as it is met; a slice's spare places count too). A statement '..UptoSaid' is the law's where the arguments, and the package variables that the reading takes, are together of bulk at most 1048576: NARROWER than '..Said'. Prove '..Said' where nothing that the law and all that it calls make is longer than what came in: it says more and counts as full. Else prove '..UptoSaid'. A law counts once. -/
mutual
def uptoBulk {H : Type} : DataW H → Nat
  | .lit (.string bytes) => bytes.length + 1
  | .lit _ => 1
  | .nil => 1
  | .ptr d => uptoBulk d + 1
  | .slice elems spare => uptoBulkAll elems + uptoBulkAll spare + 1
  | .agg parts => uptoBulkAll parts + 1
  | .iface _ d => uptoBulk d + 1
  | .map entries => uptoBulkEntries entries + 1
  | .held _ => 1
def uptoBulkAll {H : Type} : List (DataW H) → Nat
  | [] => 0
  | d :: r => uptoBulk d + uptoBulkAll r
def uptoBulkEntries {H : Type} : List (Lit × DataW H) → Nat
  | [] => 0
  | x :: r => uptoBulkEntry x + uptoBulkEntries r
def uptoBulkEntry {H : Type} : Lit × DataW H → Nat
  | (.string bytes, d) => bytes.length + uptoBulk d + 1
  | (_, d) => uptoBulk d + 1
 end
def uptoSmall : (H : Type) → List (DataW H) → Bool := fun _ ds => decide (uptoBulkAll ds ≤ 1048576)
def OpenSpec.upto (s : _root_.Go.ChangeSpec) : _root_.Go.OpenSpec := { _root_.Go.OpenSpec.ofChange s with cond := some uptoSmall }

/-- 'laws.FnExactReverseRoute', WHERE WHAT IT READS IS OF BULK AT MOST 1048576: true; the input reads as it did. -/
def fnExactReverseRouteUptoRow : OpenClaim := { program := "ytndmffmbkcagmaa", sum := "0687fb6195ac5bcf33f550ee73e18f481cd2fbdc241bcc0e27c41682e985d6b4", func := "loop.example/g00897/laws.FnExactReverseRoute", spec := "fnExactReverseRoute", apart := false, narrowed := true }
def FnExactReverseRouteUptoSaid : Prop := fnExactReverseRouteUptoRow.holds Try.pinned (OpenSpec.upto fnExactReverseRouteSpec)

/-- 'laws.FnExactJoinRoutes', WHERE WHAT IT READS IS OF BULK AT MOST 1048576: true; the input reads as it did. -/
def fnExactJoinRoutesUptoRow : OpenClaim := { program := "ytndmffmbkcagmaa", sum := "0687fb6195ac5bcf33f550ee73e18f481cd2fbdc241bcc0e27c41682e985d6b4", func := "loop.example/g00897/laws.FnExactJoinRoutes", spec := "fnExactJoinRoutes", apart := false, narrowed := true }
def FnExactJoinRoutesUptoSaid : Prop := fnExactJoinRoutesUptoRow.holds Try.pinned (OpenSpec.upto fnExactJoinRoutesSpec)

/-- 'laws.FnExactSharedFibers', WHERE WHAT IT READS IS OF BULK AT MOST 1048576: true; the input reads as it did. -/
def fnExactSharedFibersUptoRow : OpenClaim := { program := "ytndmffmbkcagmaa", sum := "0687fb6195ac5bcf33f550ee73e18f481cd2fbdc241bcc0e27c41682e985d6b4", func := "loop.example/g00897/laws.FnExactSharedFibers", spec := "fnExactSharedFibers", recurses := true, apart := false, narrowed := true }
def FnExactSharedFibersUptoSaid : Prop := fnExactSharedFibersUptoRow.holds Try.pinned (OpenSpec.upto fnExactSharedFibersSpec)

/-- 'laws.FnExactCommonRisks', WHERE WHAT IT READS IS OF BULK AT MOST 1048576: true; the input reads as it did. -/
def fnExactCommonRisksUptoRow : OpenClaim := { program := "ytndmffmbkcagmaa", sum := "0687fb6195ac5bcf33f550ee73e18f481cd2fbdc241bcc0e27c41682e985d6b4", func := "loop.example/g00897/laws.FnExactCommonRisks", spec := "fnExactCommonRisks", unfollowed := true, recurses := true, apart := false, narrowed := true }
def FnExactCommonRisksUptoSaid : Prop := fnExactCommonRisksUptoRow.holds Try.pinned (OpenSpec.upto fnExactCommonRisksSpec)

/-- 'laws.FnExactAreDisjoint', WHERE WHAT IT READS IS OF BULK AT MOST 1048576: true; the input reads as it did. -/
def fnExactAreDisjointUptoRow : OpenClaim := { program := "ytndmffmbkcagmaa", sum := "0687fb6195ac5bcf33f550ee73e18f481cd2fbdc241bcc0e27c41682e985d6b4", func := "loop.example/g00897/laws.FnExactAreDisjoint", spec := "fnExactAreDisjoint", unfollowed := true, recurses := true, apart := false, narrowed := true }
def FnExactAreDisjointUptoSaid : Prop := fnExactAreDisjointUptoRow.holds Try.pinned (OpenSpec.upto fnExactAreDisjointSpec)

/-- 'laws.FnExactRiskDisjoint', WHERE WHAT IT READS IS OF BULK AT MOST 1048576: true; the input reads as it did. -/
def fnExactRiskDisjointUptoRow : OpenClaim := { program := "ytndmffmbkcagmaa", sum := "0687fb6195ac5bcf33f550ee73e18f481cd2fbdc241bcc0e27c41682e985d6b4", func := "loop.example/g00897/laws.FnExactRiskDisjoint", spec := "fnExactRiskDisjoint", unfollowed := true, recurses := true, apart := false, narrowed := true }
def FnExactRiskDisjointUptoSaid : Prop := fnExactRiskDisjointUptoRow.holds Try.pinned (OpenSpec.upto fnExactRiskDisjointSpec)

/-- 'laws.FnRoutes', WHERE WHAT IT READS IS OF BULK AT MOST 1048576: true; the input reads as it did. -/
def fnRoutesUptoRow : OpenClaim := { program := "ytndmffmbkcagmaa", sum := "0687fb6195ac5bcf33f550ee73e18f481cd2fbdc241bcc0e27c41682e985d6b4", func := "loop.example/g00897/laws.FnRoutes", spec := "fnRoutes", recurses := true, apart := false, narrowed := true }
def FnRoutesUptoSaid : Prop := fnRoutesUptoRow.holds Try.pinned (OpenSpec.upto fnRoutesSpec)

end Rows
end Go.Proofs.Ytndmffmbkcagmaa
