/-
  No cell of these rows narrows 'for every input' (looked for: loops, veiled, ifaces, maps, wideKeys, modest, calm, conditions, laid).
  DERIVED. THE GIVEN ROWS OF THIS SEAT. 6 by the template 'for every input the law returns true; each argument reads behind the call as it read before'; 0 by the template 'total and deterministic' (their statements: YtjebihhceechiaaTotals.lean).
  GIVEN WITH THE SEED: the statements are not yours to turn. If you find one false, say at which input.
  Laid BY PROGRAM, IN A SANDBOX (cutbox-rows.mjs): the forced cells as the released guide's own fill.sh prints them over the translation 7c46414996f56b48… (all of the seat's roots in one cut). By AI agents, Wed Nov 11 2026. No macro, syntax, notation, axiom, sorry.
-/
import Derived.Test.YtjebihhceechiaaChecked
import GoSem.Claim
import GoSem.ClaimJoined
import GoSem.ClaimMapViews
import Derived.JoinedTies
import Derived.KernelRfl
namespace Go.Proofs.Ytjebihhceechiaa
/- THE CELL 'sum', in the pinned program and in every row, IS THE sha256 OF THE DUMP (.gsa) THAT YtjebihhceechiaaProg.lean LOADS. Nothing in Lean hashes anything: it is a label: what it is worth is what the hold of that sum in a sandbox is worth. -/
noncomputable def Try.pinned : Pinned := { name := "ytjebihhceechiaa", sum := "7c46414996f56b48f94901957409996a1e2bba1b0ac19ec00705793ed03d414b", checked := Try.checked }
namespace Rows
def none {H : Type} : Left H := { results := [], args := [] }

/-- 'laws.FnExactConstants': WHATEVER THE INPUT: true; the input reads as it did. -/
def fnExactConstantsSpec : ChangeSpec := { name := "fnExactConstants", fn := fun _ => fun
  | [] => { results := [.lit (.bool true)], args := [] }
  | _ => none }
def fnExactConstantsRow : OpenClaim := { program := "ytjebihhceechiaa", sum := "7c46414996f56b48f94901957409996a1e2bba1b0ac19ec00705793ed03d414b", func := "loop.example/g00897/laws.FnExactConstants", spec := "fnExactConstants", apart := false }
def FnExactConstantsSaid : Prop := fnExactConstantsRow.holds Try.pinned (OpenSpec.ofChange fnExactConstantsSpec)

/-- ITS FALSE NEIGHBOUR: 'it returns false'. Refute it at one input. -/
def fnExactConstantsWrong : ChangeSpec := { name := "fnExactConstants", fn := fun _ => fun
  | [] => { results := [.lit (.bool false)], args := [] }
  | _ => none }
def FnExactConstantsWrongFalsely : Prop := fnExactConstantsRow.holds Try.pinned (OpenSpec.ofChange fnExactConstantsWrong)

/-- 'laws.FnExactLessString': WHATEVER THE INPUT: true; the input reads as it did. -/
def fnExactLessStringSpec : ChangeSpec := { name := "fnExactLessString", fn := fun _ => fun
  | [d1, d2] => { results := [.lit (.bool true)], args := [d1, d2] }
  | _ => none }
def fnExactLessStringRow : OpenClaim := { program := "ytjebihhceechiaa", sum := "7c46414996f56b48f94901957409996a1e2bba1b0ac19ec00705793ed03d414b", func := "loop.example/g00897/laws.FnExactLessString", spec := "fnExactLessString", apart := false }
def FnExactLessStringSaid : Prop := fnExactLessStringRow.holds Try.pinned (OpenSpec.ofChange fnExactLessStringSpec)

/-- ITS FALSE NEIGHBOUR: 'it returns false'. Refute it at one input. -/
def fnExactLessStringWrong : ChangeSpec := { name := "fnExactLessString", fn := fun _ => fun
  | [d1, d2] => { results := [.lit (.bool false)], args := [d1, d2] }
  | _ => none }
def FnExactLessStringWrongFalsely : Prop := fnExactLessStringRow.holds Try.pinned (OpenSpec.ofChange fnExactLessStringWrong)

/-- 'laws.FnExactChecksum': WHATEVER THE INPUT: true; the input reads as it did. -/
def fnExactChecksumSpec : ChangeSpec := { name := "fnExactChecksum", fn := fun _ => fun
  | [d] => { results := [.lit (.bool true)], args := [d] }
  | _ => none }
def fnExactChecksumRow : OpenClaim := { program := "ytjebihhceechiaa", sum := "7c46414996f56b48f94901957409996a1e2bba1b0ac19ec00705793ed03d414b", func := "loop.example/g00897/laws.FnExactChecksum", spec := "fnExactChecksum", apart := false }
def FnExactChecksumSaid : Prop := fnExactChecksumRow.holds Try.pinned (OpenSpec.ofChange fnExactChecksumSpec)

/-- ITS FALSE NEIGHBOUR: 'it returns false'. Refute it at one input. -/
def fnExactChecksumWrong : ChangeSpec := { name := "fnExactChecksum", fn := fun _ => fun
  | [d] => { results := [.lit (.bool false)], args := [d] }
  | _ => none }
def FnExactChecksumWrongFalsely : Prop := fnExactChecksumRow.holds Try.pinned (OpenSpec.ofChange fnExactChecksumWrong)

/-- 'laws.FnExactSplitString': WHATEVER THE INPUT: true; the input reads as it did. -/
def fnExactSplitStringSpec : ChangeSpec := { name := "fnExactSplitString", fn := fun _ => fun
  | [d1, d2] => { results := [.lit (.bool true)], args := [d1, d2] }
  | _ => none }
def fnExactSplitStringRow : OpenClaim := { program := "ytjebihhceechiaa", sum := "7c46414996f56b48f94901957409996a1e2bba1b0ac19ec00705793ed03d414b", func := "loop.example/g00897/laws.FnExactSplitString", spec := "fnExactSplitString", apart := false }
def FnExactSplitStringSaid : Prop := fnExactSplitStringRow.holds Try.pinned (OpenSpec.ofChange fnExactSplitStringSpec)

/-- ITS FALSE NEIGHBOUR: 'it returns false'. Refute it at one input. -/
def fnExactSplitStringWrong : ChangeSpec := { name := "fnExactSplitString", fn := fun _ => fun
  | [d1, d2] => { results := [.lit (.bool false)], args := [d1, d2] }
  | _ => none }
def FnExactSplitStringWrongFalsely : Prop := fnExactSplitStringRow.holds Try.pinned (OpenSpec.ofChange fnExactSplitStringWrong)

/-- 'laws.FnExactJoinStrings': WHATEVER THE INPUT: true; the input reads as it did. -/
def fnExactJoinStringsSpec : ChangeSpec := { name := "fnExactJoinStrings", fn := fun _ => fun
  | [d1, d2] => { results := [.lit (.bool true)], args := [d1, d2] }
  | _ => none }
def fnExactJoinStringsRow : OpenClaim := { program := "ytjebihhceechiaa", sum := "7c46414996f56b48f94901957409996a1e2bba1b0ac19ec00705793ed03d414b", func := "loop.example/g00897/laws.FnExactJoinStrings", spec := "fnExactJoinStrings", inPlace := ["internal/bytealg.IndexByteString", "internal/abi.NoEscape", "internal/bytealg.MakeNoZero"], apart := false }
def FnExactJoinStringsSaid : Prop := fnExactJoinStringsRow.holds Try.pinned (OpenSpec.ofChange fnExactJoinStringsSpec)

/-- ITS FALSE NEIGHBOUR: 'it returns false'. Refute it at one input. -/
def fnExactJoinStringsWrong : ChangeSpec := { name := "fnExactJoinStrings", fn := fun _ => fun
  | [d1, d2] => { results := [.lit (.bool false)], args := [d1, d2] }
  | _ => none }
def FnExactJoinStringsWrongFalsely : Prop := fnExactJoinStringsRow.holds Try.pinned (OpenSpec.ofChange fnExactJoinStringsWrong)

/-- 'laws.FnSplitJoin': WHATEVER THE INPUT: true; the input reads as it did. -/
def fnSplitJoinSpec : ChangeSpec := { name := "fnSplitJoin", fn := fun _ => fun
  | [d] => { results := [.lit (.bool true)], args := [d] }
  | _ => none }
def fnSplitJoinRow : OpenClaim := { program := "ytjebihhceechiaa", sum := "7c46414996f56b48f94901957409996a1e2bba1b0ac19ec00705793ed03d414b", func := "loop.example/g00897/laws.FnSplitJoin", spec := "fnSplitJoin", inPlace := ["internal/bytealg.IndexByteString", "internal/abi.NoEscape", "internal/bytealg.MakeNoZero"], apart := false }
def FnSplitJoinSaid : Prop := fnSplitJoinRow.holds Try.pinned (OpenSpec.ofChange fnSplitJoinSpec)

/-- ITS FALSE NEIGHBOUR: 'it returns false'. Refute it at one input. -/
def fnSplitJoinWrong : ChangeSpec := { name := "fnSplitJoin", fn := fun _ => fun
  | [d] => { results := [.lit (.bool false)], args := [d] }
  | _ => none }
def FnSplitJoinWrongFalsely : Prop := fnSplitJoinRow.holds Try.pinned (OpenSpec.ofChange fnSplitJoinWrong)

/- THE SECOND FORM. 'bulk': how many values and letters a reading holds, each counted each time it is reached (what is shared counts as often as it is met; a slice's spare places count too). A statement '..UptoSaid' is the law's where the arguments, and the package variables that the reading takes, are together of bulk at most 1048576: NARROWER than '..Said'. Prove '..Said' where nothing that the law and all that it calls make is longer than what came in: it says more and counts as full. Else prove '..UptoSaid'. A law counts once. -/
mutual
def uptoBulk {H : Type} : DataW H → Nat
  | .lit (.string bytes) => bytes.length + 1
  | .lit _ => 1
  | .nil => 1
  | .ptr d => uptoBulk d + 1
  | .slice elems spare => uptoBulkAll elems + uptoBulkAll spare + 1
  | .agg parts => uptoBulkAll parts + 1
  | .iface _ d => uptoBulk d + 1
  | .map entries => uptoBulkEntries entries + 1
  | .held _ => 1
def uptoBulkAll {H : Type} : List (DataW H) → Nat
  | [] => 0
  | d :: r => uptoBulk d + uptoBulkAll r
def uptoBulkEntries {H : Type} : List (Lit × DataW H) → Nat
  | [] => 0
  | x :: r => uptoBulkEntry x + uptoBulkEntries r
def uptoBulkEntry {H : Type} : Lit × DataW H → Nat
  | (.string bytes, d) => bytes.length + uptoBulk d + 1
  | (_, d) => uptoBulk d + 1
 end
def uptoSmall : (H : Type) → List (DataW H) → Bool := fun _ ds => decide (uptoBulkAll ds ≤ 1048576)
def OpenSpec.upto (s : _root_.Go.ChangeSpec) : _root_.Go.OpenSpec := { _root_.Go.OpenSpec.ofChange s with cond := some uptoSmall }

/-- 'laws.FnExactConstants', WHERE WHAT IT READS IS OF BULK AT MOST 1048576: true; the input reads as it did. -/
def fnExactConstantsUptoRow : OpenClaim := { program := "ytjebihhceechiaa", sum := "7c46414996f56b48f94901957409996a1e2bba1b0ac19ec00705793ed03d414b", func := "loop.example/g00897/laws.FnExactConstants", spec := "fnExactConstants", apart := false, narrowed := true }
def FnExactConstantsUptoSaid : Prop := fnExactConstantsUptoRow.holds Try.pinned (OpenSpec.upto fnExactConstantsSpec)

/-- 'laws.FnExactLessString', WHERE WHAT IT READS IS OF BULK AT MOST 1048576: true; the input reads as it did. -/
def fnExactLessStringUptoRow : OpenClaim := { program := "ytjebihhceechiaa", sum := "7c46414996f56b48f94901957409996a1e2bba1b0ac19ec00705793ed03d414b", func := "loop.example/g00897/laws.FnExactLessString", spec := "fnExactLessString", apart := false, narrowed := true }
def FnExactLessStringUptoSaid : Prop := fnExactLessStringUptoRow.holds Try.pinned (OpenSpec.upto fnExactLessStringSpec)

/-- 'laws.FnExactChecksum', WHERE WHAT IT READS IS OF BULK AT MOST 1048576: true; the input reads as it did. -/
def fnExactChecksumUptoRow : OpenClaim := { program := "ytjebihhceechiaa", sum := "7c46414996f56b48f94901957409996a1e2bba1b0ac19ec00705793ed03d414b", func := "loop.example/g00897/laws.FnExactChecksum", spec := "fnExactChecksum", apart := false, narrowed := true }
def FnExactChecksumUptoSaid : Prop := fnExactChecksumUptoRow.holds Try.pinned (OpenSpec.upto fnExactChecksumSpec)

/-- 'laws.FnExactSplitString', WHERE WHAT IT READS IS OF BULK AT MOST 1048576: true; the input reads as it did. -/
def fnExactSplitStringUptoRow : OpenClaim := { program := "ytjebihhceechiaa", sum := "7c46414996f56b48f94901957409996a1e2bba1b0ac19ec00705793ed03d414b", func := "loop.example/g00897/laws.FnExactSplitString", spec := "fnExactSplitString", apart := false, narrowed := true }
def FnExactSplitStringUptoSaid : Prop := fnExactSplitStringUptoRow.holds Try.pinned (OpenSpec.upto fnExactSplitStringSpec)

/-- 'laws.FnExactJoinStrings', WHERE WHAT IT READS IS OF BULK AT MOST 1048576: true; the input reads as it did. -/
def fnExactJoinStringsUptoRow : OpenClaim := { program := "ytjebihhceechiaa", sum := "7c46414996f56b48f94901957409996a1e2bba1b0ac19ec00705793ed03d414b", func := "loop.example/g00897/laws.FnExactJoinStrings", spec := "fnExactJoinStrings", inPlace := ["internal/bytealg.IndexByteString", "internal/abi.NoEscape", "internal/bytealg.MakeNoZero"], apart := false, narrowed := true }
def FnExactJoinStringsUptoSaid : Prop := fnExactJoinStringsUptoRow.holds Try.pinned (OpenSpec.upto fnExactJoinStringsSpec)

/-- 'laws.FnSplitJoin', WHERE WHAT IT READS IS OF BULK AT MOST 1048576: true; the input reads as it did. -/
def fnSplitJoinUptoRow : OpenClaim := { program := "ytjebihhceechiaa", sum := "7c46414996f56b48f94901957409996a1e2bba1b0ac19ec00705793ed03d414b", func := "loop.example/g00897/laws.FnSplitJoin", spec := "fnSplitJoin", inPlace := ["internal/bytealg.IndexByteString", "internal/abi.NoEscape", "internal/bytealg.MakeNoZero"], apart := false, narrowed := true }
def FnSplitJoinUptoSaid : Prop := fnSplitJoinUptoRow.holds Try.pinned (OpenSpec.upto fnSplitJoinSpec)

end Rows
end Go.Proofs.Ytjebihhceechiaa
