/-
  DERIVED. GIVEN WITH THE SEED: THE CARDS: each row of YtilklngkmdffbaaGreatDoorRows.lean that lists a variable, with what it lists TIED to the program's text (the seventh form; the later family's looks); each row that meets fmt, with fmt's text TOLD by the authors' own Lean function (tested against real Go, not proved from fmt's source: count such statements apart). THE CARD IS WHAT COUNTS. Prove the row's statement (the work); the ties are given (YtilklngkmdffbaaGreatDoorTie.lean); close each card by the builder's one call (the guide's Derived/Test/ToyasCard.lean, 'card_holds'). Laid BY PROGRAM, IN A SANDBOX (cutbox-door.mjs). By AI agents, Wed Nov 11 2026. No macro, syntax, notation, axiom, sorry.
-/
import Derived.Test.YtilklngkmdffbaaGreatDoorRows
import GoSem.ClaimSeven
namespace Go.Proofs.YtilklngkmdffbaaGreatDoor
namespace Rows

/-- THE TIED CARD OF 'laws.FnExactParseRoute'. -/
def fnExactParseRouteCard : Claim7 := { stood := { row := fnExactParseRouteRow, standIns := [], harness := (true, "bf8d3be672a02dad441eff63a89ece7c3f01b7a19579a4cccba944ce27edb970"), looks := true }, kinds := [], alts := [], laidByText := true, laidKinds := [.data, .data, .data, .data, .sentinel, .sentinel, .pinned], laidTests := true, laidLooks := .later }
def FnExactParseRouteCardSaid : Prop := Claim7.holds Tryz.pinned (.plain (OpenSpec.ofChange fnExactParseRouteSpec)) fnExactParseRouteCard

/-- THE SECOND FORM's CARD OF 'laws.FnExactParseRoute'. -/
def fnExactParseRouteUptoCard : Claim7 := { stood := { row := fnExactParseRouteUptoRow, standIns := [], harness := (true, "bf8d3be672a02dad441eff63a89ece7c3f01b7a19579a4cccba944ce27edb970"), looks := true }, kinds := [], alts := [], laidByText := true, laidKinds := [.data, .data, .data, .data, .sentinel, .sentinel, .pinned], laidTests := true, laidLooks := .later }
def FnExactParseRouteUptoCardSaid : Prop := Claim7.holds Tryz.pinned (.plain (OpenSpec.upto fnExactParseRouteSpec)) fnExactParseRouteUptoCard
end Rows
end Go.Proofs.YtilklngkmdffbaaGreatDoor
