/-
  DERIVED. GIVEN WITH THE SEED: THE CARDS: each row of YtilklngkmdffbaaDoorRows.lean that lists a variable, with what it lists TIED to the program's text (the seventh form; the later family's looks); each row that meets fmt, with fmt's text TOLD by the authors' own Lean function (tested against real Go, not proved from fmt's source: count such statements apart). THE CARD IS WHAT COUNTS. Prove the row's statement (the work); the ties are given (YtilklngkmdffbaaDoorTie.lean); close each card by the builder's one call (the guide's Derived/Test/ToyasCard.lean, 'card_holds'). Laid BY PROGRAM, IN A SANDBOX (cutbox-door.mjs). By AI agents, Wed Nov 11 2026. No macro, syntax, notation, axiom, sorry.
-/
import Derived.Test.YtilklngkmdffbaaDoorRows
import GoSem.ClaimSeven
namespace Go.Proofs.YtilklngkmdffbaaDoor
namespace Rows

/-- THE TIED CARD OF 'laws.FnExactFormatNetwork'. -/
def fnExactFormatNetworkCard : Claim7 := { stood := { row := fnExactFormatNetworkRow, standIns := [], harness := (true, "72d30b07ba9d54bf42017d5e9f0d957aa21410e0d18a107ff744847ac8fac693"), looks := true }, kinds := [], alts := [], laidByText := true, laidKinds := [.data, .data, .data], laidTests := true, laidLooks := .later }
def FnExactFormatNetworkCardSaid : Prop := Claim7.holds Tryd.pinned (.plain (OpenSpec.ofChange fnExactFormatNetworkSpec)) fnExactFormatNetworkCard

/-- THE TIED CARD OF 'laws.FnExactFormatRoute'. -/
def fnExactFormatRouteCard : Claim7 := { stood := { row := fnExactFormatRouteRow, standIns := [], harness := (true, "72d30b07ba9d54bf42017d5e9f0d957aa21410e0d18a107ff744847ac8fac693"), looks := true }, kinds := [], alts := [], laidByText := true, laidKinds := [.data, .data, .data], laidTests := true, laidLooks := .later }
def FnExactFormatRouteCardSaid : Prop := Claim7.holds Tryd.pinned (.plain (OpenSpec.ofChange fnExactFormatRouteSpec)) fnExactFormatRouteCard

/-- THE TIED CARD OF 'laws.FnExactParseNetwork'. -/
def fnExactParseNetworkCard : Claim7 := { stood := { row := fnExactParseNetworkRow, standIns := [], harness := (true, "72d30b07ba9d54bf42017d5e9f0d957aa21410e0d18a107ff744847ac8fac693"), looks := true }, kinds := [], alts := [], laidByText := true, laidKinds := [.data, .data, .data, .data, .sentinel, .sentinel, .pinned], laidTests := true, laidLooks := .later }
def FnExactParseNetworkCardSaid : Prop := Claim7.holds Tryd.pinned (.plain (OpenSpec.ofChange fnExactParseNetworkSpec)) fnExactParseNetworkCard

/-- THE SECOND FORM's CARD OF 'laws.FnExactFormatNetwork'. -/
def fnExactFormatNetworkUptoCard : Claim7 := { stood := { row := fnExactFormatNetworkUptoRow, standIns := [], harness := (true, "72d30b07ba9d54bf42017d5e9f0d957aa21410e0d18a107ff744847ac8fac693"), looks := true }, kinds := [], alts := [], laidByText := true, laidKinds := [.data, .data, .data], laidTests := true, laidLooks := .later }
def FnExactFormatNetworkUptoCardSaid : Prop := Claim7.holds Tryd.pinned (.plain (OpenSpec.upto fnExactFormatNetworkSpec)) fnExactFormatNetworkUptoCard

/-- THE SECOND FORM's CARD OF 'laws.FnExactFormatRoute'. -/
def fnExactFormatRouteUptoCard : Claim7 := { stood := { row := fnExactFormatRouteUptoRow, standIns := [], harness := (true, "72d30b07ba9d54bf42017d5e9f0d957aa21410e0d18a107ff744847ac8fac693"), looks := true }, kinds := [], alts := [], laidByText := true, laidKinds := [.data, .data, .data], laidTests := true, laidLooks := .later }
def FnExactFormatRouteUptoCardSaid : Prop := Claim7.holds Tryd.pinned (.plain (OpenSpec.upto fnExactFormatRouteSpec)) fnExactFormatRouteUptoCard

/-- THE SECOND FORM's CARD OF 'laws.FnExactParseNetwork'. -/
def fnExactParseNetworkUptoCard : Claim7 := { stood := { row := fnExactParseNetworkUptoRow, standIns := [], harness := (true, "72d30b07ba9d54bf42017d5e9f0d957aa21410e0d18a107ff744847ac8fac693"), looks := true }, kinds := [], alts := [], laidByText := true, laidKinds := [.data, .data, .data, .data, .sentinel, .sentinel, .pinned], laidTests := true, laidLooks := .later }
def FnExactParseNetworkUptoCardSaid : Prop := Claim7.holds Tryd.pinned (.plain (OpenSpec.upto fnExactParseNetworkSpec)) fnExactParseNetworkUptoCard
end Rows
end Go.Proofs.YtilklngkmdffbaaDoor
