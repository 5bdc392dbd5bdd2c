/-
  DERIVED. GIVEN WITH THE SEED: THE CARDS: each row of YtfggacnkediolaaDoorRows.lean that lists a variable, with what it lists TIED to the program's text (the seventh form; the later family's looks); each row that meets fmt, with fmt's text TOLD by the authors' own Lean function (tested against real Go, not proved from fmt's source: count such statements apart). THE CARD IS WHAT COUNTS. Prove the row's statement (the work); the ties are given (YtfggacnkediolaaDoorTie.lean); close each card by the builder's one call (the guide's Derived/Test/ToyasCard.lean, 'card_holds'). Laid BY PROGRAM, IN A SANDBOX (cutbox-door.mjs). By AI agents, Wed Nov 11 2026. No macro, syntax, notation, axiom, sorry.
-/
import Derived.Test.YtfggacnkediolaaDoorRows
import GoSem.ClaimSeven
namespace Go.Proofs.YtfggacnkediolaaDoor
namespace Rows

/-- THE TIED CARD OF 'laws.FnExactParsePoly'. -/
def fnExactParsePolyCard : Claim7 := { stood := { row := fnExactParsePolyRow, standIns := [], harness := (true, "bcf808408751fecf356357d57868b62d778962ec0fdb36cc257a1fe58f188d12"), looks := true }, kinds := [], alts := [], laidByText := true, laidKinds := [.data, .data, .data, .data, .sentinel, .sentinel, .data, .pinned], laidTests := true, laidLooks := .later }
def FnExactParsePolyCardSaid : Prop := Claim7.holds Tryd.pinned (.plain (OpenSpec.ofChange fnExactParsePolySpec)) fnExactParsePolyCard

/-- THE SECOND FORM's CARD OF 'laws.FnExactParsePoly'. -/
def fnExactParsePolyUptoCard : Claim7 := { stood := { row := fnExactParsePolyUptoRow, standIns := [], harness := (true, "bcf808408751fecf356357d57868b62d778962ec0fdb36cc257a1fe58f188d12"), looks := true }, kinds := [], alts := [], laidByText := true, laidKinds := [.data, .data, .data, .data, .sentinel, .sentinel, .data, .pinned], laidTests := true, laidLooks := .later }
def FnExactParsePolyUptoCardSaid : Prop := Claim7.holds Tryd.pinned (.plain (OpenSpec.upto fnExactParsePolySpec)) fnExactParsePolyUptoCard
end Rows
end Go.Proofs.YtfggacnkediolaaDoor
