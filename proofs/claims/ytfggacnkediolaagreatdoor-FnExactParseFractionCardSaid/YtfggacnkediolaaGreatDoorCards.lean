/-
  DERIVED. GIVEN WITH THE SEED: THE CARDS: each row of YtfggacnkediolaaGreatDoorRows.lean that lists a variable, with what it lists TIED to the program's text (the seventh form; the later family's looks); each row that meets fmt, with fmt's text TOLD by the authors' own Lean function (tested against real Go, not proved from fmt's source: count such statements apart). THE CARD IS WHAT COUNTS. Prove the row's statement (the work); the ties are given (YtfggacnkediolaaGreatDoorTie.lean); close each card by the builder's one call (the guide's Derived/Test/ToyasCard.lean, 'card_holds'). Laid BY PROGRAM, IN A SANDBOX (cutbox-door.mjs). By AI agents, Wed Nov 11 2026. No macro, syntax, notation, axiom, sorry.
-/
import Derived.Test.YtfggacnkediolaaGreatDoorRows
import GoSem.ClaimSeven
namespace Go.Proofs.YtfggacnkediolaaGreatDoor
namespace Rows

/-- THE TIED CARD OF 'laws.FnExactParseFraction'. -/
def fnExactParseFractionCard : Claim7 := { stood := { row := fnExactParseFractionRow, standIns := [], harness := (true, "d3d15ccee144517114c2a1e0f3dd2e12156f37750c718df7541ebad3dfed3f28"), looks := true }, kinds := [], alts := [], laidByText := true, laidKinds := [.data, .data, .data, .data, .sentinel, .sentinel, .data, .pinned], laidTests := true, laidLooks := .later }
def FnExactParseFractionCardSaid : Prop := Claim7.holds Tryz.pinned (.plain (OpenSpec.ofChange fnExactParseFractionSpec)) fnExactParseFractionCard

/-- THE SECOND FORM's CARD OF 'laws.FnExactParseFraction'. -/
def fnExactParseFractionUptoCard : Claim7 := { stood := { row := fnExactParseFractionUptoRow, standIns := [], harness := (true, "d3d15ccee144517114c2a1e0f3dd2e12156f37750c718df7541ebad3dfed3f28"), looks := true }, kinds := [], alts := [], laidByText := true, laidKinds := [.data, .data, .data, .data, .sentinel, .sentinel, .data, .pinned], laidTests := true, laidLooks := .later }
def FnExactParseFractionUptoCardSaid : Prop := Claim7.holds Tryz.pinned (.plain (OpenSpec.upto fnExactParseFractionSpec)) fnExactParseFractionUptoCard
end Rows
end Go.Proofs.YtfggacnkediolaaGreatDoor
