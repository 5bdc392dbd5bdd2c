/-
  DERIVED. GIVEN WITH THE SEED: THE CARDS: each row of YtekcehkhdjoffaaGreatDoorRows.lean that lists a variable, with what it lists TIED to the program's text (the seventh form; the later family's looks); each row that meets fmt, with fmt's text TOLD by the authors' own Lean function (tested against real Go, not proved from fmt's source: count such statements apart). THE CARD IS WHAT COUNTS. Prove the row's statement (the work); the ties are given (YtekcehkhdjoffaaGreatDoorTie.lean); close each card by the builder's one call (the guide's Derived/Test/ToyasCard.lean, 'card_holds'). Laid BY PROGRAM, IN A SANDBOX (cutbox-door.mjs). By AI agents, Wed Nov 11 2026. No macro, syntax, notation, axiom, sorry.
-/
import Derived.Test.YtekcehkhdjoffaaGreatDoorRows
import GoSem.ClaimSeven
namespace Go.Proofs.YtekcehkhdjoffaaGreatDoor
namespace Rows

/-- THE TIED CARD OF 'laws.FnExactRationalGraph'. -/
def fnExactRationalGraphCard : Claim7 := { stood := { row := fnExactRationalGraphRow, standIns := [], harness := (true, "c5eae185eb67d594bf2b2b3d008cfc8fd2fc3d7b28eff9a5e703c84ec120a623"), looks := false }, kinds := [], alts := [], laidByText := true, laidKinds := [.data], laidTests := true, laidLooks := .later }
def FnExactRationalGraphCardSaid : Prop := Claim7.holds Tryz.pinned (.plain (OpenSpec.ofChange fnExactRationalGraphSpec)) fnExactRationalGraphCard

/-- THE SECOND FORM's CARD OF 'laws.FnExactRationalGraph'. -/
def fnExactRationalGraphUptoCard : Claim7 := { stood := { row := fnExactRationalGraphUptoRow, standIns := [], harness := (true, "c5eae185eb67d594bf2b2b3d008cfc8fd2fc3d7b28eff9a5e703c84ec120a623"), looks := false }, kinds := [], alts := [], laidByText := true, laidKinds := [.data], laidTests := true, laidLooks := .later }
def FnExactRationalGraphUptoCardSaid : Prop := Claim7.holds Tryz.pinned (.plain (OpenSpec.upto fnExactRationalGraphSpec)) fnExactRationalGraphUptoCard
end Rows
end Go.Proofs.YtekcehkhdjoffaaGreatDoor
