/-
  DERIVED. GIVEN WITH THE SEED: THE CARDS: each row of YtofppmieipiidaaDoorRows.lean that lists a variable, with what it lists TIED to the program's text (the seventh form; the later family's looks); each row that meets fmt, with fmt's text TOLD by the authors' own Lean function (tested against real Go, not proved from fmt's source: count such statements apart). THE CARD IS WHAT COUNTS. Prove the row's statement (the work); the ties are given (YtofppmieipiidaaDoorTie.lean); close each card by the builder's one call (the guide's Derived/Test/ToyasCard.lean, 'card_holds'). Laid BY PROGRAM, IN A SANDBOX (cutbox-door.mjs). By AI agents, Wed Nov 11 2026. No macro, syntax, notation, axiom, sorry.
-/
import Derived.Test.YtofppmieipiidaaDoorRows
import GoSem.ClaimSeven
namespace Go.Proofs.YtofppmieipiidaaDoor
namespace Rows

/-- THE TIED CARD OF 'laws.FnExactPolyText'. -/
def fnExactPolyTextCard : Claim7 := { stood := { row := fnExactPolyTextRow, standIns := [], harness := (true, "95736dc42043d8e4ef733b5acb884fe52f1b16d8f11ecf77ffc7f4538a635129"), looks := false }, kinds := [], alts := [], laidByText := true, laidKinds := [.data, .data, .data, .data], laidTests := true, laidLooks := .later }
def FnExactPolyTextCardSaid : Prop := Claim7.holds Tryd.pinned (.plain (OpenSpec.ofChange fnExactPolyTextSpec)) fnExactPolyTextCard

/-- THE TIED CARD OF 'laws.FnExactFractionText'. -/
def fnExactFractionTextCard : Claim7 := { stood := { row := fnExactFractionTextRow, standIns := [], harness := (true, "95736dc42043d8e4ef733b5acb884fe52f1b16d8f11ecf77ffc7f4538a635129"), looks := false }, kinds := [], alts := [], laidByText := true, laidKinds := [.data, .data, .data, .data], laidTests := true, laidLooks := .later }
def FnExactFractionTextCardSaid : Prop := Claim7.holds Tryd.pinned (.plain (OpenSpec.ofChange fnExactFractionTextSpec)) fnExactFractionTextCard

/-- THE SECOND FORM's CARD OF 'laws.FnExactPolyText'. -/
def fnExactPolyTextUptoCard : Claim7 := { stood := { row := fnExactPolyTextUptoRow, standIns := [], harness := (true, "95736dc42043d8e4ef733b5acb884fe52f1b16d8f11ecf77ffc7f4538a635129"), looks := false }, kinds := [], alts := [], laidByText := true, laidKinds := [.data, .data, .data, .data], laidTests := true, laidLooks := .later }
def FnExactPolyTextUptoCardSaid : Prop := Claim7.holds Tryd.pinned (.plain (OpenSpec.upto fnExactPolyTextSpec)) fnExactPolyTextUptoCard

/-- THE SECOND FORM's CARD OF 'laws.FnExactFractionText'. -/
def fnExactFractionTextUptoCard : Claim7 := { stood := { row := fnExactFractionTextUptoRow, standIns := [], harness := (true, "95736dc42043d8e4ef733b5acb884fe52f1b16d8f11ecf77ffc7f4538a635129"), looks := false }, kinds := [], alts := [], laidByText := true, laidKinds := [.data, .data, .data, .data], laidTests := true, laidLooks := .later }
def FnExactFractionTextUptoCardSaid : Prop := Claim7.holds Tryd.pinned (.plain (OpenSpec.upto fnExactFractionTextSpec)) fnExactFractionTextUptoCard
end Rows
end Go.Proofs.YtofppmieipiidaaDoor
