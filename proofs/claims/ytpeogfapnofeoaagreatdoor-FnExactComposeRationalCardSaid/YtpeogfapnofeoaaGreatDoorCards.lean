/-
  DERIVED. GIVEN WITH THE SEED: THE CARDS: each row of YtpeogfapnofeoaaGreatDoorRows.lean that lists a variable, with what it lists TIED to the program's text (the seventh form; the later family's looks); each row that meets fmt, with fmt's text TOLD by the authors' own Lean function (tested against real Go, not proved from fmt's source: count such statements apart). THE CARD IS WHAT COUNTS. Prove the row's statement (the work); the ties are given (YtpeogfapnofeoaaGreatDoorTie.lean); close each card by the builder's one call (the guide's Derived/Test/ToyasCard.lean, 'card_holds'). Laid BY PROGRAM, IN A SANDBOX (cutbox-door.mjs). By AI agents, Wed Nov 11 2026. No macro, syntax, notation, axiom, sorry.
-/
import Derived.Test.YtpeogfapnofeoaaGreatDoorRows
import GoSem.ClaimSeven
namespace Go.Proofs.YtpeogfapnofeoaaGreatDoor
namespace Rows

/-- THE TIED CARD OF 'laws.FnExactHasRatPair'. -/
def fnExactHasRatPairCard : Claim7 := { stood := { row := fnExactHasRatPairRow, standIns := [], harness := (true, "e5396180a55d613d3deb7fe42313e414f01a7e10abe6726c690cc1099e47ddf8"), looks := false }, kinds := [], alts := [], laidByText := true, laidKinds := [.data], laidTests := true, laidLooks := .later }
def FnExactHasRatPairCardSaid : Prop := Claim7.holds Tryz.pinned (.plain (OpenSpec.ofChange fnExactHasRatPairSpec)) fnExactHasRatPairCard

/-- THE TIED CARD OF 'laws.FnExactRatRelationFrom'. -/
def fnExactRatRelationFromCard : Claim7 := { stood := { row := fnExactRatRelationFromRow, standIns := [], harness := (true, "e5396180a55d613d3deb7fe42313e414f01a7e10abe6726c690cc1099e47ddf8"), looks := false }, kinds := [], alts := [], laidByText := true, laidKinds := [.data], laidTests := true, laidLooks := .later }
def FnExactRatRelationFromCardSaid : Prop := Claim7.holds Tryz.pinned (.plain (OpenSpec.ofChange fnExactRatRelationFromSpec)) fnExactRatRelationFromCard

/-- THE TIED CARD OF 'laws.FnExactConverseRational'. -/
def fnExactConverseRationalCard : Claim7 := { stood := { row := fnExactConverseRationalRow, standIns := [], harness := (true, "e5396180a55d613d3deb7fe42313e414f01a7e10abe6726c690cc1099e47ddf8"), looks := false }, kinds := [], alts := [], laidByText := true, laidKinds := [.data], laidTests := true, laidLooks := .later }
def FnExactConverseRationalCardSaid : Prop := Claim7.holds Tryz.pinned (.plain (OpenSpec.ofChange fnExactConverseRationalSpec)) fnExactConverseRationalCard

/-- THE TIED CARD OF 'laws.FnExactTensorRational'. -/
def fnExactTensorRationalCard : Claim7 := { stood := { row := fnExactTensorRationalRow, standIns := [], harness := (true, "e5396180a55d613d3deb7fe42313e414f01a7e10abe6726c690cc1099e47ddf8"), looks := false }, kinds := [], alts := [], laidByText := true, laidKinds := [.data], laidTests := true, laidLooks := .later }
def FnExactTensorRationalCardSaid : Prop := Claim7.holds Tryz.pinned (.plain (OpenSpec.ofChange fnExactTensorRationalSpec)) fnExactTensorRationalCard

/-- THE TIED CARD OF 'laws.FnExactComposeRational'. -/
def fnExactComposeRationalCard : Claim7 := { stood := { row := fnExactComposeRationalRow, standIns := [], harness := (true, "e5396180a55d613d3deb7fe42313e414f01a7e10abe6726c690cc1099e47ddf8"), looks := false }, kinds := [], alts := [], laidByText := true, laidKinds := [.data], laidTests := true, laidLooks := .later }
def FnExactComposeRationalCardSaid : Prop := Claim7.holds Tryz.pinned (.plain (OpenSpec.ofChange fnExactComposeRationalSpec)) fnExactComposeRationalCard

/-- THE SECOND FORM's CARD OF 'laws.FnExactHasRatPair'. -/
def fnExactHasRatPairUptoCard : Claim7 := { stood := { row := fnExactHasRatPairUptoRow, standIns := [], harness := (true, "e5396180a55d613d3deb7fe42313e414f01a7e10abe6726c690cc1099e47ddf8"), looks := false }, kinds := [], alts := [], laidByText := true, laidKinds := [.data], laidTests := true, laidLooks := .later }
def FnExactHasRatPairUptoCardSaid : Prop := Claim7.holds Tryz.pinned (.plain (OpenSpec.upto fnExactHasRatPairSpec)) fnExactHasRatPairUptoCard

/-- THE SECOND FORM's CARD OF 'laws.FnExactRatRelationFrom'. -/
def fnExactRatRelationFromUptoCard : Claim7 := { stood := { row := fnExactRatRelationFromUptoRow, standIns := [], harness := (true, "e5396180a55d613d3deb7fe42313e414f01a7e10abe6726c690cc1099e47ddf8"), looks := false }, kinds := [], alts := [], laidByText := true, laidKinds := [.data], laidTests := true, laidLooks := .later }
def FnExactRatRelationFromUptoCardSaid : Prop := Claim7.holds Tryz.pinned (.plain (OpenSpec.upto fnExactRatRelationFromSpec)) fnExactRatRelationFromUptoCard

/-- THE SECOND FORM's CARD OF 'laws.FnExactConverseRational'. -/
def fnExactConverseRationalUptoCard : Claim7 := { stood := { row := fnExactConverseRationalUptoRow, standIns := [], harness := (true, "e5396180a55d613d3deb7fe42313e414f01a7e10abe6726c690cc1099e47ddf8"), looks := false }, kinds := [], alts := [], laidByText := true, laidKinds := [.data], laidTests := true, laidLooks := .later }
def FnExactConverseRationalUptoCardSaid : Prop := Claim7.holds Tryz.pinned (.plain (OpenSpec.upto fnExactConverseRationalSpec)) fnExactConverseRationalUptoCard

/-- THE SECOND FORM's CARD OF 'laws.FnExactTensorRational'. -/
def fnExactTensorRationalUptoCard : Claim7 := { stood := { row := fnExactTensorRationalUptoRow, standIns := [], harness := (true, "e5396180a55d613d3deb7fe42313e414f01a7e10abe6726c690cc1099e47ddf8"), looks := false }, kinds := [], alts := [], laidByText := true, laidKinds := [.data], laidTests := true, laidLooks := .later }
def FnExactTensorRationalUptoCardSaid : Prop := Claim7.holds Tryz.pinned (.plain (OpenSpec.upto fnExactTensorRationalSpec)) fnExactTensorRationalUptoCard

/-- THE SECOND FORM's CARD OF 'laws.FnExactComposeRational'. -/
def fnExactComposeRationalUptoCard : Claim7 := { stood := { row := fnExactComposeRationalUptoRow, standIns := [], harness := (true, "e5396180a55d613d3deb7fe42313e414f01a7e10abe6726c690cc1099e47ddf8"), looks := false }, kinds := [], alts := [], laidByText := true, laidKinds := [.data], laidTests := true, laidLooks := .later }
def FnExactComposeRationalUptoCardSaid : Prop := Claim7.holds Tryz.pinned (.plain (OpenSpec.upto fnExactComposeRationalSpec)) fnExactComposeRationalUptoCard
end Rows
end Go.Proofs.YtpeogfapnofeoaaGreatDoor
