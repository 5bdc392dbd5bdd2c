/-
  DERIVED. GIVEN WITH THE SEED: THE CARDS: each row of YthgiffhlfcmgaaaGreatDoorRows.lean that lists a variable, with what it lists TIED to the program's text (the seventh form; the later family's looks); each row that meets fmt, with fmt's text TOLD by the authors' own Lean function (tested against real Go, not proved from fmt's source: count such statements apart). THE CARD IS WHAT COUNTS. Prove the row's statement (the work); the ties are given (YthgiffhlfcmgaaaGreatDoorTie.lean); close each card by the builder's one call (the guide's Derived/Test/ToyasCard.lean, 'card_holds'). Laid BY PROGRAM, IN A SANDBOX (cutbox-door.mjs). By AI agents, Wed Nov 11 2026. No macro, syntax, notation, axiom, sorry.
-/
import Derived.Test.YthgiffhlfcmgaaaGreatDoorRows
import GoSem.ClaimSeven
namespace Go.Proofs.YthgiffhlfcmgaaaGreatDoor
namespace Rows

/-- THE TIED CARD OF 'laws.FnExactDenoteRational'. -/
def fnExactDenoteRationalCard : Claim7 := { stood := { row := fnExactDenoteRationalRow, standIns := [], harness := (true, "dd1ceb1c1fd42098f49aadd6433004a03f9a464ae720bec420e6e4192307338d"), looks := false }, kinds := [], alts := [], laidByText := true, laidKinds := [.data], laidTests := true, laidLooks := .later }
def FnExactDenoteRationalCardSaid : Prop := Claim7.holds Tryz.pinned (.plain (OpenSpec.ofChange fnExactDenoteRationalSpec)) fnExactDenoteRationalCard

/-- THE TIED CARD OF 'laws.FnExactEqualRational'. -/
def fnExactEqualRationalCard : Claim7 := { stood := { row := fnExactEqualRationalRow, standIns := [], harness := (true, "dd1ceb1c1fd42098f49aadd6433004a03f9a464ae720bec420e6e4192307338d"), looks := false }, kinds := [], alts := [], laidByText := true, laidKinds := [.data], laidTests := true, laidLooks := .later }
def FnExactEqualRationalCardSaid : Prop := Claim7.holds Tryz.pinned (.plain (OpenSpec.ofChange fnExactEqualRationalSpec)) fnExactEqualRationalCard

/-- THE TIED CARD OF 'laws.FnExactIsCausalTerm'. -/
def fnExactIsCausalTermCard : Claim7 := { stood := { row := fnExactIsCausalTermRow, standIns := [], harness := (true, "dd1ceb1c1fd42098f49aadd6433004a03f9a464ae720bec420e6e4192307338d"), looks := false }, kinds := [], alts := [], laidByText := true, laidKinds := [.data], laidTests := true, laidLooks := .later }
def FnExactIsCausalTermCardSaid : Prop := Claim7.holds Tryz.pinned (.plain (OpenSpec.ofChange fnExactIsCausalTermSpec)) fnExactIsCausalTermCard

/-- THE SECOND FORM's CARD OF 'laws.FnExactDenoteRational'. -/
def fnExactDenoteRationalUptoCard : Claim7 := { stood := { row := fnExactDenoteRationalUptoRow, standIns := [], harness := (true, "dd1ceb1c1fd42098f49aadd6433004a03f9a464ae720bec420e6e4192307338d"), looks := false }, kinds := [], alts := [], laidByText := true, laidKinds := [.data], laidTests := true, laidLooks := .later }
def FnExactDenoteRationalUptoCardSaid : Prop := Claim7.holds Tryz.pinned (.plain (OpenSpec.upto fnExactDenoteRationalSpec)) fnExactDenoteRationalUptoCard

/-- THE SECOND FORM's CARD OF 'laws.FnExactEqualRational'. -/
def fnExactEqualRationalUptoCard : Claim7 := { stood := { row := fnExactEqualRationalUptoRow, standIns := [], harness := (true, "dd1ceb1c1fd42098f49aadd6433004a03f9a464ae720bec420e6e4192307338d"), looks := false }, kinds := [], alts := [], laidByText := true, laidKinds := [.data], laidTests := true, laidLooks := .later }
def FnExactEqualRationalUptoCardSaid : Prop := Claim7.holds Tryz.pinned (.plain (OpenSpec.upto fnExactEqualRationalSpec)) fnExactEqualRationalUptoCard

/-- THE SECOND FORM's CARD OF 'laws.FnExactIsCausalTerm'. -/
def fnExactIsCausalTermUptoCard : Claim7 := { stood := { row := fnExactIsCausalTermUptoRow, standIns := [], harness := (true, "dd1ceb1c1fd42098f49aadd6433004a03f9a464ae720bec420e6e4192307338d"), looks := false }, kinds := [], alts := [], laidByText := true, laidKinds := [.data], laidTests := true, laidLooks := .later }
def FnExactIsCausalTermUptoCardSaid : Prop := Claim7.holds Tryz.pinned (.plain (OpenSpec.upto fnExactIsCausalTermSpec)) fnExactIsCausalTermUptoCard
end Rows
end Go.Proofs.YthgiffhlfcmgaaaGreatDoor
