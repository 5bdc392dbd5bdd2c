/-
  DERIVED. GIVEN WITH THE SEED: THE CARDS: each row of YtafndkcafgdhfaaDoorRows.lean that lists a variable, with what it lists TIED to the program's text (the seventh form; the later family's looks); each row that meets fmt, with fmt's text TOLD by the authors' own Lean function (tested against real Go, not proved from fmt's source: count such statements apart). THE CARD IS WHAT COUNTS. Prove the row's statement (the work); the ties are given (YtafndkcafgdhfaaDoorTie.lean); close each card by the builder's one call (the guide's Derived/Test/ToyasCard.lean, 'card_holds'). Laid BY PROGRAM, IN A SANDBOX (cutbox-door.mjs). By AI agents, Wed Nov 11 2026. No macro, syntax, notation, axiom, sorry.
-/
import Derived.Test.YtafndkcafgdhfaaDoorRows
import GoSem.ClaimSeven
namespace Go.Proofs.YtafndkcafgdhfaaDoor
namespace Rows

/-- THE TIED CARD OF 'laws.FnExactIsRatRelation'. -/
def fnExactIsRatRelationCard : Claim7 := { stood := { row := fnExactIsRatRelationRow, standIns := [], harness := (true, "33252dae6c3b0674c34f8b1ada1be05ecb65f3e8d720dfa24969d7fe1ce3afd5"), looks := false }, kinds := [], alts := [], laidByText := true, laidKinds := [.data], laidTests := true, laidLooks := .later }
def FnExactIsRatRelationCardSaid : Prop := Claim7.holds Tryd.pinned (.plain (OpenSpec.ofChange fnExactIsRatRelationSpec)) fnExactIsRatRelationCard

/-- THE TIED CARD OF 'laws.FnExactLiftRelation'. -/
def fnExactLiftRelationCard : Claim7 := { stood := { row := fnExactLiftRelationRow, standIns := [], harness := (true, "33252dae6c3b0674c34f8b1ada1be05ecb65f3e8d720dfa24969d7fe1ce3afd5"), looks := false }, kinds := [], alts := [], laidByText := true, laidKinds := [.data], laidTests := true, laidLooks := .later }
def FnExactLiftRelationCardSaid : Prop := Claim7.holds Tryd.pinned (.plain (OpenSpec.ofChange fnExactLiftRelationSpec)) fnExactLiftRelationCard

/-- THE SECOND FORM's CARD OF 'laws.FnExactIsRatRelation'. -/
def fnExactIsRatRelationUptoCard : Claim7 := { stood := { row := fnExactIsRatRelationUptoRow, standIns := [], harness := (true, "33252dae6c3b0674c34f8b1ada1be05ecb65f3e8d720dfa24969d7fe1ce3afd5"), looks := false }, kinds := [], alts := [], laidByText := true, laidKinds := [.data], laidTests := true, laidLooks := .later }
def FnExactIsRatRelationUptoCardSaid : Prop := Claim7.holds Tryd.pinned (.plain (OpenSpec.upto fnExactIsRatRelationSpec)) fnExactIsRatRelationUptoCard

/-- THE SECOND FORM's CARD OF 'laws.FnExactLiftRelation'. -/
def fnExactLiftRelationUptoCard : Claim7 := { stood := { row := fnExactLiftRelationUptoRow, standIns := [], harness := (true, "33252dae6c3b0674c34f8b1ada1be05ecb65f3e8d720dfa24969d7fe1ce3afd5"), looks := false }, kinds := [], alts := [], laidByText := true, laidKinds := [.data], laidTests := true, laidLooks := .later }
def FnExactLiftRelationUptoCardSaid : Prop := Claim7.holds Tryd.pinned (.plain (OpenSpec.upto fnExactLiftRelationSpec)) fnExactLiftRelationUptoCard
end Rows
end Go.Proofs.YtafndkcafgdhfaaDoor
