/-
  DERIVED. GIVEN WITH THE SEED: THE CARDS: each row of YtgblnkadmieflaaDoorRows.lean that lists a variable, with what it lists TIED to the program's text (the seventh form; the later family's looks); each row that meets fmt, with fmt's text TOLD by the authors' own Lean function (tested against real Go, not proved from fmt's source: count such statements apart). THE CARD IS WHAT COUNTS. Prove the row's statement (the work); the ties are given (YtgblnkadmieflaaDoorTie.lean); close each card by the builder's one call (the guide's Derived/Test/ToyasCard.lean, 'card_holds'). Laid BY PROGRAM, IN A SANDBOX (cutbox-door.mjs). By AI agents, Wed Nov 11 2026. No macro, syntax, notation, axiom, sorry.
-/
import Derived.Test.YtgblnkadmieflaaDoorRows
import GoSem.ClaimSeven
namespace Go.Proofs.YtgblnkadmieflaaDoor
namespace Rows

/-- THE TIED CARD OF 'laws.FnExactPruneCircuit'. -/
def fnExactPruneCircuitCard : Claim7 := { stood := { row := fnExactPruneCircuitRow, standIns := [], harness := (true, "20af3267d80af63897d50834259a8e0b0b397999ae43c222b470f1001b22edaf"), looks := false }, kinds := [], alts := [], laidByText := true, laidKinds := [.data], laidTests := true, laidLooks := .later }
def FnExactPruneCircuitCardSaid : Prop := Claim7.holds Tryd.pinned (.plain (OpenSpec.ofChange fnExactPruneCircuitSpec)) fnExactPruneCircuitCard

/-- THE TIED CARD OF 'laws.FnExactPolyText'. -/
def fnExactPolyTextCard : Claim7 := { stood := { row := fnExactPolyTextRow, standIns := [], harness := (true, "20af3267d80af63897d50834259a8e0b0b397999ae43c222b470f1001b22edaf"), looks := false }, kinds := [], alts := [], laidByText := true, laidKinds := [.data, .data, .data, .data], laidTests := true, laidLooks := .later }
def FnExactPolyTextCardSaid : Prop := Claim7.holds Tryd.pinned (.plain (OpenSpec.ofChange fnExactPolyTextSpec)) fnExactPolyTextCard

/-- THE TIED CARD OF 'laws.FnExactFractionText'. -/
def fnExactFractionTextCard : Claim7 := { stood := { row := fnExactFractionTextRow, standIns := [], harness := (true, "20af3267d80af63897d50834259a8e0b0b397999ae43c222b470f1001b22edaf"), looks := false }, kinds := [], alts := [], laidByText := true, laidKinds := [.data, .data, .data, .data], laidTests := true, laidLooks := .later }
def FnExactFractionTextCardSaid : Prop := Claim7.holds Tryd.pinned (.plain (OpenSpec.ofChange fnExactFractionTextSpec)) fnExactFractionTextCard

/-- THE TIED CARD OF 'laws.FnExactIsRatRelation'. -/
def fnExactIsRatRelationCard : Claim7 := { stood := { row := fnExactIsRatRelationRow, standIns := [], harness := (true, "20af3267d80af63897d50834259a8e0b0b397999ae43c222b470f1001b22edaf"), looks := false }, kinds := [], alts := [], laidByText := true, laidKinds := [.data], laidTests := true, laidLooks := .later }
def FnExactIsRatRelationCardSaid : Prop := Claim7.holds Tryd.pinned (.plain (OpenSpec.ofChange fnExactIsRatRelationSpec)) fnExactIsRatRelationCard

/-- THE TIED CARD OF 'laws.FnExactLiftRelation'. -/
def fnExactLiftRelationCard : Claim7 := { stood := { row := fnExactLiftRelationRow, standIns := [], harness := (true, "20af3267d80af63897d50834259a8e0b0b397999ae43c222b470f1001b22edaf"), looks := false }, kinds := [], alts := [], laidByText := true, laidKinds := [.data], laidTests := true, laidLooks := .later }
def FnExactLiftRelationCardSaid : Prop := Claim7.holds Tryd.pinned (.plain (OpenSpec.ofChange fnExactLiftRelationSpec)) fnExactLiftRelationCard

/-- THE SECOND FORM's CARD OF 'laws.FnExactPruneCircuit'. -/
def fnExactPruneCircuitUptoCard : Claim7 := { stood := { row := fnExactPruneCircuitUptoRow, standIns := [], harness := (true, "20af3267d80af63897d50834259a8e0b0b397999ae43c222b470f1001b22edaf"), looks := false }, kinds := [], alts := [], laidByText := true, laidKinds := [.data], laidTests := true, laidLooks := .later }
def FnExactPruneCircuitUptoCardSaid : Prop := Claim7.holds Tryd.pinned (.plain (OpenSpec.upto fnExactPruneCircuitSpec)) fnExactPruneCircuitUptoCard

/-- THE SECOND FORM's CARD OF 'laws.FnExactPolyText'. -/
def fnExactPolyTextUptoCard : Claim7 := { stood := { row := fnExactPolyTextUptoRow, standIns := [], harness := (true, "20af3267d80af63897d50834259a8e0b0b397999ae43c222b470f1001b22edaf"), looks := false }, kinds := [], alts := [], laidByText := true, laidKinds := [.data, .data, .data, .data], laidTests := true, laidLooks := .later }
def FnExactPolyTextUptoCardSaid : Prop := Claim7.holds Tryd.pinned (.plain (OpenSpec.upto fnExactPolyTextSpec)) fnExactPolyTextUptoCard

/-- THE SECOND FORM's CARD OF 'laws.FnExactFractionText'. -/
def fnExactFractionTextUptoCard : Claim7 := { stood := { row := fnExactFractionTextUptoRow, standIns := [], harness := (true, "20af3267d80af63897d50834259a8e0b0b397999ae43c222b470f1001b22edaf"), looks := false }, kinds := [], alts := [], laidByText := true, laidKinds := [.data, .data, .data, .data], laidTests := true, laidLooks := .later }
def FnExactFractionTextUptoCardSaid : Prop := Claim7.holds Tryd.pinned (.plain (OpenSpec.upto fnExactFractionTextSpec)) fnExactFractionTextUptoCard

/-- THE SECOND FORM's CARD OF 'laws.FnExactIsRatRelation'. -/
def fnExactIsRatRelationUptoCard : Claim7 := { stood := { row := fnExactIsRatRelationUptoRow, standIns := [], harness := (true, "20af3267d80af63897d50834259a8e0b0b397999ae43c222b470f1001b22edaf"), looks := false }, kinds := [], alts := [], laidByText := true, laidKinds := [.data], laidTests := true, laidLooks := .later }
def FnExactIsRatRelationUptoCardSaid : Prop := Claim7.holds Tryd.pinned (.plain (OpenSpec.upto fnExactIsRatRelationSpec)) fnExactIsRatRelationUptoCard

/-- THE SECOND FORM's CARD OF 'laws.FnExactLiftRelation'. -/
def fnExactLiftRelationUptoCard : Claim7 := { stood := { row := fnExactLiftRelationUptoRow, standIns := [], harness := (true, "20af3267d80af63897d50834259a8e0b0b397999ae43c222b470f1001b22edaf"), looks := false }, kinds := [], alts := [], laidByText := true, laidKinds := [.data], laidTests := true, laidLooks := .later }
def FnExactLiftRelationUptoCardSaid : Prop := Claim7.holds Tryd.pinned (.plain (OpenSpec.upto fnExactLiftRelationSpec)) fnExactLiftRelationUptoCard
end Rows
end Go.Proofs.YtgblnkadmieflaaDoor
