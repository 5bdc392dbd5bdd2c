/-
  DERIVED. GIVEN WITH THE SEED: THE CARDS: each row of YtjkomgoncmbgiaaDoorRows.lean that lists a variable, with what it lists TIED to the program's text (the seventh form; the later family's looks); each row that meets fmt, with fmt's text TOLD by the authors' own Lean function (tested against real Go, not proved from fmt's source: count such statements apart). THE CARD IS WHAT COUNTS. Prove the row's statement (the work); the ties are given (YtjkomgoncmbgiaaDoorTie.lean); close each card by the builder's one call (the guide's Derived/Test/ToyasCard.lean, 'card_holds'). Laid BY PROGRAM, IN A SANDBOX (cutbox-door.mjs). By AI agents, Wed Nov 11 2026. No macro, syntax, notation, axiom, sorry.
-/
import Derived.Test.YtjkomgoncmbgiaaDoorRows
import GoSem.ClaimSeven
namespace Go.Proofs.YtjkomgoncmbgiaaDoor
namespace Rows

/-- THE TIED CARD OF 'laws.FnExactConvolveSeries'. -/
def fnExactConvolveSeriesCard : Claim7 := { stood := { row := fnExactConvolveSeriesRow, standIns := [], harness := (true, "c4793864945b466e4497de214dc7b2cc190c8615730762f28f750552693a3566"), looks := false }, kinds := [], alts := [], laidByText := true, laidKinds := [.data], laidTests := true, laidLooks := .later }
def FnExactConvolveSeriesCardSaid : Prop := Claim7.holds Tryd.pinned (.plain (OpenSpec.ofChange fnExactConvolveSeriesSpec)) fnExactConvolveSeriesCard

/-- THE TIED CARD OF 'laws.FnExactIsStateSpace'. -/
def fnExactIsStateSpaceCard : Claim7 := { stood := { row := fnExactIsStateSpaceRow, standIns := [], harness := (true, "c4793864945b466e4497de214dc7b2cc190c8615730762f28f750552693a3566"), looks := false }, kinds := [], alts := [], laidByText := true, laidKinds := [.data], laidTests := true, laidLooks := .later }
def FnExactIsStateSpaceCardSaid : Prop := Claim7.holds Tryd.pinned (.plain (OpenSpec.ofChange fnExactIsStateSpaceSpec)) fnExactIsStateSpaceCard

/-- THE TIED CARD OF 'laws.FnExactPolyPowerModulo'. -/
def fnExactPolyPowerModuloCard : Claim7 := { stood := { row := fnExactPolyPowerModuloRow, standIns := [], harness := (true, "c4793864945b466e4497de214dc7b2cc190c8615730762f28f750552693a3566"), looks := false }, kinds := [], alts := [], laidByText := true, laidKinds := [.data], laidTests := true, laidLooks := .later }
def FnExactPolyPowerModuloCardSaid : Prop := Claim7.holds Tryd.pinned (.plain (OpenSpec.ofChange fnExactPolyPowerModuloSpec)) fnExactPolyPowerModuloCard

/-- THE TIED CARD OF 'laws.FnExactIsFraction'. -/
def fnExactIsFractionCard : Claim7 := { stood := { row := fnExactIsFractionRow, standIns := [], harness := (true, "c4793864945b466e4497de214dc7b2cc190c8615730762f28f750552693a3566"), looks := false }, kinds := [], alts := [], laidByText := true, laidKinds := [.data], laidTests := true, laidLooks := .later }
def FnExactIsFractionCardSaid : Prop := Claim7.holds Tryd.pinned (.plain (OpenSpec.ofChange fnExactIsFractionSpec)) fnExactIsFractionCard

/-- THE TIED CARD OF 'laws.FnExactIsCausal'. -/
def fnExactIsCausalCard : Claim7 := { stood := { row := fnExactIsCausalRow, standIns := [], harness := (true, "c4793864945b466e4497de214dc7b2cc190c8615730762f28f750552693a3566"), looks := false }, kinds := [], alts := [], laidByText := true, laidKinds := [.data], laidTests := true, laidLooks := .later }
def FnExactIsCausalCardSaid : Prop := Claim7.holds Tryd.pinned (.plain (OpenSpec.ofChange fnExactIsCausalSpec)) fnExactIsCausalCard

/-- THE TIED CARD OF 'laws.FnExactIsIrreducible'. -/
def fnExactIsIrreducibleCard : Claim7 := { stood := { row := fnExactIsIrreducibleRow, standIns := [], harness := (true, "c4793864945b466e4497de214dc7b2cc190c8615730762f28f750552693a3566"), looks := false }, kinds := [], alts := [], laidByText := true, laidKinds := [.data], laidTests := true, laidLooks := .later }
def FnExactIsIrreducibleCardSaid : Prop := Claim7.holds Tryd.pinned (.plain (OpenSpec.ofChange fnExactIsIrreducibleSpec)) fnExactIsIrreducibleCard

/-- THE SECOND FORM's CARD OF 'laws.FnExactConvolveSeries'. -/
def fnExactConvolveSeriesUptoCard : Claim7 := { stood := { row := fnExactConvolveSeriesUptoRow, standIns := [], harness := (true, "c4793864945b466e4497de214dc7b2cc190c8615730762f28f750552693a3566"), looks := false }, kinds := [], alts := [], laidByText := true, laidKinds := [.data], laidTests := true, laidLooks := .later }
def FnExactConvolveSeriesUptoCardSaid : Prop := Claim7.holds Tryd.pinned (.plain (OpenSpec.upto fnExactConvolveSeriesSpec)) fnExactConvolveSeriesUptoCard

/-- THE SECOND FORM's CARD OF 'laws.FnExactIsStateSpace'. -/
def fnExactIsStateSpaceUptoCard : Claim7 := { stood := { row := fnExactIsStateSpaceUptoRow, standIns := [], harness := (true, "c4793864945b466e4497de214dc7b2cc190c8615730762f28f750552693a3566"), looks := false }, kinds := [], alts := [], laidByText := true, laidKinds := [.data], laidTests := true, laidLooks := .later }
def FnExactIsStateSpaceUptoCardSaid : Prop := Claim7.holds Tryd.pinned (.plain (OpenSpec.upto fnExactIsStateSpaceSpec)) fnExactIsStateSpaceUptoCard

/-- THE SECOND FORM's CARD OF 'laws.FnExactPolyPowerModulo'. -/
def fnExactPolyPowerModuloUptoCard : Claim7 := { stood := { row := fnExactPolyPowerModuloUptoRow, standIns := [], harness := (true, "c4793864945b466e4497de214dc7b2cc190c8615730762f28f750552693a3566"), looks := false }, kinds := [], alts := [], laidByText := true, laidKinds := [.data], laidTests := true, laidLooks := .later }
def FnExactPolyPowerModuloUptoCardSaid : Prop := Claim7.holds Tryd.pinned (.plain (OpenSpec.upto fnExactPolyPowerModuloSpec)) fnExactPolyPowerModuloUptoCard

/-- THE SECOND FORM's CARD OF 'laws.FnExactIsFraction'. -/
def fnExactIsFractionUptoCard : Claim7 := { stood := { row := fnExactIsFractionUptoRow, standIns := [], harness := (true, "c4793864945b466e4497de214dc7b2cc190c8615730762f28f750552693a3566"), looks := false }, kinds := [], alts := [], laidByText := true, laidKinds := [.data], laidTests := true, laidLooks := .later }
def FnExactIsFractionUptoCardSaid : Prop := Claim7.holds Tryd.pinned (.plain (OpenSpec.upto fnExactIsFractionSpec)) fnExactIsFractionUptoCard

/-- THE SECOND FORM's CARD OF 'laws.FnExactIsCausal'. -/
def fnExactIsCausalUptoCard : Claim7 := { stood := { row := fnExactIsCausalUptoRow, standIns := [], harness := (true, "c4793864945b466e4497de214dc7b2cc190c8615730762f28f750552693a3566"), looks := false }, kinds := [], alts := [], laidByText := true, laidKinds := [.data], laidTests := true, laidLooks := .later }
def FnExactIsCausalUptoCardSaid : Prop := Claim7.holds Tryd.pinned (.plain (OpenSpec.upto fnExactIsCausalSpec)) fnExactIsCausalUptoCard

/-- THE SECOND FORM's CARD OF 'laws.FnExactIsIrreducible'. -/
def fnExactIsIrreducibleUptoCard : Claim7 := { stood := { row := fnExactIsIrreducibleUptoRow, standIns := [], harness := (true, "c4793864945b466e4497de214dc7b2cc190c8615730762f28f750552693a3566"), looks := false }, kinds := [], alts := [], laidByText := true, laidKinds := [.data], laidTests := true, laidLooks := .later }
def FnExactIsIrreducibleUptoCardSaid : Prop := Claim7.holds Tryd.pinned (.plain (OpenSpec.upto fnExactIsIrreducibleSpec)) fnExactIsIrreducibleUptoCard
end Rows
end Go.Proofs.YtjkomgoncmbgiaaDoor
