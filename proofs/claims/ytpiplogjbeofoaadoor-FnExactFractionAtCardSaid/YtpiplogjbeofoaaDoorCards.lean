/-
  DERIVED. GIVEN WITH THE SEED: THE CARDS: each row of YtpiplogjbeofoaaDoorRows.lean that lists a variable, with what it lists TIED to the program's text (the seventh form; the later family's looks); each row that meets fmt, with fmt's text TOLD by the authors' own Lean function (tested against real Go, not proved from fmt's source: count such statements apart). THE CARD IS WHAT COUNTS. Prove the row's statement (the work); the ties are given (YtpiplogjbeofoaaDoorTie.lean); close each card by the builder's one call (the guide's Derived/Test/ToyasCard.lean, 'card_holds'). Laid BY PROGRAM, IN A SANDBOX (cutbox-door.mjs). By AI agents, Wed Nov 11 2026. No macro, syntax, notation, axiom, sorry.
-/
import Derived.Test.YtpiplogjbeofoaaDoorRows
import GoSem.ClaimSeven
namespace Go.Proofs.YtpiplogjbeofoaaDoor
namespace Rows

/-- THE TIED CARD OF 'laws.FnExactIsStateSpace'. -/
def fnExactIsStateSpaceCard : Claim7 := { stood := { row := fnExactIsStateSpaceRow, standIns := [], harness := (true, "6d1ed6af2fb4dceb70d7816eb6196c8d35783180dc72de41145987c375c84bd0"), looks := false }, kinds := [], alts := [], laidByText := true, laidKinds := [.data], laidTests := true, laidLooks := .later }
def FnExactIsStateSpaceCardSaid : Prop := Claim7.holds Tryd.pinned (.plain (OpenSpec.ofChange fnExactIsStateSpaceSpec)) fnExactIsStateSpaceCard

/-- THE TIED CARD OF 'laws.FnExactOrderOfFraction'. -/
def fnExactOrderOfFractionCard : Claim7 := { stood := { row := fnExactOrderOfFractionRow, standIns := [], harness := (true, "6d1ed6af2fb4dceb70d7816eb6196c8d35783180dc72de41145987c375c84bd0"), looks := false }, kinds := [], alts := [], laidByText := true, laidKinds := [.data], laidTests := true, laidLooks := .later }
def FnExactOrderOfFractionCardSaid : Prop := Claim7.holds Tryd.pinned (.plain (OpenSpec.ofChange fnExactOrderOfFractionSpec)) fnExactOrderOfFractionCard

/-- THE TIED CARD OF 'laws.FnExactIsCircuit'. -/
def fnExactIsCircuitCard : Claim7 := { stood := { row := fnExactIsCircuitRow, standIns := [], harness := (true, "6d1ed6af2fb4dceb70d7816eb6196c8d35783180dc72de41145987c375c84bd0"), looks := false }, kinds := [], alts := [], laidByText := true, laidKinds := [.data], laidTests := true, laidLooks := .later }
def FnExactIsCircuitCardSaid : Prop := Claim7.holds Tryd.pinned (.plain (OpenSpec.ofChange fnExactIsCircuitSpec)) fnExactIsCircuitCard

/-- THE TIED CARD OF 'laws.FnExactMakeFraction'. -/
def fnExactMakeFractionCard : Claim7 := { stood := { row := fnExactMakeFractionRow, standIns := [], harness := (true, "6d1ed6af2fb4dceb70d7816eb6196c8d35783180dc72de41145987c375c84bd0"), looks := false }, kinds := [], alts := [], laidByText := true, laidKinds := [.data], laidTests := true, laidLooks := .later }
def FnExactMakeFractionCardSaid : Prop := Claim7.holds Tryd.pinned (.plain (OpenSpec.ofChange fnExactMakeFractionSpec)) fnExactMakeFractionCard

/-- THE TIED CARD OF 'laws.FnExactPolyBezout'. -/
def fnExactPolyBezoutCard : Claim7 := { stood := { row := fnExactPolyBezoutRow, standIns := [], harness := (true, "6d1ed6af2fb4dceb70d7816eb6196c8d35783180dc72de41145987c375c84bd0"), looks := false }, kinds := [], alts := [], laidByText := true, laidKinds := [.data], laidTests := true, laidLooks := .later }
def FnExactPolyBezoutCardSaid : Prop := Claim7.holds Tryd.pinned (.plain (OpenSpec.ofChange fnExactPolyBezoutSpec)) fnExactPolyBezoutCard

/-- THE TIED CARD OF 'laws.FnExactRunSpace'. -/
def fnExactRunSpaceCard : Claim7 := { stood := { row := fnExactRunSpaceRow, standIns := [], harness := (true, "6d1ed6af2fb4dceb70d7816eb6196c8d35783180dc72de41145987c375c84bd0"), looks := false }, kinds := [], alts := [], laidByText := true, laidKinds := [.data], laidTests := true, laidLooks := .later }
def FnExactRunSpaceCardSaid : Prop := Claim7.holds Tryd.pinned (.plain (OpenSpec.ofChange fnExactRunSpaceSpec)) fnExactRunSpaceCard

/-- THE TIED CARD OF 'laws.FnExactFractionAt'. -/
def fnExactFractionAtCard : Claim7 := { stood := { row := fnExactFractionAtRow, standIns := [], harness := (true, "6d1ed6af2fb4dceb70d7816eb6196c8d35783180dc72de41145987c375c84bd0"), looks := false }, kinds := [], alts := [], laidByText := true, laidKinds := [.data], laidTests := true, laidLooks := .later }
def FnExactFractionAtCardSaid : Prop := Claim7.holds Tryd.pinned (.plain (OpenSpec.ofChange fnExactFractionAtSpec)) fnExactFractionAtCard

/-- THE TIED CARD OF 'laws.FnExactFractionInverse'. -/
def fnExactFractionInverseCard : Claim7 := { stood := { row := fnExactFractionInverseRow, standIns := [], harness := (true, "6d1ed6af2fb4dceb70d7816eb6196c8d35783180dc72de41145987c375c84bd0"), looks := false }, kinds := [], alts := [], laidByText := true, laidKinds := [.data], laidTests := true, laidLooks := .later }
def FnExactFractionInverseCardSaid : Prop := Claim7.holds Tryd.pinned (.plain (OpenSpec.ofChange fnExactFractionInverseSpec)) fnExactFractionInverseCard

/-- THE TIED CARD OF 'laws.FnExactScheduleOf'. -/
def fnExactScheduleOfCard : Claim7 := { stood := { row := fnExactScheduleOfRow, standIns := [], harness := (true, "6d1ed6af2fb4dceb70d7816eb6196c8d35783180dc72de41145987c375c84bd0"), looks := false }, kinds := [], alts := [], laidByText := true, laidKinds := [.data], laidTests := true, laidLooks := .later }
def FnExactScheduleOfCardSaid : Prop := Claim7.holds Tryd.pinned (.plain (OpenSpec.ofChange fnExactScheduleOfSpec)) fnExactScheduleOfCard

/-- THE TIED CARD OF 'laws.FnExactSeriesOf'. -/
def fnExactSeriesOfCard : Claim7 := { stood := { row := fnExactSeriesOfRow, standIns := [], harness := (true, "6d1ed6af2fb4dceb70d7816eb6196c8d35783180dc72de41145987c375c84bd0"), looks := false }, kinds := [], alts := [], laidByText := true, laidKinds := [.data], laidTests := true, laidLooks := .later }
def FnExactSeriesOfCardSaid : Prop := Claim7.holds Tryd.pinned (.plain (OpenSpec.ofChange fnExactSeriesOfSpec)) fnExactSeriesOfCard

/-- THE TIED CARD OF 'laws.FnExactFractionMul'. -/
def fnExactFractionMulCard : Claim7 := { stood := { row := fnExactFractionMulRow, standIns := [], harness := (true, "6d1ed6af2fb4dceb70d7816eb6196c8d35783180dc72de41145987c375c84bd0"), looks := false }, kinds := [], alts := [], laidByText := true, laidKinds := [.data], laidTests := true, laidLooks := .later }
def FnExactFractionMulCardSaid : Prop := Claim7.holds Tryd.pinned (.plain (OpenSpec.ofChange fnExactFractionMulSpec)) fnExactFractionMulCard

/-- THE TIED CARD OF 'laws.FnExactFractionAdd'. -/
def fnExactFractionAddCard : Claim7 := { stood := { row := fnExactFractionAddRow, standIns := [], harness := (true, "6d1ed6af2fb4dceb70d7816eb6196c8d35783180dc72de41145987c375c84bd0"), looks := false }, kinds := [], alts := [], laidByText := true, laidKinds := [.data], laidTests := true, laidLooks := .later }
def FnExactFractionAddCardSaid : Prop := Claim7.holds Tryd.pinned (.plain (OpenSpec.ofChange fnExactFractionAddSpec)) fnExactFractionAddCard

/-- THE SECOND FORM's CARD OF 'laws.FnExactIsStateSpace'. -/
def fnExactIsStateSpaceUptoCard : Claim7 := { stood := { row := fnExactIsStateSpaceUptoRow, standIns := [], harness := (true, "6d1ed6af2fb4dceb70d7816eb6196c8d35783180dc72de41145987c375c84bd0"), looks := false }, kinds := [], alts := [], laidByText := true, laidKinds := [.data], laidTests := true, laidLooks := .later }
def FnExactIsStateSpaceUptoCardSaid : Prop := Claim7.holds Tryd.pinned (.plain (OpenSpec.upto fnExactIsStateSpaceSpec)) fnExactIsStateSpaceUptoCard

/-- THE SECOND FORM's CARD OF 'laws.FnExactOrderOfFraction'. -/
def fnExactOrderOfFractionUptoCard : Claim7 := { stood := { row := fnExactOrderOfFractionUptoRow, standIns := [], harness := (true, "6d1ed6af2fb4dceb70d7816eb6196c8d35783180dc72de41145987c375c84bd0"), looks := false }, kinds := [], alts := [], laidByText := true, laidKinds := [.data], laidTests := true, laidLooks := .later }
def FnExactOrderOfFractionUptoCardSaid : Prop := Claim7.holds Tryd.pinned (.plain (OpenSpec.upto fnExactOrderOfFractionSpec)) fnExactOrderOfFractionUptoCard

/-- THE SECOND FORM's CARD OF 'laws.FnExactIsCircuit'. -/
def fnExactIsCircuitUptoCard : Claim7 := { stood := { row := fnExactIsCircuitUptoRow, standIns := [], harness := (true, "6d1ed6af2fb4dceb70d7816eb6196c8d35783180dc72de41145987c375c84bd0"), looks := false }, kinds := [], alts := [], laidByText := true, laidKinds := [.data], laidTests := true, laidLooks := .later }
def FnExactIsCircuitUptoCardSaid : Prop := Claim7.holds Tryd.pinned (.plain (OpenSpec.upto fnExactIsCircuitSpec)) fnExactIsCircuitUptoCard

/-- THE SECOND FORM's CARD OF 'laws.FnExactMakeFraction'. -/
def fnExactMakeFractionUptoCard : Claim7 := { stood := { row := fnExactMakeFractionUptoRow, standIns := [], harness := (true, "6d1ed6af2fb4dceb70d7816eb6196c8d35783180dc72de41145987c375c84bd0"), looks := false }, kinds := [], alts := [], laidByText := true, laidKinds := [.data], laidTests := true, laidLooks := .later }
def FnExactMakeFractionUptoCardSaid : Prop := Claim7.holds Tryd.pinned (.plain (OpenSpec.upto fnExactMakeFractionSpec)) fnExactMakeFractionUptoCard

/-- THE SECOND FORM's CARD OF 'laws.FnExactPolyBezout'. -/
def fnExactPolyBezoutUptoCard : Claim7 := { stood := { row := fnExactPolyBezoutUptoRow, standIns := [], harness := (true, "6d1ed6af2fb4dceb70d7816eb6196c8d35783180dc72de41145987c375c84bd0"), looks := false }, kinds := [], alts := [], laidByText := true, laidKinds := [.data], laidTests := true, laidLooks := .later }
def FnExactPolyBezoutUptoCardSaid : Prop := Claim7.holds Tryd.pinned (.plain (OpenSpec.upto fnExactPolyBezoutSpec)) fnExactPolyBezoutUptoCard

/-- THE SECOND FORM's CARD OF 'laws.FnExactRunSpace'. -/
def fnExactRunSpaceUptoCard : Claim7 := { stood := { row := fnExactRunSpaceUptoRow, standIns := [], harness := (true, "6d1ed6af2fb4dceb70d7816eb6196c8d35783180dc72de41145987c375c84bd0"), looks := false }, kinds := [], alts := [], laidByText := true, laidKinds := [.data], laidTests := true, laidLooks := .later }
def FnExactRunSpaceUptoCardSaid : Prop := Claim7.holds Tryd.pinned (.plain (OpenSpec.upto fnExactRunSpaceSpec)) fnExactRunSpaceUptoCard

/-- THE SECOND FORM's CARD OF 'laws.FnExactFractionAt'. -/
def fnExactFractionAtUptoCard : Claim7 := { stood := { row := fnExactFractionAtUptoRow, standIns := [], harness := (true, "6d1ed6af2fb4dceb70d7816eb6196c8d35783180dc72de41145987c375c84bd0"), looks := false }, kinds := [], alts := [], laidByText := true, laidKinds := [.data], laidTests := true, laidLooks := .later }
def FnExactFractionAtUptoCardSaid : Prop := Claim7.holds Tryd.pinned (.plain (OpenSpec.upto fnExactFractionAtSpec)) fnExactFractionAtUptoCard

/-- THE SECOND FORM's CARD OF 'laws.FnExactFractionInverse'. -/
def fnExactFractionInverseUptoCard : Claim7 := { stood := { row := fnExactFractionInverseUptoRow, standIns := [], harness := (true, "6d1ed6af2fb4dceb70d7816eb6196c8d35783180dc72de41145987c375c84bd0"), looks := false }, kinds := [], alts := [], laidByText := true, laidKinds := [.data], laidTests := true, laidLooks := .later }
def FnExactFractionInverseUptoCardSaid : Prop := Claim7.holds Tryd.pinned (.plain (OpenSpec.upto fnExactFractionInverseSpec)) fnExactFractionInverseUptoCard

/-- THE SECOND FORM's CARD OF 'laws.FnExactScheduleOf'. -/
def fnExactScheduleOfUptoCard : Claim7 := { stood := { row := fnExactScheduleOfUptoRow, standIns := [], harness := (true, "6d1ed6af2fb4dceb70d7816eb6196c8d35783180dc72de41145987c375c84bd0"), looks := false }, kinds := [], alts := [], laidByText := true, laidKinds := [.data], laidTests := true, laidLooks := .later }
def FnExactScheduleOfUptoCardSaid : Prop := Claim7.holds Tryd.pinned (.plain (OpenSpec.upto fnExactScheduleOfSpec)) fnExactScheduleOfUptoCard

/-- THE SECOND FORM's CARD OF 'laws.FnExactSeriesOf'. -/
def fnExactSeriesOfUptoCard : Claim7 := { stood := { row := fnExactSeriesOfUptoRow, standIns := [], harness := (true, "6d1ed6af2fb4dceb70d7816eb6196c8d35783180dc72de41145987c375c84bd0"), looks := false }, kinds := [], alts := [], laidByText := true, laidKinds := [.data], laidTests := true, laidLooks := .later }
def FnExactSeriesOfUptoCardSaid : Prop := Claim7.holds Tryd.pinned (.plain (OpenSpec.upto fnExactSeriesOfSpec)) fnExactSeriesOfUptoCard

/-- THE SECOND FORM's CARD OF 'laws.FnExactFractionMul'. -/
def fnExactFractionMulUptoCard : Claim7 := { stood := { row := fnExactFractionMulUptoRow, standIns := [], harness := (true, "6d1ed6af2fb4dceb70d7816eb6196c8d35783180dc72de41145987c375c84bd0"), looks := false }, kinds := [], alts := [], laidByText := true, laidKinds := [.data], laidTests := true, laidLooks := .later }
def FnExactFractionMulUptoCardSaid : Prop := Claim7.holds Tryd.pinned (.plain (OpenSpec.upto fnExactFractionMulSpec)) fnExactFractionMulUptoCard

/-- THE SECOND FORM's CARD OF 'laws.FnExactFractionAdd'. -/
def fnExactFractionAddUptoCard : Claim7 := { stood := { row := fnExactFractionAddUptoRow, standIns := [], harness := (true, "6d1ed6af2fb4dceb70d7816eb6196c8d35783180dc72de41145987c375c84bd0"), looks := false }, kinds := [], alts := [], laidByText := true, laidKinds := [.data], laidTests := true, laidLooks := .later }
def FnExactFractionAddUptoCardSaid : Prop := Claim7.holds Tryd.pinned (.plain (OpenSpec.upto fnExactFractionAddSpec)) fnExactFractionAddUptoCard
end Rows
end Go.Proofs.YtpiplogjbeofoaaDoor
