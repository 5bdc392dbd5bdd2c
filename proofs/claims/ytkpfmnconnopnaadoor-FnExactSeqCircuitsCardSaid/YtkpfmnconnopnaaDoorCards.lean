/-
  DERIVED. GIVEN WITH THE SEED: THE CARDS: each row of YtkpfmnconnopnaaDoorRows.lean that lists a variable, with what it lists TIED to the program's text (the seventh form; the later family's looks); each row that meets fmt, with fmt's text TOLD by the authors' own Lean function (tested against real Go, not proved from fmt's source: count such statements apart). THE CARD IS WHAT COUNTS. Prove the row's statement (the work); the ties are given (YtkpfmnconnopnaaDoorTie.lean); close each card by the builder's one call (the guide's Derived/Test/ToyasCard.lean, 'card_holds'). Laid BY PROGRAM, IN A SANDBOX (cutbox-door.mjs). By AI agents, Wed Nov 11 2026. No macro, syntax, notation, axiom, sorry.
-/
import Derived.Test.YtkpfmnconnopnaaDoorRows
import GoSem.ClaimSeven
namespace Go.Proofs.YtkpfmnconnopnaaDoor
namespace Rows

/-- THE TIED CARD OF 'laws.FnExactRunSpace'. -/
def fnExactRunSpaceCard : Claim7 := { stood := { row := fnExactRunSpaceRow, standIns := [], harness := (true, "22d67fb624ebd8fa6b9cf959104d17ba41b55bb717015e066b0063ab1a579414"), looks := false }, kinds := [], alts := [], laidByText := true, laidKinds := [.data], laidTests := true, laidLooks := .later }
def FnExactRunSpaceCardSaid : Prop := Claim7.holds Tryd.pinned (.plain (OpenSpec.ofChange fnExactRunSpaceSpec)) fnExactRunSpaceCard

/-- THE TIED CARD OF 'laws.FnExactIsCircuit'. -/
def fnExactIsCircuitCard : Claim7 := { stood := { row := fnExactIsCircuitRow, standIns := [], harness := (true, "22d67fb624ebd8fa6b9cf959104d17ba41b55bb717015e066b0063ab1a579414"), looks := false }, kinds := [], alts := [], laidByText := true, laidKinds := [.data], laidTests := true, laidLooks := .later }
def FnExactIsCircuitCardSaid : Prop := Claim7.holds Tryd.pinned (.plain (OpenSpec.ofChange fnExactIsCircuitSpec)) fnExactIsCircuitCard

/-- THE TIED CARD OF 'laws.FnExactScheduleOf'. -/
def fnExactScheduleOfCard : Claim7 := { stood := { row := fnExactScheduleOfRow, standIns := [], harness := (true, "22d67fb624ebd8fa6b9cf959104d17ba41b55bb717015e066b0063ab1a579414"), looks := false }, kinds := [], alts := [], laidByText := true, laidKinds := [.data], laidTests := true, laidLooks := .later }
def FnExactScheduleOfCardSaid : Prop := Claim7.holds Tryd.pinned (.plain (OpenSpec.ofChange fnExactScheduleOfSpec)) fnExactScheduleOfCard

/-- THE TIED CARD OF 'laws.FnExactSeqCircuits'. -/
def fnExactSeqCircuitsCard : Claim7 := { stood := { row := fnExactSeqCircuitsRow, standIns := [], harness := (true, "22d67fb624ebd8fa6b9cf959104d17ba41b55bb717015e066b0063ab1a579414"), looks := false }, kinds := [], alts := [], laidByText := true, laidKinds := [.data], laidTests := true, laidLooks := .later }
def FnExactSeqCircuitsCardSaid : Prop := Claim7.holds Tryd.pinned (.plain (OpenSpec.ofChange fnExactSeqCircuitsSpec)) fnExactSeqCircuitsCard

/-- THE TIED CARD OF 'laws.FnExactPruneCircuit'. -/
def fnExactPruneCircuitCard : Claim7 := { stood := { row := fnExactPruneCircuitRow, standIns := [], harness := (true, "22d67fb624ebd8fa6b9cf959104d17ba41b55bb717015e066b0063ab1a579414"), looks := false }, kinds := [], alts := [], laidByText := true, laidKinds := [.data], laidTests := true, laidLooks := .later }
def FnExactPruneCircuitCardSaid : Prop := Claim7.holds Tryd.pinned (.plain (OpenSpec.ofChange fnExactPruneCircuitSpec)) fnExactPruneCircuitCard

/-- THE TIED CARD OF 'laws.FnExactPolyText'. -/
def fnExactPolyTextCard : Claim7 := { stood := { row := fnExactPolyTextRow, standIns := [], harness := (true, "22d67fb624ebd8fa6b9cf959104d17ba41b55bb717015e066b0063ab1a579414"), looks := false }, kinds := [], alts := [], laidByText := true, laidKinds := [.data, .data, .data, .data], laidTests := true, laidLooks := .later }
def FnExactPolyTextCardSaid : Prop := Claim7.holds Tryd.pinned (.plain (OpenSpec.ofChange fnExactPolyTextSpec)) fnExactPolyTextCard

/-- THE TIED CARD OF 'laws.FnExactFractionText'. -/
def fnExactFractionTextCard : Claim7 := { stood := { row := fnExactFractionTextRow, standIns := [], harness := (true, "22d67fb624ebd8fa6b9cf959104d17ba41b55bb717015e066b0063ab1a579414"), looks := false }, kinds := [], alts := [], laidByText := true, laidKinds := [.data, .data, .data, .data], laidTests := true, laidLooks := .later }
def FnExactFractionTextCardSaid : Prop := Claim7.holds Tryd.pinned (.plain (OpenSpec.ofChange fnExactFractionTextSpec)) fnExactFractionTextCard

/-- THE SECOND FORM's CARD OF 'laws.FnExactRunSpace'. -/
def fnExactRunSpaceUptoCard : Claim7 := { stood := { row := fnExactRunSpaceUptoRow, standIns := [], harness := (true, "22d67fb624ebd8fa6b9cf959104d17ba41b55bb717015e066b0063ab1a579414"), looks := false }, kinds := [], alts := [], laidByText := true, laidKinds := [.data], laidTests := true, laidLooks := .later }
def FnExactRunSpaceUptoCardSaid : Prop := Claim7.holds Tryd.pinned (.plain (OpenSpec.upto fnExactRunSpaceSpec)) fnExactRunSpaceUptoCard

/-- THE SECOND FORM's CARD OF 'laws.FnExactIsCircuit'. -/
def fnExactIsCircuitUptoCard : Claim7 := { stood := { row := fnExactIsCircuitUptoRow, standIns := [], harness := (true, "22d67fb624ebd8fa6b9cf959104d17ba41b55bb717015e066b0063ab1a579414"), looks := false }, kinds := [], alts := [], laidByText := true, laidKinds := [.data], laidTests := true, laidLooks := .later }
def FnExactIsCircuitUptoCardSaid : Prop := Claim7.holds Tryd.pinned (.plain (OpenSpec.upto fnExactIsCircuitSpec)) fnExactIsCircuitUptoCard

/-- THE SECOND FORM's CARD OF 'laws.FnExactScheduleOf'. -/
def fnExactScheduleOfUptoCard : Claim7 := { stood := { row := fnExactScheduleOfUptoRow, standIns := [], harness := (true, "22d67fb624ebd8fa6b9cf959104d17ba41b55bb717015e066b0063ab1a579414"), looks := false }, kinds := [], alts := [], laidByText := true, laidKinds := [.data], laidTests := true, laidLooks := .later }
def FnExactScheduleOfUptoCardSaid : Prop := Claim7.holds Tryd.pinned (.plain (OpenSpec.upto fnExactScheduleOfSpec)) fnExactScheduleOfUptoCard

/-- THE SECOND FORM's CARD OF 'laws.FnExactSeqCircuits'. -/
def fnExactSeqCircuitsUptoCard : Claim7 := { stood := { row := fnExactSeqCircuitsUptoRow, standIns := [], harness := (true, "22d67fb624ebd8fa6b9cf959104d17ba41b55bb717015e066b0063ab1a579414"), looks := false }, kinds := [], alts := [], laidByText := true, laidKinds := [.data], laidTests := true, laidLooks := .later }
def FnExactSeqCircuitsUptoCardSaid : Prop := Claim7.holds Tryd.pinned (.plain (OpenSpec.upto fnExactSeqCircuitsSpec)) fnExactSeqCircuitsUptoCard

/-- THE SECOND FORM's CARD OF 'laws.FnExactPruneCircuit'. -/
def fnExactPruneCircuitUptoCard : Claim7 := { stood := { row := fnExactPruneCircuitUptoRow, standIns := [], harness := (true, "22d67fb624ebd8fa6b9cf959104d17ba41b55bb717015e066b0063ab1a579414"), looks := false }, kinds := [], alts := [], laidByText := true, laidKinds := [.data], laidTests := true, laidLooks := .later }
def FnExactPruneCircuitUptoCardSaid : Prop := Claim7.holds Tryd.pinned (.plain (OpenSpec.upto fnExactPruneCircuitSpec)) fnExactPruneCircuitUptoCard

/-- THE SECOND FORM's CARD OF 'laws.FnExactPolyText'. -/
def fnExactPolyTextUptoCard : Claim7 := { stood := { row := fnExactPolyTextUptoRow, standIns := [], harness := (true, "22d67fb624ebd8fa6b9cf959104d17ba41b55bb717015e066b0063ab1a579414"), looks := false }, kinds := [], alts := [], laidByText := true, laidKinds := [.data, .data, .data, .data], laidTests := true, laidLooks := .later }
def FnExactPolyTextUptoCardSaid : Prop := Claim7.holds Tryd.pinned (.plain (OpenSpec.upto fnExactPolyTextSpec)) fnExactPolyTextUptoCard

/-- THE SECOND FORM's CARD OF 'laws.FnExactFractionText'. -/
def fnExactFractionTextUptoCard : Claim7 := { stood := { row := fnExactFractionTextUptoRow, standIns := [], harness := (true, "22d67fb624ebd8fa6b9cf959104d17ba41b55bb717015e066b0063ab1a579414"), looks := false }, kinds := [], alts := [], laidByText := true, laidKinds := [.data, .data, .data, .data], laidTests := true, laidLooks := .later }
def FnExactFractionTextUptoCardSaid : Prop := Claim7.holds Tryd.pinned (.plain (OpenSpec.upto fnExactFractionTextSpec)) fnExactFractionTextUptoCard
end Rows
end Go.Proofs.YtkpfmnconnopnaaDoor
