/-
  DERIVED. GIVEN WITH THE SEED: THE CARDS: each row of YtmekhjnhcgmphaaDoorRows.lean that lists a variable, with what it lists TIED to the program's text (the seventh form; the later family's looks); each row that meets fmt, with fmt's text TOLD by the authors' own Lean function (tested against real Go, not proved from fmt's source: count such statements apart). THE CARD IS WHAT COUNTS. Prove the row's statement (the work); the ties are given (YtmekhjnhcgmphaaDoorTie.lean); close each card by the builder's one call (the guide's Derived/Test/ToyasCard.lean, 'card_holds'). Laid BY PROGRAM, IN A SANDBOX (cutbox-door.mjs). By AI agents, Wed Nov 11 2026. No macro, syntax, notation, axiom, sorry.
-/
import Derived.Test.YtmekhjnhcgmphaaDoorRows
import GoSem.ClaimSeven
namespace Go.Proofs.YtmekhjnhcgmphaaDoor
namespace Rows

/-- THE TIED CARD OF 'laws.FnExactLiftRelation'. -/
def fnExactLiftRelationCard : Claim7 := { stood := { row := fnExactLiftRelationRow, standIns := [], harness := (true, "672fb526ddc156a8afc5115db180835afde0c0eb5ab9dc94141fe38088b6e734"), looks := false }, kinds := [], alts := [], laidByText := true, laidKinds := [.data], laidTests := true, laidLooks := .later }
def FnExactLiftRelationCardSaid : Prop := Claim7.holds Tryd.pinned (.plain (OpenSpec.ofChange fnExactLiftRelationSpec)) fnExactLiftRelationCard

/-- THE TIED CARD OF 'laws.FnExactFractionOfSeries'. -/
def fnExactFractionOfSeriesCard : Claim7 := { stood := { row := fnExactFractionOfSeriesRow, standIns := [], harness := (true, "672fb526ddc156a8afc5115db180835afde0c0eb5ab9dc94141fe38088b6e734"), looks := false }, kinds := [], alts := [], laidByText := true, laidKinds := [.data], laidTests := true, laidLooks := .later }
def FnExactFractionOfSeriesCardSaid : Prop := Claim7.holds Tryd.pinned (.plain (OpenSpec.ofChange fnExactFractionOfSeriesSpec)) fnExactFractionOfSeriesCard

/-- THE SECOND FORM's CARD OF 'laws.FnExactLiftRelation'. -/
def fnExactLiftRelationUptoCard : Claim7 := { stood := { row := fnExactLiftRelationUptoRow, standIns := [], harness := (true, "672fb526ddc156a8afc5115db180835afde0c0eb5ab9dc94141fe38088b6e734"), looks := false }, kinds := [], alts := [], laidByText := true, laidKinds := [.data], laidTests := true, laidLooks := .later }
def FnExactLiftRelationUptoCardSaid : Prop := Claim7.holds Tryd.pinned (.plain (OpenSpec.upto fnExactLiftRelationSpec)) fnExactLiftRelationUptoCard

/-- THE SECOND FORM's CARD OF 'laws.FnExactFractionOfSeries'. -/
def fnExactFractionOfSeriesUptoCard : Claim7 := { stood := { row := fnExactFractionOfSeriesUptoRow, standIns := [], harness := (true, "672fb526ddc156a8afc5115db180835afde0c0eb5ab9dc94141fe38088b6e734"), looks := false }, kinds := [], alts := [], laidByText := true, laidKinds := [.data], laidTests := true, laidLooks := .later }
def FnExactFractionOfSeriesUptoCardSaid : Prop := Claim7.holds Tryd.pinned (.plain (OpenSpec.upto fnExactFractionOfSeriesSpec)) fnExactFractionOfSeriesUptoCard
end Rows
end Go.Proofs.YtmekhjnhcgmphaaDoor
