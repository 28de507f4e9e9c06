/-
  DERIVED. GIVEN WITH THE SEED: THE CARDS: each row of YthegkipclogoeaaDoorRows.lean that lists a variable, with what it lists TIED to the program's text (the seventh form; the later family's looks); each row that meets fmt, with fmt's text TOLD by the authors' own Lean function (tested against real Go, not proved from fmt's source: count such statements apart). THE CARD IS WHAT COUNTS. Prove the row's statement (the work); the ties are given (YthegkipclogoeaaDoorTie.lean); close each card by the builder's one call (the guide's Derived/Test/ToyasCard.lean, 'card_holds'). Laid BY PROGRAM, IN A SANDBOX (cutbox-door.mjs). By AI agents, Wed Nov 11 2026. No macro, syntax, notation, axiom, sorry.
-/
import Derived.Test.YthegkipclogoeaaDoorRows
import GoSem.ClaimSeven
namespace Go.Proofs.YthegkipclogoeaaDoor
namespace Rows

/-- THE TIED CARD OF 'lanyardlaw23.LayoutFits'. -/
def layoutFitsCard : Claim7 := { stood := { row := layoutFitsRow, standIns := [], harness := (true, "7d8a38d7472f517003cc8678df1eaeb8a0ef9ce476b7608b14b3662ed71aee62"), looks := false }, kinds := [], alts := [], laidByText := true, laidKinds := [.data, .widerDeep, .widerDeep, .pinned], laidTests := true, laidLooks := .later }
def LayoutFitsCardSaid : Prop := Claim7.holds Tryd.pinned (.plain (OpenSpec.ofChange layoutFitsSpec)) layoutFitsCard

/-- THE TIED CARD OF 'lanyardlaw23.LayoutFlows'. -/
def layoutFlowsCard : Claim7 := { stood := { row := layoutFlowsRow, standIns := [], harness := (true, "7d8a38d7472f517003cc8678df1eaeb8a0ef9ce476b7608b14b3662ed71aee62"), looks := false }, kinds := [], alts := [], laidByText := true, laidKinds := [.data, .widerDeep, .widerDeep, .pinned], laidTests := true, laidLooks := .later }
def LayoutFlowsCardSaid : Prop := Claim7.holds Tryd.pinned (.plain (OpenSpec.ofChange layoutFlowsSpec)) layoutFlowsCard

/-- THE TIED CARD OF 'lanyardlaw23.LayoutGrows'. -/
def layoutGrowsCard : Claim7 := { stood := { row := layoutGrowsRow, standIns := [], harness := (true, "7d8a38d7472f517003cc8678df1eaeb8a0ef9ce476b7608b14b3662ed71aee62"), looks := false }, kinds := [], alts := [], laidByText := true, laidKinds := [.data, .widerDeep, .widerDeep, .pinned], laidTests := true, laidLooks := .later }
def LayoutGrowsCardSaid : Prop := Claim7.holds Tryd.pinned (.plain (OpenSpec.ofChange layoutGrowsSpec)) layoutGrowsCard

/-- THE TIED CARD OF 'lanyardlaw23.LayoutPoints'. -/
def layoutPointsCard : Claim7 := { stood := { row := layoutPointsRow, standIns := [], harness := (true, "7d8a38d7472f517003cc8678df1eaeb8a0ef9ce476b7608b14b3662ed71aee62"), looks := false }, kinds := [], alts := [], laidByText := true, laidKinds := [.data, .widerDeep, .widerDeep, .pinned], laidTests := true, laidLooks := .later }
def LayoutPointsCardSaid : Prop := Claim7.holds Tryd.pinned (.plain (OpenSpec.ofChange layoutPointsSpec)) layoutPointsCard

/-- THE TIED CARD OF 'lanyardlaw23.LayoutOwn'. -/
def layoutOwnCard : Claim7 := { stood := { row := layoutOwnRow, standIns := [], harness := (true, "7d8a38d7472f517003cc8678df1eaeb8a0ef9ce476b7608b14b3662ed71aee62"), looks := false }, kinds := [], alts := [], laidByText := true, laidKinds := [.data, .widerDeep, .widerDeep, .pinned], laidTests := true, laidLooks := .later }
def LayoutOwnCardSaid : Prop := Claim7.holds Tryd.pinned (.plain (OpenSpec.ofChange layoutOwnSpec)) layoutOwnCard

/-- THE TIED CARD OF 'lanyardlaw23.LayoutSame'. -/
def layoutSameCard : Claim7 := { stood := { row := layoutSameRow, standIns := [], harness := (true, "7d8a38d7472f517003cc8678df1eaeb8a0ef9ce476b7608b14b3662ed71aee62"), looks := false }, kinds := [], alts := [], laidByText := true, laidKinds := [.data, .widerDeep, .widerDeep, .pinned], laidTests := true, laidLooks := .later }
def LayoutSameCardSaid : Prop := Claim7.holds Tryd.pinned (.plain (OpenSpec.ofChange layoutSameSpec)) layoutSameCard

/-- THE TIED CARD OF 'lanyardlaw23.LayoutHides'. -/
def layoutHidesCard : Claim7 := { stood := { row := layoutHidesRow, standIns := [], harness := (true, "7d8a38d7472f517003cc8678df1eaeb8a0ef9ce476b7608b14b3662ed71aee62"), looks := false }, kinds := [], alts := [], laidByText := true, laidKinds := [.data, .widerDeep, .widerDeep, .pinned], laidTests := true, laidLooks := .later }
def LayoutHidesCardSaid : Prop := Claim7.holds Tryd.pinned (.plain (OpenSpec.ofChange layoutHidesSpec)) layoutHidesCard

/-- THE SECOND FORM's CARD OF 'lanyardlaw23.LayoutFits'. -/
def layoutFitsUptoCard : Claim7 := { stood := { row := layoutFitsUptoRow, standIns := [], harness := (true, "7d8a38d7472f517003cc8678df1eaeb8a0ef9ce476b7608b14b3662ed71aee62"), looks := false }, kinds := [], alts := [], laidByText := true, laidKinds := [.data, .widerDeep, .widerDeep, .pinned], laidTests := true, laidLooks := .later }
def LayoutFitsUptoCardSaid : Prop := Claim7.holds Tryd.pinned (.plain (OpenSpec.upto layoutFitsSpec)) layoutFitsUptoCard

/-- THE SECOND FORM's CARD OF 'lanyardlaw23.LayoutFlows'. -/
def layoutFlowsUptoCard : Claim7 := { stood := { row := layoutFlowsUptoRow, standIns := [], harness := (true, "7d8a38d7472f517003cc8678df1eaeb8a0ef9ce476b7608b14b3662ed71aee62"), looks := false }, kinds := [], alts := [], laidByText := true, laidKinds := [.data, .widerDeep, .widerDeep, .pinned], laidTests := true, laidLooks := .later }
def LayoutFlowsUptoCardSaid : Prop := Claim7.holds Tryd.pinned (.plain (OpenSpec.upto layoutFlowsSpec)) layoutFlowsUptoCard

/-- THE SECOND FORM's CARD OF 'lanyardlaw23.LayoutGrows'. -/
def layoutGrowsUptoCard : Claim7 := { stood := { row := layoutGrowsUptoRow, standIns := [], harness := (true, "7d8a38d7472f517003cc8678df1eaeb8a0ef9ce476b7608b14b3662ed71aee62"), looks := false }, kinds := [], alts := [], laidByText := true, laidKinds := [.data, .widerDeep, .widerDeep, .pinned], laidTests := true, laidLooks := .later }
def LayoutGrowsUptoCardSaid : Prop := Claim7.holds Tryd.pinned (.plain (OpenSpec.upto layoutGrowsSpec)) layoutGrowsUptoCard

/-- THE SECOND FORM's CARD OF 'lanyardlaw23.LayoutPoints'. -/
def layoutPointsUptoCard : Claim7 := { stood := { row := layoutPointsUptoRow, standIns := [], harness := (true, "7d8a38d7472f517003cc8678df1eaeb8a0ef9ce476b7608b14b3662ed71aee62"), looks := false }, kinds := [], alts := [], laidByText := true, laidKinds := [.data, .widerDeep, .widerDeep, .pinned], laidTests := true, laidLooks := .later }
def LayoutPointsUptoCardSaid : Prop := Claim7.holds Tryd.pinned (.plain (OpenSpec.upto layoutPointsSpec)) layoutPointsUptoCard

/-- THE SECOND FORM's CARD OF 'lanyardlaw23.LayoutOwn'. -/
def layoutOwnUptoCard : Claim7 := { stood := { row := layoutOwnUptoRow, standIns := [], harness := (true, "7d8a38d7472f517003cc8678df1eaeb8a0ef9ce476b7608b14b3662ed71aee62"), looks := false }, kinds := [], alts := [], laidByText := true, laidKinds := [.data, .widerDeep, .widerDeep, .pinned], laidTests := true, laidLooks := .later }
def LayoutOwnUptoCardSaid : Prop := Claim7.holds Tryd.pinned (.plain (OpenSpec.upto layoutOwnSpec)) layoutOwnUptoCard

/-- THE SECOND FORM's CARD OF 'lanyardlaw23.LayoutSame'. -/
def layoutSameUptoCard : Claim7 := { stood := { row := layoutSameUptoRow, standIns := [], harness := (true, "7d8a38d7472f517003cc8678df1eaeb8a0ef9ce476b7608b14b3662ed71aee62"), looks := false }, kinds := [], alts := [], laidByText := true, laidKinds := [.data, .widerDeep, .widerDeep, .pinned], laidTests := true, laidLooks := .later }
def LayoutSameUptoCardSaid : Prop := Claim7.holds Tryd.pinned (.plain (OpenSpec.upto layoutSameSpec)) layoutSameUptoCard

/-- THE SECOND FORM's CARD OF 'lanyardlaw23.LayoutHides'. -/
def layoutHidesUptoCard : Claim7 := { stood := { row := layoutHidesUptoRow, standIns := [], harness := (true, "7d8a38d7472f517003cc8678df1eaeb8a0ef9ce476b7608b14b3662ed71aee62"), looks := false }, kinds := [], alts := [], laidByText := true, laidKinds := [.data, .widerDeep, .widerDeep, .pinned], laidTests := true, laidLooks := .later }
def LayoutHidesUptoCardSaid : Prop := Claim7.holds Tryd.pinned (.plain (OpenSpec.upto layoutHidesSpec)) layoutHidesUptoCard
end Rows
end Go.Proofs.YthegkipclogoeaaDoor
