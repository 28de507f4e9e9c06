/-
  DERIVED. GIVEN WITH THE SEED: THE CARDS: each row of YtbhehldefflhpaaDoorRows.lean that lists a variable, with what it lists TIED to the program's text (the seventh form; the later family's looks); each row that meets fmt, with fmt's text TOLD by the authors' own Lean function (tested against real Go, not proved from fmt's source: count such statements apart). THE CARD IS WHAT COUNTS. Prove the row's statement (the work); the ties are given (YtbhehldefflhpaaDoorTie.lean); close each card by the builder's one call (the guide's Derived/Test/ToyasCard.lean, 'card_holds'). Laid BY PROGRAM, IN A SANDBOX (cutbox-door.mjs). By AI agents, Wed Nov 11 2026. No macro, syntax, notation, axiom, sorry.
-/
import Derived.Test.YtbhehldefflhpaaDoorRows
import GoSem.ClaimSeven
namespace Go.Proofs.YtbhehldefflhpaaDoor
namespace Rows

/-- THE TIED CARD OF 'lanyardlaw21.CompleteFinds'. -/
def completeFindsCard : Claim7 := { stood := { row := completeFindsRow, standIns := [], harness := (true, "3ae58011fd8f634d64072723ceb79397751d7d3b5f4ed5c8d841607ee1e25829"), looks := false }, kinds := [], alts := [], laidByText := true, laidKinds := [.data, .widerDeep, .widerDeep, .pinned], laidTests := true, laidLooks := .later }
def CompleteFindsCardSaid : Prop := Claim7.holds Tryd.pinned (.plain (OpenSpec.ofChange completeFindsSpec)) completeFindsCard

/-- THE TIED CARD OF 'lanyardlaw21.CompletePages'. -/
def completePagesCard : Claim7 := { stood := { row := completePagesRow, standIns := [], harness := (true, "3ae58011fd8f634d64072723ceb79397751d7d3b5f4ed5c8d841607ee1e25829"), looks := false }, kinds := [], alts := [], laidByText := true, laidKinds := [.data, .widerDeep, .widerDeep, .pinned], laidTests := true, laidLooks := .later }
def CompletePagesCardSaid : Prop := Claim7.holds Tryd.pinned (.plain (OpenSpec.ofChange completePagesSpec)) completePagesCard

/-- THE TIED CARD OF 'lanyardlaw21.CompleteNone'. -/
def completeNoneCard : Claim7 := { stood := { row := completeNoneRow, standIns := [], harness := (true, "3ae58011fd8f634d64072723ceb79397751d7d3b5f4ed5c8d841607ee1e25829"), looks := false }, kinds := [], alts := [], laidByText := true, laidKinds := [.data, .widerDeep, .widerDeep, .pinned], laidTests := true, laidLooks := .later }
def CompleteNoneCardSaid : Prop := Claim7.holds Tryd.pinned (.plain (OpenSpec.ofChange completeNoneSpec)) completeNoneCard

/-- THE TIED CARD OF 'lanyardlaw21.CompleteWide'. -/
def completeWideCard : Claim7 := { stood := { row := completeWideRow, standIns := [], harness := (true, "3ae58011fd8f634d64072723ceb79397751d7d3b5f4ed5c8d841607ee1e25829"), looks := false }, kinds := [], alts := [], laidByText := true, laidKinds := [.data, .widerDeep, .widerDeep, .listed, .data, .pinned], laidTests := true, laidLooks := .later }
def CompleteWideCardSaid : Prop := Claim7.holds Tryd.pinned (.plain (OpenSpec.ofChange completeWideSpec)) completeWideCard

/-- THE SECOND FORM's CARD OF 'lanyardlaw21.CompleteFinds'. -/
def completeFindsUptoCard : Claim7 := { stood := { row := completeFindsUptoRow, standIns := [], harness := (true, "3ae58011fd8f634d64072723ceb79397751d7d3b5f4ed5c8d841607ee1e25829"), looks := false }, kinds := [], alts := [], laidByText := true, laidKinds := [.data, .widerDeep, .widerDeep, .pinned], laidTests := true, laidLooks := .later }
def CompleteFindsUptoCardSaid : Prop := Claim7.holds Tryd.pinned (.plain (OpenSpec.upto completeFindsSpec)) completeFindsUptoCard

/-- THE SECOND FORM's CARD OF 'lanyardlaw21.CompletePages'. -/
def completePagesUptoCard : Claim7 := { stood := { row := completePagesUptoRow, standIns := [], harness := (true, "3ae58011fd8f634d64072723ceb79397751d7d3b5f4ed5c8d841607ee1e25829"), looks := false }, kinds := [], alts := [], laidByText := true, laidKinds := [.data, .widerDeep, .widerDeep, .pinned], laidTests := true, laidLooks := .later }
def CompletePagesUptoCardSaid : Prop := Claim7.holds Tryd.pinned (.plain (OpenSpec.upto completePagesSpec)) completePagesUptoCard

/-- THE SECOND FORM's CARD OF 'lanyardlaw21.CompleteNone'. -/
def completeNoneUptoCard : Claim7 := { stood := { row := completeNoneUptoRow, standIns := [], harness := (true, "3ae58011fd8f634d64072723ceb79397751d7d3b5f4ed5c8d841607ee1e25829"), looks := false }, kinds := [], alts := [], laidByText := true, laidKinds := [.data, .widerDeep, .widerDeep, .pinned], laidTests := true, laidLooks := .later }
def CompleteNoneUptoCardSaid : Prop := Claim7.holds Tryd.pinned (.plain (OpenSpec.upto completeNoneSpec)) completeNoneUptoCard

/-- THE SECOND FORM's CARD OF 'lanyardlaw21.CompleteWide'. -/
def completeWideUptoCard : Claim7 := { stood := { row := completeWideUptoRow, standIns := [], harness := (true, "3ae58011fd8f634d64072723ceb79397751d7d3b5f4ed5c8d841607ee1e25829"), looks := false }, kinds := [], alts := [], laidByText := true, laidKinds := [.data, .widerDeep, .widerDeep, .listed, .data, .pinned], laidTests := true, laidLooks := .later }
def CompleteWideUptoCardSaid : Prop := Claim7.holds Tryd.pinned (.plain (OpenSpec.upto completeWideSpec)) completeWideUptoCard
end Rows
end Go.Proofs.YtbhehldefflhpaaDoor
