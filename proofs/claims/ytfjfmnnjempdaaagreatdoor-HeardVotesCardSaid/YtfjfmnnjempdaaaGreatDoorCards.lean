/-
  DERIVED. GIVEN WITH THE SEED: THE CARDS: each row of YtfjfmnnjempdaaaGreatDoorRows.lean that lists a variable, with what it lists TIED to the program's text (the seventh form; the later family's looks); each row that meets fmt, with fmt's text TOLD by the authors' own Lean function (tested against real Go, not proved from fmt's source: count such statements apart). THE CARD IS WHAT COUNTS. Prove the row's statement (the work); the ties are given (YtfjfmnnjempdaaaGreatDoorTie.lean); close each card by the builder's one call (the guide's Derived/Test/ToyasCard.lean, 'card_holds'). Laid BY PROGRAM, IN A SANDBOX (cutbox-door.mjs). By AI agents, Wed Nov 11 2026. No macro, syntax, notation, axiom, sorry.
-/
import Derived.Test.YtfjfmnnjempdaaaGreatDoorRows
import GoSem.ClaimSeven
namespace Go.Proofs.YtfjfmnnjempdaaaGreatDoor
namespace Rows

/-- THE TIED CARD OF 'hustingslaw24.HeardQueries'. -/
def heardQueriesCard : Claim7 := { stood := { row := heardQueriesRow, standIns := [], harness := (true, "76ef390a243563f12429b9316239ca7761fa77c8b2680367bbef979e4f00cb30"), looks := true }, kinds := [], alts := [], laidByText := true, laidKinds := [.handle, .data, .sentinel, .sentinel], laidTests := true, laidLooks := .later }
def HeardQueriesCardSaid : Prop := Claim7.holds Tryz.pinned (.plain (OpenSpec.ofChange heardQueriesSpec)) heardQueriesCard

/-- THE TIED CARD OF 'hustingslaw24.HeardLooks'. -/
def heardLooksCard : Claim7 := { stood := { row := heardLooksRow, standIns := [], harness := (true, "76ef390a243563f12429b9316239ca7761fa77c8b2680367bbef979e4f00cb30"), looks := true }, kinds := [], alts := [], laidByText := true, laidKinds := [.handle, .data, .sentinel, .sentinel], laidTests := true, laidLooks := .later }
def HeardLooksCardSaid : Prop := Claim7.holds Tryz.pinned (.plain (OpenSpec.ofChange heardLooksSpec)) heardLooksCard

/-- THE TIED CARD OF 'hustingslaw24.HeardNames'. -/
def heardNamesCard : Claim7 := { stood := { row := heardNamesRow, standIns := [], harness := (true, "76ef390a243563f12429b9316239ca7761fa77c8b2680367bbef979e4f00cb30"), looks := true }, kinds := [], alts := [], laidByText := true, laidKinds := [.handle, .data, .sentinel, .sentinel], laidTests := true, laidLooks := .later }
def HeardNamesCardSaid : Prop := Claim7.holds Tryz.pinned (.plain (OpenSpec.ofChange heardNamesSpec)) heardNamesCard

/-- THE TIED CARD OF 'hustingslaw24.HeardVotes'. -/
def heardVotesCard : Claim7 := { stood := { row := heardVotesRow, standIns := [], harness := (true, "76ef390a243563f12429b9316239ca7761fa77c8b2680367bbef979e4f00cb30"), looks := true }, kinds := [], alts := [], laidByText := true, laidKinds := [.handle, .data, .sentinel, .sentinel], laidTests := true, laidLooks := .later }
def HeardVotesCardSaid : Prop := Claim7.holds Tryz.pinned (.plain (OpenSpec.ofChange heardVotesSpec)) heardVotesCard

/-- THE TIED CARD OF 'hustingslaw24.HeardCut'. -/
def heardCutCard : Claim7 := { stood := { row := heardCutRow, standIns := [], harness := (true, "76ef390a243563f12429b9316239ca7761fa77c8b2680367bbef979e4f00cb30"), looks := true }, kinds := [], alts := [], laidByText := true, laidKinds := [.handle, .data, .sentinel, .sentinel], laidTests := true, laidLooks := .later }
def HeardCutCardSaid : Prop := Claim7.holds Tryz.pinned (.plain (OpenSpec.ofChange heardCutSpec)) heardCutCard

/-- THE TIED CARD OF 'hustingslaw24.HeardRows'. -/
def heardRowsCard : Claim7 := { stood := { row := heardRowsRow, standIns := [], harness := (true, "76ef390a243563f12429b9316239ca7761fa77c8b2680367bbef979e4f00cb30"), looks := true }, kinds := [], alts := [], laidByText := true, laidKinds := [.handle, .data, .sentinel, .sentinel], laidTests := true, laidLooks := .later }
def HeardRowsCardSaid : Prop := Claim7.holds Tryz.pinned (.plain (OpenSpec.ofChange heardRowsSpec)) heardRowsCard

/-- THE TIED CARD OF 'hustingslaw24.HeardAsked'. -/
def heardAskedCard : Claim7 := { stood := { row := heardAskedRow, standIns := [], harness := (true, "76ef390a243563f12429b9316239ca7761fa77c8b2680367bbef979e4f00cb30"), looks := true }, kinds := [], alts := [], laidByText := true, laidKinds := [.handle, .data, .sentinel, .sentinel], laidTests := true, laidLooks := .later }
def HeardAskedCardSaid : Prop := Claim7.holds Tryz.pinned (.plain (OpenSpec.ofChange heardAskedSpec)) heardAskedCard

/-- THE SECOND FORM's CARD OF 'hustingslaw24.HeardQueries'. -/
def heardQueriesUptoCard : Claim7 := { stood := { row := heardQueriesUptoRow, standIns := [], harness := (true, "76ef390a243563f12429b9316239ca7761fa77c8b2680367bbef979e4f00cb30"), looks := true }, kinds := [], alts := [], laidByText := true, laidKinds := [.handle, .data, .sentinel, .sentinel], laidTests := true, laidLooks := .later }
def HeardQueriesUptoCardSaid : Prop := Claim7.holds Tryz.pinned (.plain (OpenSpec.upto heardQueriesSpec)) heardQueriesUptoCard

/-- THE SECOND FORM's CARD OF 'hustingslaw24.HeardLooks'. -/
def heardLooksUptoCard : Claim7 := { stood := { row := heardLooksUptoRow, standIns := [], harness := (true, "76ef390a243563f12429b9316239ca7761fa77c8b2680367bbef979e4f00cb30"), looks := true }, kinds := [], alts := [], laidByText := true, laidKinds := [.handle, .data, .sentinel, .sentinel], laidTests := true, laidLooks := .later }
def HeardLooksUptoCardSaid : Prop := Claim7.holds Tryz.pinned (.plain (OpenSpec.upto heardLooksSpec)) heardLooksUptoCard

/-- THE SECOND FORM's CARD OF 'hustingslaw24.HeardNames'. -/
def heardNamesUptoCard : Claim7 := { stood := { row := heardNamesUptoRow, standIns := [], harness := (true, "76ef390a243563f12429b9316239ca7761fa77c8b2680367bbef979e4f00cb30"), looks := true }, kinds := [], alts := [], laidByText := true, laidKinds := [.handle, .data, .sentinel, .sentinel], laidTests := true, laidLooks := .later }
def HeardNamesUptoCardSaid : Prop := Claim7.holds Tryz.pinned (.plain (OpenSpec.upto heardNamesSpec)) heardNamesUptoCard

/-- THE SECOND FORM's CARD OF 'hustingslaw24.HeardVotes'. -/
def heardVotesUptoCard : Claim7 := { stood := { row := heardVotesUptoRow, standIns := [], harness := (true, "76ef390a243563f12429b9316239ca7761fa77c8b2680367bbef979e4f00cb30"), looks := true }, kinds := [], alts := [], laidByText := true, laidKinds := [.handle, .data, .sentinel, .sentinel], laidTests := true, laidLooks := .later }
def HeardVotesUptoCardSaid : Prop := Claim7.holds Tryz.pinned (.plain (OpenSpec.upto heardVotesSpec)) heardVotesUptoCard

/-- THE SECOND FORM's CARD OF 'hustingslaw24.HeardCut'. -/
def heardCutUptoCard : Claim7 := { stood := { row := heardCutUptoRow, standIns := [], harness := (true, "76ef390a243563f12429b9316239ca7761fa77c8b2680367bbef979e4f00cb30"), looks := true }, kinds := [], alts := [], laidByText := true, laidKinds := [.handle, .data, .sentinel, .sentinel], laidTests := true, laidLooks := .later }
def HeardCutUptoCardSaid : Prop := Claim7.holds Tryz.pinned (.plain (OpenSpec.upto heardCutSpec)) heardCutUptoCard

/-- THE SECOND FORM's CARD OF 'hustingslaw24.HeardRows'. -/
def heardRowsUptoCard : Claim7 := { stood := { row := heardRowsUptoRow, standIns := [], harness := (true, "76ef390a243563f12429b9316239ca7761fa77c8b2680367bbef979e4f00cb30"), looks := true }, kinds := [], alts := [], laidByText := true, laidKinds := [.handle, .data, .sentinel, .sentinel], laidTests := true, laidLooks := .later }
def HeardRowsUptoCardSaid : Prop := Claim7.holds Tryz.pinned (.plain (OpenSpec.upto heardRowsSpec)) heardRowsUptoCard

/-- THE SECOND FORM's CARD OF 'hustingslaw24.HeardAsked'. -/
def heardAskedUptoCard : Claim7 := { stood := { row := heardAskedUptoRow, standIns := [], harness := (true, "76ef390a243563f12429b9316239ca7761fa77c8b2680367bbef979e4f00cb30"), looks := true }, kinds := [], alts := [], laidByText := true, laidKinds := [.handle, .data, .sentinel, .sentinel], laidTests := true, laidLooks := .later }
def HeardAskedUptoCardSaid : Prop := Claim7.holds Tryz.pinned (.plain (OpenSpec.upto heardAskedSpec)) heardAskedUptoCard
end Rows
end Go.Proofs.YtfjfmnnjempdaaaGreatDoor
