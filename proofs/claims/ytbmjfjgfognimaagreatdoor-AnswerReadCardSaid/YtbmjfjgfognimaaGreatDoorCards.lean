/-
  DERIVED. GIVEN WITH THE SEED: THE CARDS: each row of YtbmjfjgfognimaaGreatDoorRows.lean that lists a variable, with what it lists TIED to the program's text (the seventh form; the later family's looks); each row that meets fmt, with fmt's text TOLD by the authors' own Lean function (tested against real Go, not proved from fmt's source: count such statements apart). THE CARD IS WHAT COUNTS. Prove the row's statement (the work); the ties are given (YtbmjfjgfognimaaGreatDoorTie.lean); close each card by the builder's one call (the guide's Derived/Test/ToyasCard.lean, 'card_holds'). Laid BY PROGRAM, IN A SANDBOX (cutbox-door.mjs). By AI agents, Wed Nov 11 2026. No macro, syntax, notation, axiom, sorry.
-/
import Derived.Test.YtbmjfjgfognimaaGreatDoorRows
import GoSem.ClaimSeven
namespace Go.Proofs.YtbmjfjgfognimaaGreatDoor
namespace Rows

/-- THE TIED CARD OF 'hustingslaw28.AnswerFits'. -/
def answerFitsCard : Claim7 := { stood := { row := answerFitsRow, standIns := [], harness := (true, "9468cdadd298dff1e9216d048f649fa83df9362b1c86b63bdaaec900ea4dff3b"), looks := true }, kinds := [], alts := [], laidByText := true, laidKinds := [.handle, .data], laidTests := true, laidLooks := .later }
def AnswerFitsCardSaid : Prop := Claim7.holds Tryz.pinned (.plain (OpenSpec.ofChange answerFitsSpec)) answerFitsCard

/-- THE TIED CARD OF 'hustingslaw28.AnswerCut'. -/
def answerCutCard : Claim7 := { stood := { row := answerCutRow, standIns := [], harness := (true, "9468cdadd298dff1e9216d048f649fa83df9362b1c86b63bdaaec900ea4dff3b"), looks := true }, kinds := [], alts := [], laidByText := true, laidKinds := [.handle, .data], laidTests := true, laidLooks := .later }
def AnswerCutCardSaid : Prop := Claim7.holds Tryz.pinned (.plain (OpenSpec.ofChange answerCutSpec)) answerCutCard

/-- THE TIED CARD OF 'hustingslaw30.ResolverFits'. -/
def resolverFitsCard : Claim7 := { stood := { row := resolverFitsRow, standIns := [], harness := (true, "9468cdadd298dff1e9216d048f649fa83df9362b1c86b63bdaaec900ea4dff3b"), looks := true }, kinds := [], alts := [], laidByText := true, laidKinds := [.handle, .data], laidTests := true, laidLooks := .later }
def ResolverFitsCardSaid : Prop := Claim7.holds Tryz.pinned (.plain (OpenSpec.ofChange resolverFitsSpec)) resolverFitsCard

/-- THE TIED CARD OF 'hustingslaw30.ResolverMakes'. -/
def resolverMakesCard : Claim7 := { stood := { row := resolverMakesRow, standIns := [], harness := (true, "9468cdadd298dff1e9216d048f649fa83df9362b1c86b63bdaaec900ea4dff3b"), looks := true }, kinds := [], alts := [], laidByText := true, laidKinds := [.handle, .data], laidTests := true, laidLooks := .later }
def ResolverMakesCardSaid : Prop := Claim7.holds Tryz.pinned (.plain (OpenSpec.ofChange resolverMakesSpec)) resolverMakesCard

/-- THE TIED CARD OF 'hustingslaw30.ResolverAnswers'. -/
def resolverAnswersCard : Claim7 := { stood := { row := resolverAnswersRow, standIns := [], harness := (true, "9468cdadd298dff1e9216d048f649fa83df9362b1c86b63bdaaec900ea4dff3b"), looks := true }, kinds := [], alts := [], laidByText := true, laidKinds := [.handle, .data], laidTests := true, laidLooks := .later }
def ResolverAnswersCardSaid : Prop := Claim7.holds Tryz.pinned (.plain (OpenSpec.ofChange resolverAnswersSpec)) resolverAnswersCard

/-- THE TIED CARD OF 'hustingslaw30.ResolverRows'. -/
def resolverRowsCard : Claim7 := { stood := { row := resolverRowsRow, standIns := [], harness := (true, "9468cdadd298dff1e9216d048f649fa83df9362b1c86b63bdaaec900ea4dff3b"), looks := true }, kinds := [], alts := [], laidByText := true, laidKinds := [.handle, .data], laidTests := true, laidLooks := .later }
def ResolverRowsCardSaid : Prop := Claim7.holds Tryz.pinned (.plain (OpenSpec.ofChange resolverRowsSpec)) resolverRowsCard

/-- THE TIED CARD OF 'hustingslaw30.ResolverGone'. -/
def resolverGoneCard : Claim7 := { stood := { row := resolverGoneRow, standIns := [], harness := (true, "9468cdadd298dff1e9216d048f649fa83df9362b1c86b63bdaaec900ea4dff3b"), looks := true }, kinds := [], alts := [], laidByText := true, laidKinds := [.handle, .data], laidTests := true, laidLooks := .later }
def ResolverGoneCardSaid : Prop := Claim7.holds Tryz.pinned (.plain (OpenSpec.ofChange resolverGoneSpec)) resolverGoneCard

/-- THE TIED CARD OF 'hustingslaw30.ResolverClass'. -/
def resolverClassCard : Claim7 := { stood := { row := resolverClassRow, standIns := [], harness := (true, "9468cdadd298dff1e9216d048f649fa83df9362b1c86b63bdaaec900ea4dff3b"), looks := true }, kinds := [], alts := [], laidByText := true, laidKinds := [.handle, .data], laidTests := true, laidLooks := .later }
def ResolverClassCardSaid : Prop := Claim7.holds Tryz.pinned (.plain (OpenSpec.ofChange resolverClassSpec)) resolverClassCard

/-- THE TIED CARD OF 'hustingslaw24.HeardLooks'. -/
def heardLooksCard : Claim7 := { stood := { row := heardLooksRow, standIns := [], harness := (true, "9468cdadd298dff1e9216d048f649fa83df9362b1c86b63bdaaec900ea4dff3b"), looks := true }, kinds := [], alts := [], laidByText := true, laidKinds := [.handle, .data, .sentinel, .sentinel], laidTests := true, laidLooks := .later }
def HeardLooksCardSaid : Prop := Claim7.holds Tryz.pinned (.plain (OpenSpec.ofChange heardLooksSpec)) heardLooksCard

/-- THE TIED CARD OF 'hustingslaw24.HeardAsked'. -/
def heardAskedCard : Claim7 := { stood := { row := heardAskedRow, standIns := [], harness := (true, "9468cdadd298dff1e9216d048f649fa83df9362b1c86b63bdaaec900ea4dff3b"), looks := true }, kinds := [], alts := [], laidByText := true, laidKinds := [.handle, .data, .sentinel, .sentinel], laidTests := true, laidLooks := .later }
def HeardAskedCardSaid : Prop := Claim7.holds Tryz.pinned (.plain (OpenSpec.ofChange heardAskedSpec)) heardAskedCard

/-- THE TIED CARD OF 'hustingslaw30.ResolverVotes'. -/
def resolverVotesCard : Claim7 := { stood := { row := resolverVotesRow, standIns := [], harness := (true, "9468cdadd298dff1e9216d048f649fa83df9362b1c86b63bdaaec900ea4dff3b"), looks := true }, kinds := [], alts := [], laidByText := true, laidKinds := [.handle, .data, .sentinel, .sentinel], laidTests := true, laidLooks := .later }
def ResolverVotesCardSaid : Prop := Claim7.holds Tryz.pinned (.plain (OpenSpec.ofChange resolverVotesSpec)) resolverVotesCard

/-- THE TIED CARD OF 'hustingslaw28.AnswerRead'. -/
def answerReadCard : Claim7 := { stood := { row := answerReadRow, standIns := [], harness := (true, "9468cdadd298dff1e9216d048f649fa83df9362b1c86b63bdaaec900ea4dff3b"), looks := true }, kinds := [], alts := [], laidByText := true, laidKinds := [.handle, .data, .sentinel, .sentinel], laidTests := true, laidLooks := .later }
def AnswerReadCardSaid : Prop := Claim7.holds Tryz.pinned (.plain (OpenSpec.ofChange answerReadSpec)) answerReadCard

/-- THE SECOND FORM's CARD OF 'hustingslaw28.AnswerFits'. -/
def answerFitsUptoCard : Claim7 := { stood := { row := answerFitsUptoRow, standIns := [], harness := (true, "9468cdadd298dff1e9216d048f649fa83df9362b1c86b63bdaaec900ea4dff3b"), looks := true }, kinds := [], alts := [], laidByText := true, laidKinds := [.handle, .data], laidTests := true, laidLooks := .later }
def AnswerFitsUptoCardSaid : Prop := Claim7.holds Tryz.pinned (.plain (OpenSpec.upto answerFitsSpec)) answerFitsUptoCard

/-- THE SECOND FORM's CARD OF 'hustingslaw28.AnswerCut'. -/
def answerCutUptoCard : Claim7 := { stood := { row := answerCutUptoRow, standIns := [], harness := (true, "9468cdadd298dff1e9216d048f649fa83df9362b1c86b63bdaaec900ea4dff3b"), looks := true }, kinds := [], alts := [], laidByText := true, laidKinds := [.handle, .data], laidTests := true, laidLooks := .later }
def AnswerCutUptoCardSaid : Prop := Claim7.holds Tryz.pinned (.plain (OpenSpec.upto answerCutSpec)) answerCutUptoCard

/-- THE SECOND FORM's CARD OF 'hustingslaw30.ResolverFits'. -/
def resolverFitsUptoCard : Claim7 := { stood := { row := resolverFitsUptoRow, standIns := [], harness := (true, "9468cdadd298dff1e9216d048f649fa83df9362b1c86b63bdaaec900ea4dff3b"), looks := true }, kinds := [], alts := [], laidByText := true, laidKinds := [.handle, .data], laidTests := true, laidLooks := .later }
def ResolverFitsUptoCardSaid : Prop := Claim7.holds Tryz.pinned (.plain (OpenSpec.upto resolverFitsSpec)) resolverFitsUptoCard

/-- THE SECOND FORM's CARD OF 'hustingslaw30.ResolverMakes'. -/
def resolverMakesUptoCard : Claim7 := { stood := { row := resolverMakesUptoRow, standIns := [], harness := (true, "9468cdadd298dff1e9216d048f649fa83df9362b1c86b63bdaaec900ea4dff3b"), looks := true }, kinds := [], alts := [], laidByText := true, laidKinds := [.handle, .data], laidTests := true, laidLooks := .later }
def ResolverMakesUptoCardSaid : Prop := Claim7.holds Tryz.pinned (.plain (OpenSpec.upto resolverMakesSpec)) resolverMakesUptoCard

/-- THE SECOND FORM's CARD OF 'hustingslaw30.ResolverAnswers'. -/
def resolverAnswersUptoCard : Claim7 := { stood := { row := resolverAnswersUptoRow, standIns := [], harness := (true, "9468cdadd298dff1e9216d048f649fa83df9362b1c86b63bdaaec900ea4dff3b"), looks := true }, kinds := [], alts := [], laidByText := true, laidKinds := [.handle, .data], laidTests := true, laidLooks := .later }
def ResolverAnswersUptoCardSaid : Prop := Claim7.holds Tryz.pinned (.plain (OpenSpec.upto resolverAnswersSpec)) resolverAnswersUptoCard

/-- THE SECOND FORM's CARD OF 'hustingslaw30.ResolverRows'. -/
def resolverRowsUptoCard : Claim7 := { stood := { row := resolverRowsUptoRow, standIns := [], harness := (true, "9468cdadd298dff1e9216d048f649fa83df9362b1c86b63bdaaec900ea4dff3b"), looks := true }, kinds := [], alts := [], laidByText := true, laidKinds := [.handle, .data], laidTests := true, laidLooks := .later }
def ResolverRowsUptoCardSaid : Prop := Claim7.holds Tryz.pinned (.plain (OpenSpec.upto resolverRowsSpec)) resolverRowsUptoCard

/-- THE SECOND FORM's CARD OF 'hustingslaw30.ResolverGone'. -/
def resolverGoneUptoCard : Claim7 := { stood := { row := resolverGoneUptoRow, standIns := [], harness := (true, "9468cdadd298dff1e9216d048f649fa83df9362b1c86b63bdaaec900ea4dff3b"), looks := true }, kinds := [], alts := [], laidByText := true, laidKinds := [.handle, .data], laidTests := true, laidLooks := .later }
def ResolverGoneUptoCardSaid : Prop := Claim7.holds Tryz.pinned (.plain (OpenSpec.upto resolverGoneSpec)) resolverGoneUptoCard

/-- THE SECOND FORM's CARD OF 'hustingslaw30.ResolverClass'. -/
def resolverClassUptoCard : Claim7 := { stood := { row := resolverClassUptoRow, standIns := [], harness := (true, "9468cdadd298dff1e9216d048f649fa83df9362b1c86b63bdaaec900ea4dff3b"), looks := true }, kinds := [], alts := [], laidByText := true, laidKinds := [.handle, .data], laidTests := true, laidLooks := .later }
def ResolverClassUptoCardSaid : Prop := Claim7.holds Tryz.pinned (.plain (OpenSpec.upto resolverClassSpec)) resolverClassUptoCard

/-- THE SECOND FORM's CARD OF 'hustingslaw24.HeardLooks'. -/
def heardLooksUptoCard : Claim7 := { stood := { row := heardLooksUptoRow, standIns := [], harness := (true, "9468cdadd298dff1e9216d048f649fa83df9362b1c86b63bdaaec900ea4dff3b"), looks := true }, kinds := [], alts := [], laidByText := true, laidKinds := [.handle, .data, .sentinel, .sentinel], laidTests := true, laidLooks := .later }
def HeardLooksUptoCardSaid : Prop := Claim7.holds Tryz.pinned (.plain (OpenSpec.upto heardLooksSpec)) heardLooksUptoCard

/-- THE SECOND FORM's CARD OF 'hustingslaw24.HeardAsked'. -/
def heardAskedUptoCard : Claim7 := { stood := { row := heardAskedUptoRow, standIns := [], harness := (true, "9468cdadd298dff1e9216d048f649fa83df9362b1c86b63bdaaec900ea4dff3b"), looks := true }, kinds := [], alts := [], laidByText := true, laidKinds := [.handle, .data, .sentinel, .sentinel], laidTests := true, laidLooks := .later }
def HeardAskedUptoCardSaid : Prop := Claim7.holds Tryz.pinned (.plain (OpenSpec.upto heardAskedSpec)) heardAskedUptoCard

/-- THE SECOND FORM's CARD OF 'hustingslaw30.ResolverVotes'. -/
def resolverVotesUptoCard : Claim7 := { stood := { row := resolverVotesUptoRow, standIns := [], harness := (true, "9468cdadd298dff1e9216d048f649fa83df9362b1c86b63bdaaec900ea4dff3b"), looks := true }, kinds := [], alts := [], laidByText := true, laidKinds := [.handle, .data, .sentinel, .sentinel], laidTests := true, laidLooks := .later }
def ResolverVotesUptoCardSaid : Prop := Claim7.holds Tryz.pinned (.plain (OpenSpec.upto resolverVotesSpec)) resolverVotesUptoCard

/-- THE SECOND FORM's CARD OF 'hustingslaw28.AnswerRead'. -/
def answerReadUptoCard : Claim7 := { stood := { row := answerReadUptoRow, standIns := [], harness := (true, "9468cdadd298dff1e9216d048f649fa83df9362b1c86b63bdaaec900ea4dff3b"), looks := true }, kinds := [], alts := [], laidByText := true, laidKinds := [.handle, .data, .sentinel, .sentinel], laidTests := true, laidLooks := .later }
def AnswerReadUptoCardSaid : Prop := Claim7.holds Tryz.pinned (.plain (OpenSpec.upto answerReadSpec)) answerReadUptoCard
end Rows
end Go.Proofs.YtbmjfjgfognimaaGreatDoor
