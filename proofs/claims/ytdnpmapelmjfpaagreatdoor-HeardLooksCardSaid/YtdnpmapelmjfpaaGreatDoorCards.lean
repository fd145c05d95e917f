/-
  DERIVED. GIVEN WITH THE SEED: THE CARDS: each row of YtdnpmapelmjfpaaGreatDoorRows.lean that lists a variable, with what it lists TIED to the program's text (the seventh form; the later family's looks); each row that meets fmt, with fmt's text TOLD by the authors' own Lean function (tested against real Go, not proved from fmt's source: count such statements apart). THE CARD IS WHAT COUNTS. Prove the row's statement (the work); the ties are given (YtdnpmapelmjfpaaGreatDoorTie.lean); close each card by the builder's one call (the guide's Derived/Test/ToyasCard.lean, 'card_holds'). Laid BY PROGRAM, IN A SANDBOX (cutbox-door.mjs). By AI agents, Wed Nov 11 2026. No macro, syntax, notation, axiom, sorry.
-/
import Derived.Test.YtdnpmapelmjfpaaGreatDoorRows
import GoSem.ClaimSeven
namespace Go.Proofs.YtdnpmapelmjfpaaGreatDoor
namespace Rows

/-- THE TIED CARD OF 'hustingslaw28.AnswerFits'. -/
def answerFitsCard : Claim7 := { stood := { row := answerFitsRow, standIns := [], harness := (true, "6248a94c3f183765ff03b221f6888802612d77ed0a6ac2d712b5539a9ee0f625"), looks := true }, kinds := [], alts := [], laidByText := true, laidKinds := [.handle, .data], laidTests := true, laidLooks := .later }
def AnswerFitsCardSaid : Prop := Claim7.holds Tryz.pinned (.plain (OpenSpec.ofChange answerFitsSpec)) answerFitsCard

/-- THE TIED CARD OF 'hustingslaw30.ResolverFits'. -/
def resolverFitsCard : Claim7 := { stood := { row := resolverFitsRow, standIns := [], harness := (true, "6248a94c3f183765ff03b221f6888802612d77ed0a6ac2d712b5539a9ee0f625"), looks := true }, kinds := [], alts := [], laidByText := true, laidKinds := [.handle, .data], laidTests := true, laidLooks := .later }
def ResolverFitsCardSaid : Prop := Claim7.holds Tryz.pinned (.plain (OpenSpec.ofChange resolverFitsSpec)) resolverFitsCard

/-- THE TIED CARD OF 'hustingslaw30.ResolverAnswers'. -/
def resolverAnswersCard : Claim7 := { stood := { row := resolverAnswersRow, standIns := [], harness := (true, "6248a94c3f183765ff03b221f6888802612d77ed0a6ac2d712b5539a9ee0f625"), looks := true }, kinds := [], alts := [], laidByText := true, laidKinds := [.handle, .data], laidTests := true, laidLooks := .later }
def ResolverAnswersCardSaid : Prop := Claim7.holds Tryz.pinned (.plain (OpenSpec.ofChange resolverAnswersSpec)) resolverAnswersCard

/-- THE TIED CARD OF 'hustingslaw24.HeardLooks'. -/
def heardLooksCard : Claim7 := { stood := { row := heardLooksRow, standIns := [], harness := (true, "6248a94c3f183765ff03b221f6888802612d77ed0a6ac2d712b5539a9ee0f625"), looks := true }, kinds := [], alts := [], laidByText := true, laidKinds := [.handle, .data, .sentinel, .sentinel], laidTests := true, laidLooks := .later }
def HeardLooksCardSaid : Prop := Claim7.holds Tryz.pinned (.plain (OpenSpec.ofChange heardLooksSpec)) heardLooksCard

/-- THE SECOND FORM's CARD OF 'hustingslaw28.AnswerFits'. -/
def answerFitsUptoCard : Claim7 := { stood := { row := answerFitsUptoRow, standIns := [], harness := (true, "6248a94c3f183765ff03b221f6888802612d77ed0a6ac2d712b5539a9ee0f625"), looks := true }, kinds := [], alts := [], laidByText := true, laidKinds := [.handle, .data], laidTests := true, laidLooks := .later }
def AnswerFitsUptoCardSaid : Prop := Claim7.holds Tryz.pinned (.plain (OpenSpec.upto answerFitsSpec)) answerFitsUptoCard

/-- THE SECOND FORM's CARD OF 'hustingslaw30.ResolverFits'. -/
def resolverFitsUptoCard : Claim7 := { stood := { row := resolverFitsUptoRow, standIns := [], harness := (true, "6248a94c3f183765ff03b221f6888802612d77ed0a6ac2d712b5539a9ee0f625"), looks := true }, kinds := [], alts := [], laidByText := true, laidKinds := [.handle, .data], laidTests := true, laidLooks := .later }
def ResolverFitsUptoCardSaid : Prop := Claim7.holds Tryz.pinned (.plain (OpenSpec.upto resolverFitsSpec)) resolverFitsUptoCard

/-- THE SECOND FORM's CARD OF 'hustingslaw30.ResolverAnswers'. -/
def resolverAnswersUptoCard : Claim7 := { stood := { row := resolverAnswersUptoRow, standIns := [], harness := (true, "6248a94c3f183765ff03b221f6888802612d77ed0a6ac2d712b5539a9ee0f625"), looks := true }, kinds := [], alts := [], laidByText := true, laidKinds := [.handle, .data], laidTests := true, laidLooks := .later }
def ResolverAnswersUptoCardSaid : Prop := Claim7.holds Tryz.pinned (.plain (OpenSpec.upto resolverAnswersSpec)) resolverAnswersUptoCard

/-- THE SECOND FORM's CARD OF 'hustingslaw24.HeardLooks'. -/
def heardLooksUptoCard : Claim7 := { stood := { row := heardLooksUptoRow, standIns := [], harness := (true, "6248a94c3f183765ff03b221f6888802612d77ed0a6ac2d712b5539a9ee0f625"), looks := true }, kinds := [], alts := [], laidByText := true, laidKinds := [.handle, .data, .sentinel, .sentinel], laidTests := true, laidLooks := .later }
def HeardLooksUptoCardSaid : Prop := Claim7.holds Tryz.pinned (.plain (OpenSpec.upto heardLooksSpec)) heardLooksUptoCard
end Rows
end Go.Proofs.YtdnpmapelmjfpaaGreatDoor
