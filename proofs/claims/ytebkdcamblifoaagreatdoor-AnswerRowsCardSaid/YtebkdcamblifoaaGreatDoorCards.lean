/-
  DERIVED. GIVEN WITH THE SEED: THE CARDS: each row of YtebkdcamblifoaaGreatDoorRows.lean that lists a variable, with what it lists TIED to the program's text (the seventh form; the later family's looks); each row that meets fmt, with fmt's text TOLD by the authors' own Lean function (tested against real Go, not proved from fmt's source: count such statements apart). THE CARD IS WHAT COUNTS. Prove the row's statement (the work); the ties are given (YtebkdcamblifoaaGreatDoorTie.lean); close each card by the builder's one call (the guide's Derived/Test/ToyasCard.lean, 'card_holds'). Laid BY PROGRAM, IN A SANDBOX (cutbox-door.mjs). By AI agents, Wed Nov 11 2026. No macro, syntax, notation, axiom, sorry.
-/
import Derived.Test.YtebkdcamblifoaaGreatDoorRows
import GoSem.ClaimSeven
namespace Go.Proofs.YtebkdcamblifoaaGreatDoor
namespace Rows

/-- THE TIED CARD OF 'hustingslaw28.AnswerCodes'. -/
def answerCodesCard : Claim7 := { stood := { row := answerCodesRow, standIns := [], harness := (true, "0ed1fec591254f5e19d1e2ad88f1566dc888ba2b73e6dd16a4823869b3f57b5b"), looks := true }, kinds := [], alts := [], laidByText := true, laidKinds := [.handle, .data], laidTests := true, laidLooks := .later }
def AnswerCodesCardSaid : Prop := Claim7.holds Tryz.pinned (.plain (OpenSpec.ofChange answerCodesSpec)) answerCodesCard

/-- THE TIED CARD OF 'hustingslaw28.AnswerVerdicts'. -/
def answerVerdictsCard : Claim7 := { stood := { row := answerVerdictsRow, standIns := [], harness := (true, "0ed1fec591254f5e19d1e2ad88f1566dc888ba2b73e6dd16a4823869b3f57b5b"), looks := true }, kinds := [], alts := [], laidByText := true, laidKinds := [.handle, .data], laidTests := true, laidLooks := .later }
def AnswerVerdictsCardSaid : Prop := Claim7.holds Tryz.pinned (.plain (OpenSpec.ofChange answerVerdictsSpec)) answerVerdictsCard

/-- THE TIED CARD OF 'hustingslaw28.AnswerTimes'. -/
def answerTimesCard : Claim7 := { stood := { row := answerTimesRow, standIns := [], harness := (true, "0ed1fec591254f5e19d1e2ad88f1566dc888ba2b73e6dd16a4823869b3f57b5b"), looks := true }, kinds := [], alts := [], laidByText := true, laidKinds := [.handle, .data], laidTests := true, laidLooks := .later }
def AnswerTimesCardSaid : Prop := Claim7.holds Tryz.pinned (.plain (OpenSpec.ofChange answerTimesSpec)) answerTimesCard

/-- THE TIED CARD OF 'hustingslaw28.AnswerFits'. -/
def answerFitsCard : Claim7 := { stood := { row := answerFitsRow, standIns := [], harness := (true, "0ed1fec591254f5e19d1e2ad88f1566dc888ba2b73e6dd16a4823869b3f57b5b"), looks := true }, kinds := [], alts := [], laidByText := true, laidKinds := [.handle, .data], laidTests := true, laidLooks := .later }
def AnswerFitsCardSaid : Prop := Claim7.holds Tryz.pinned (.plain (OpenSpec.ofChange answerFitsSpec)) answerFitsCard

/-- THE TIED CARD OF 'hustingslaw28.AnswerCut'. -/
def answerCutCard : Claim7 := { stood := { row := answerCutRow, standIns := [], harness := (true, "0ed1fec591254f5e19d1e2ad88f1566dc888ba2b73e6dd16a4823869b3f57b5b"), looks := true }, kinds := [], alts := [], laidByText := true, laidKinds := [.handle, .data], laidTests := true, laidLooks := .later }
def AnswerCutCardSaid : Prop := Claim7.holds Tryz.pinned (.plain (OpenSpec.ofChange answerCutSpec)) answerCutCard

/-- THE TIED CARD OF 'hustingslaw28.AnswerRows'. -/
def answerRowsCard : Claim7 := { stood := { row := answerRowsRow, standIns := [], harness := (true, "0ed1fec591254f5e19d1e2ad88f1566dc888ba2b73e6dd16a4823869b3f57b5b"), looks := true }, kinds := [], alts := [], laidByText := true, laidKinds := [.handle, .data], laidTests := true, laidLooks := .later }
def AnswerRowsCardSaid : Prop := Claim7.holds Tryz.pinned (.plain (OpenSpec.ofChange answerRowsSpec)) answerRowsCard

/-- THE TIED CARD OF 'hustingslaw11.VerdictNames'. -/
def verdictNamesCard : Claim7 := { stood := { row := verdictNamesRow, standIns := [], harness := (true, "0ed1fec591254f5e19d1e2ad88f1566dc888ba2b73e6dd16a4823869b3f57b5b"), looks := true }, kinds := [], alts := [], laidByText := true, laidKinds := [.handle], laidTests := true, laidLooks := .later }
def VerdictNamesCardSaid : Prop := Claim7.holds Tryz.pinned (.plain (OpenSpec.ofChange verdictNamesSpec)) verdictNamesCard

/-- THE TIED CARD OF 'hustingslaw28.AnswerRead'. -/
def answerReadCard : Claim7 := { stood := { row := answerReadRow, standIns := [], harness := (true, "0ed1fec591254f5e19d1e2ad88f1566dc888ba2b73e6dd16a4823869b3f57b5b"), looks := true }, kinds := [], alts := [], laidByText := true, laidKinds := [.handle, .data, .sentinel, .sentinel], laidTests := true, laidLooks := .later }
def AnswerReadCardSaid : Prop := Claim7.holds Tryz.pinned (.plain (OpenSpec.ofChange answerReadSpec)) answerReadCard

/-- THE SECOND FORM's CARD OF 'hustingslaw28.AnswerCodes'. -/
def answerCodesUptoCard : Claim7 := { stood := { row := answerCodesUptoRow, standIns := [], harness := (true, "0ed1fec591254f5e19d1e2ad88f1566dc888ba2b73e6dd16a4823869b3f57b5b"), looks := true }, kinds := [], alts := [], laidByText := true, laidKinds := [.handle, .data], laidTests := true, laidLooks := .later }
def AnswerCodesUptoCardSaid : Prop := Claim7.holds Tryz.pinned (.plain (OpenSpec.upto answerCodesSpec)) answerCodesUptoCard

/-- THE SECOND FORM's CARD OF 'hustingslaw28.AnswerVerdicts'. -/
def answerVerdictsUptoCard : Claim7 := { stood := { row := answerVerdictsUptoRow, standIns := [], harness := (true, "0ed1fec591254f5e19d1e2ad88f1566dc888ba2b73e6dd16a4823869b3f57b5b"), looks := true }, kinds := [], alts := [], laidByText := true, laidKinds := [.handle, .data], laidTests := true, laidLooks := .later }
def AnswerVerdictsUptoCardSaid : Prop := Claim7.holds Tryz.pinned (.plain (OpenSpec.upto answerVerdictsSpec)) answerVerdictsUptoCard

/-- THE SECOND FORM's CARD OF 'hustingslaw28.AnswerTimes'. -/
def answerTimesUptoCard : Claim7 := { stood := { row := answerTimesUptoRow, standIns := [], harness := (true, "0ed1fec591254f5e19d1e2ad88f1566dc888ba2b73e6dd16a4823869b3f57b5b"), looks := true }, kinds := [], alts := [], laidByText := true, laidKinds := [.handle, .data], laidTests := true, laidLooks := .later }
def AnswerTimesUptoCardSaid : Prop := Claim7.holds Tryz.pinned (.plain (OpenSpec.upto answerTimesSpec)) answerTimesUptoCard

/-- THE SECOND FORM's CARD OF 'hustingslaw28.AnswerFits'. -/
def answerFitsUptoCard : Claim7 := { stood := { row := answerFitsUptoRow, standIns := [], harness := (true, "0ed1fec591254f5e19d1e2ad88f1566dc888ba2b73e6dd16a4823869b3f57b5b"), looks := true }, kinds := [], alts := [], laidByText := true, laidKinds := [.handle, .data], laidTests := true, laidLooks := .later }
def AnswerFitsUptoCardSaid : Prop := Claim7.holds Tryz.pinned (.plain (OpenSpec.upto answerFitsSpec)) answerFitsUptoCard

/-- THE SECOND FORM's CARD OF 'hustingslaw28.AnswerCut'. -/
def answerCutUptoCard : Claim7 := { stood := { row := answerCutUptoRow, standIns := [], harness := (true, "0ed1fec591254f5e19d1e2ad88f1566dc888ba2b73e6dd16a4823869b3f57b5b"), looks := true }, kinds := [], alts := [], laidByText := true, laidKinds := [.handle, .data], laidTests := true, laidLooks := .later }
def AnswerCutUptoCardSaid : Prop := Claim7.holds Tryz.pinned (.plain (OpenSpec.upto answerCutSpec)) answerCutUptoCard

/-- THE SECOND FORM's CARD OF 'hustingslaw28.AnswerRows'. -/
def answerRowsUptoCard : Claim7 := { stood := { row := answerRowsUptoRow, standIns := [], harness := (true, "0ed1fec591254f5e19d1e2ad88f1566dc888ba2b73e6dd16a4823869b3f57b5b"), looks := true }, kinds := [], alts := [], laidByText := true, laidKinds := [.handle, .data], laidTests := true, laidLooks := .later }
def AnswerRowsUptoCardSaid : Prop := Claim7.holds Tryz.pinned (.plain (OpenSpec.upto answerRowsSpec)) answerRowsUptoCard

/-- THE SECOND FORM's CARD OF 'hustingslaw11.VerdictNames'. -/
def verdictNamesUptoCard : Claim7 := { stood := { row := verdictNamesUptoRow, standIns := [], harness := (true, "0ed1fec591254f5e19d1e2ad88f1566dc888ba2b73e6dd16a4823869b3f57b5b"), looks := true }, kinds := [], alts := [], laidByText := true, laidKinds := [.handle], laidTests := true, laidLooks := .later }
def VerdictNamesUptoCardSaid : Prop := Claim7.holds Tryz.pinned (.plain (OpenSpec.upto verdictNamesSpec)) verdictNamesUptoCard

/-- THE SECOND FORM's CARD OF 'hustingslaw28.AnswerRead'. -/
def answerReadUptoCard : Claim7 := { stood := { row := answerReadUptoRow, standIns := [], harness := (true, "0ed1fec591254f5e19d1e2ad88f1566dc888ba2b73e6dd16a4823869b3f57b5b"), looks := true }, kinds := [], alts := [], laidByText := true, laidKinds := [.handle, .data, .sentinel, .sentinel], laidTests := true, laidLooks := .later }
def AnswerReadUptoCardSaid : Prop := Claim7.holds Tryz.pinned (.plain (OpenSpec.upto answerReadSpec)) answerReadUptoCard
end Rows
end Go.Proofs.YtebkdcamblifoaaGreatDoor
