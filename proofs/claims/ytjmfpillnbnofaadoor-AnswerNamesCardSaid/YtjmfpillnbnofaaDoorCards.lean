/-
  DERIVED. GIVEN WITH THE SEED: THE CARDS: each row of YtjmfpillnbnofaaDoorRows.lean that lists a variable, with what it lists TIED to the program's text (the seventh form; the later family's looks); each row that meets fmt, with fmt's text TOLD by the authors' own Lean function (tested against real Go, not proved from fmt's source: count such statements apart). THE CARD IS WHAT COUNTS. Prove the row's statement (the work); the ties are given (YtjmfpillnbnofaaDoorTie.lean); close each card by the builder's one call (the guide's Derived/Test/ToyasCard.lean, 'card_holds'). Laid BY PROGRAM, IN A SANDBOX (cutbox-door.mjs). By AI agents, Wed Nov 11 2026. No macro, syntax, notation, axiom, sorry.
-/
import Derived.Test.YtjmfpillnbnofaaDoorRows
import GoSem.ClaimSeven
namespace Go.Proofs.YtjmfpillnbnofaaDoor
namespace Rows

/-- THE TIED CARD OF 'hustingslaw28.AnswerNames'. -/
def answerNamesCard : Claim7 := { stood := { row := answerNamesRow, standIns := [], harness := (true, "a939afda696b0434dbb27e499b15397172b399455fc05f3f60821ca4af5b88f7"), looks := true }, kinds := [], alts := [], laidByText := true, laidKinds := [.handle, .data], laidTests := true, laidLooks := .later }
def AnswerNamesCardSaid : Prop := Claim7.holds Tryd.pinned (.plain (OpenSpec.ofChange answerNamesSpec)) answerNamesCard

/-- THE SECOND FORM's CARD OF 'hustingslaw28.AnswerNames'. -/
def answerNamesUptoCard : Claim7 := { stood := { row := answerNamesUptoRow, standIns := [], harness := (true, "a939afda696b0434dbb27e499b15397172b399455fc05f3f60821ca4af5b88f7"), looks := true }, kinds := [], alts := [], laidByText := true, laidKinds := [.handle, .data], laidTests := true, laidLooks := .later }
def AnswerNamesUptoCardSaid : Prop := Claim7.holds Tryd.pinned (.plain (OpenSpec.upto answerNamesSpec)) answerNamesUptoCard
end Rows
end Go.Proofs.YtjmfpillnbnofaaDoor
