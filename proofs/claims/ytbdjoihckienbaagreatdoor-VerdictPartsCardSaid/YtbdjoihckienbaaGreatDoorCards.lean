/-
  DERIVED. GIVEN WITH THE SEED: THE CARDS: each row of YtbdjoihckienbaaGreatDoorRows.lean that lists a variable, with what it lists TIED to the program's text (the seventh form; the later family's looks); each row that meets fmt, with fmt's text TOLD by the authors' own Lean function (tested against real Go, not proved from fmt's source: count such statements apart). THE CARD IS WHAT COUNTS. Prove the row's statement (the work); the ties are given (YtbdjoihckienbaaGreatDoorTie.lean); close each card by the builder's one call (the guide's Derived/Test/ToyasCard.lean, 'card_holds'). Laid BY PROGRAM, IN A SANDBOX (cutbox-door.mjs). By AI agents, Wed Nov 11 2026. No macro, syntax, notation, axiom, sorry.
-/
import Derived.Test.YtbdjoihckienbaaGreatDoorRows
import GoSem.ClaimSeven
namespace Go.Proofs.YtbdjoihckienbaaGreatDoor
namespace Rows

/-- THE TIED CARD OF 'hustingslaw11.VerdictOf'. -/
def verdictOfCard : Claim7 := { stood := { row := verdictOfRow, standIns := [], harness := (true, "b0293177b58013b80ac0bc0b58bb5030595271a698c4547afef38d1f7378a9e8"), looks := true }, kinds := [], alts := [], laidByText := true, laidKinds := [.handle], laidTests := true, laidLooks := .later }
def VerdictOfCardSaid : Prop := Claim7.holds Tryz.pinned (.plain (OpenSpec.ofChange verdictOfSpec)) verdictOfCard

/-- THE TIED CARD OF 'hustingslaw11.VerdictForm'. -/
def verdictFormCard : Claim7 := { stood := { row := verdictFormRow, standIns := [], harness := (true, "b0293177b58013b80ac0bc0b58bb5030595271a698c4547afef38d1f7378a9e8"), looks := true }, kinds := [], alts := [], laidByText := true, laidKinds := [.handle], laidTests := true, laidLooks := .later }
def VerdictFormCardSaid : Prop := Claim7.holds Tryz.pinned (.plain (OpenSpec.ofChange verdictFormSpec)) verdictFormCard

/-- THE TIED CARD OF 'hustingslaw11.VerdictNames'. -/
def verdictNamesCard : Claim7 := { stood := { row := verdictNamesRow, standIns := [], harness := (true, "b0293177b58013b80ac0bc0b58bb5030595271a698c4547afef38d1f7378a9e8"), looks := true }, kinds := [], alts := [], laidByText := true, laidKinds := [.handle], laidTests := true, laidLooks := .later }
def VerdictNamesCardSaid : Prop := Claim7.holds Tryz.pinned (.plain (OpenSpec.ofChange verdictNamesSpec)) verdictNamesCard

/-- THE TIED CARD OF 'hustingslaw11.VerdictKeys'. -/
def verdictKeysCard : Claim7 := { stood := { row := verdictKeysRow, standIns := [], harness := (true, "b0293177b58013b80ac0bc0b58bb5030595271a698c4547afef38d1f7378a9e8"), looks := true }, kinds := [], alts := [], laidByText := true, laidKinds := [.handle], laidTests := true, laidLooks := .later }
def VerdictKeysCardSaid : Prop := Claim7.holds Tryz.pinned (.plain (OpenSpec.ofChange verdictKeysSpec)) verdictKeysCard

/-- THE TIED CARD OF 'hustingslaw11.VerdictTime'. -/
def verdictTimeCard : Claim7 := { stood := { row := verdictTimeRow, standIns := [], harness := (true, "b0293177b58013b80ac0bc0b58bb5030595271a698c4547afef38d1f7378a9e8"), looks := true }, kinds := [], alts := [], laidByText := true, laidKinds := [.handle], laidTests := true, laidLooks := .later }
def VerdictTimeCardSaid : Prop := Claim7.holds Tryz.pinned (.plain (OpenSpec.ofChange verdictTimeSpec)) verdictTimeCard

/-- THE TIED CARD OF 'hustingslaw11.VerdictTells'. -/
def verdictTellsCard : Claim7 := { stood := { row := verdictTellsRow, standIns := [], harness := (true, "b0293177b58013b80ac0bc0b58bb5030595271a698c4547afef38d1f7378a9e8"), looks := true }, kinds := [], alts := [], laidByText := true, laidKinds := [.handle], laidTests := true, laidLooks := .later }
def VerdictTellsCardSaid : Prop := Claim7.holds Tryz.pinned (.plain (OpenSpec.ofChange verdictTellsSpec)) verdictTellsCard

/-- THE TIED CARD OF 'hustingslaw11.VerdictParts'. -/
def verdictPartsCard : Claim7 := { stood := { row := verdictPartsRow, standIns := [], harness := (true, "b0293177b58013b80ac0bc0b58bb5030595271a698c4547afef38d1f7378a9e8"), looks := true }, kinds := [], alts := [], laidByText := true, laidKinds := [.handle], laidTests := true, laidLooks := .later }
def VerdictPartsCardSaid : Prop := Claim7.holds Tryz.pinned (.plain (OpenSpec.ofChange verdictPartsSpec)) verdictPartsCard

/-- THE SECOND FORM's CARD OF 'hustingslaw11.VerdictOf'. -/
def verdictOfUptoCard : Claim7 := { stood := { row := verdictOfUptoRow, standIns := [], harness := (true, "b0293177b58013b80ac0bc0b58bb5030595271a698c4547afef38d1f7378a9e8"), looks := true }, kinds := [], alts := [], laidByText := true, laidKinds := [.handle], laidTests := true, laidLooks := .later }
def VerdictOfUptoCardSaid : Prop := Claim7.holds Tryz.pinned (.plain (OpenSpec.upto verdictOfSpec)) verdictOfUptoCard

/-- THE SECOND FORM's CARD OF 'hustingslaw11.VerdictForm'. -/
def verdictFormUptoCard : Claim7 := { stood := { row := verdictFormUptoRow, standIns := [], harness := (true, "b0293177b58013b80ac0bc0b58bb5030595271a698c4547afef38d1f7378a9e8"), looks := true }, kinds := [], alts := [], laidByText := true, laidKinds := [.handle], laidTests := true, laidLooks := .later }
def VerdictFormUptoCardSaid : Prop := Claim7.holds Tryz.pinned (.plain (OpenSpec.upto verdictFormSpec)) verdictFormUptoCard

/-- THE SECOND FORM's CARD OF 'hustingslaw11.VerdictNames'. -/
def verdictNamesUptoCard : Claim7 := { stood := { row := verdictNamesUptoRow, standIns := [], harness := (true, "b0293177b58013b80ac0bc0b58bb5030595271a698c4547afef38d1f7378a9e8"), looks := true }, kinds := [], alts := [], laidByText := true, laidKinds := [.handle], laidTests := true, laidLooks := .later }
def VerdictNamesUptoCardSaid : Prop := Claim7.holds Tryz.pinned (.plain (OpenSpec.upto verdictNamesSpec)) verdictNamesUptoCard

/-- THE SECOND FORM's CARD OF 'hustingslaw11.VerdictKeys'. -/
def verdictKeysUptoCard : Claim7 := { stood := { row := verdictKeysUptoRow, standIns := [], harness := (true, "b0293177b58013b80ac0bc0b58bb5030595271a698c4547afef38d1f7378a9e8"), looks := true }, kinds := [], alts := [], laidByText := true, laidKinds := [.handle], laidTests := true, laidLooks := .later }
def VerdictKeysUptoCardSaid : Prop := Claim7.holds Tryz.pinned (.plain (OpenSpec.upto verdictKeysSpec)) verdictKeysUptoCard

/-- THE SECOND FORM's CARD OF 'hustingslaw11.VerdictTime'. -/
def verdictTimeUptoCard : Claim7 := { stood := { row := verdictTimeUptoRow, standIns := [], harness := (true, "b0293177b58013b80ac0bc0b58bb5030595271a698c4547afef38d1f7378a9e8"), looks := true }, kinds := [], alts := [], laidByText := true, laidKinds := [.handle], laidTests := true, laidLooks := .later }
def VerdictTimeUptoCardSaid : Prop := Claim7.holds Tryz.pinned (.plain (OpenSpec.upto verdictTimeSpec)) verdictTimeUptoCard

/-- THE SECOND FORM's CARD OF 'hustingslaw11.VerdictTells'. -/
def verdictTellsUptoCard : Claim7 := { stood := { row := verdictTellsUptoRow, standIns := [], harness := (true, "b0293177b58013b80ac0bc0b58bb5030595271a698c4547afef38d1f7378a9e8"), looks := true }, kinds := [], alts := [], laidByText := true, laidKinds := [.handle], laidTests := true, laidLooks := .later }
def VerdictTellsUptoCardSaid : Prop := Claim7.holds Tryz.pinned (.plain (OpenSpec.upto verdictTellsSpec)) verdictTellsUptoCard

/-- THE SECOND FORM's CARD OF 'hustingslaw11.VerdictParts'. -/
def verdictPartsUptoCard : Claim7 := { stood := { row := verdictPartsUptoRow, standIns := [], harness := (true, "b0293177b58013b80ac0bc0b58bb5030595271a698c4547afef38d1f7378a9e8"), looks := true }, kinds := [], alts := [], laidByText := true, laidKinds := [.handle], laidTests := true, laidLooks := .later }
def VerdictPartsUptoCardSaid : Prop := Claim7.holds Tryz.pinned (.plain (OpenSpec.upto verdictPartsSpec)) verdictPartsUptoCard
end Rows
end Go.Proofs.YtbdjoihckienbaaGreatDoor
