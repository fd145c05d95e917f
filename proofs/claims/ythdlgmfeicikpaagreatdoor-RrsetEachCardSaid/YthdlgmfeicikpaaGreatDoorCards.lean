/-
  DERIVED. GIVEN WITH THE SEED: THE CARDS: each row of YthdlgmfeicikpaaGreatDoorRows.lean that lists a variable, with what it lists TIED to the program's text (the seventh form; the later family's looks); each row that meets fmt, with fmt's text TOLD by the authors' own Lean function (tested against real Go, not proved from fmt's source: count such statements apart). THE CARD IS WHAT COUNTS. Prove the row's statement (the work); the ties are given (YthdlgmfeicikpaaGreatDoorTie.lean); close each card by the builder's one call (the guide's Derived/Test/ToyasCard.lean, 'card_holds'). Laid BY PROGRAM, IN A SANDBOX (cutbox-door.mjs). By AI agents, Wed Nov 11 2026. No macro, syntax, notation, axiom, sorry.
-/
import Derived.Test.YthdlgmfeicikpaaGreatDoorRows
import GoSem.ClaimSeven
namespace Go.Proofs.YthdlgmfeicikpaaGreatDoor
namespace Rows

/-- THE TIED CARD OF 'hustingslaw08.RrsetFinds'. -/
def rrsetFindsCard : Claim7 := { stood := { row := rrsetFindsRow, standIns := [], harness := (true, "0484ef7db5c6fcd6bbd4cb10749b63c1e9e0aa968d903cce2d087f05745c1302"), looks := true }, kinds := [], alts := [], laidByText := true, laidKinds := [.handle], laidTests := true, laidLooks := .later }
def RrsetFindsCardSaid : Prop := Claim7.holds Tryz.pinned (.plain (OpenSpec.ofChange rrsetFindsSpec)) rrsetFindsCard

/-- THE TIED CARD OF 'hustingslaw08.RrsetRows'. -/
def rrsetRowsCard : Claim7 := { stood := { row := rrsetRowsRow, standIns := [], harness := (true, "0484ef7db5c6fcd6bbd4cb10749b63c1e9e0aa968d903cce2d087f05745c1302"), looks := true }, kinds := [], alts := [], laidByText := true, laidKinds := [.handle], laidTests := true, laidLooks := .later }
def RrsetRowsCardSaid : Prop := Claim7.holds Tryz.pinned (.plain (OpenSpec.ofChange rrsetRowsSpec)) rrsetRowsCard

/-- THE TIED CARD OF 'hustingslaw08.RrsetRise'. -/
def rrsetRiseCard : Claim7 := { stood := { row := rrsetRiseRow, standIns := [], harness := (true, "0484ef7db5c6fcd6bbd4cb10749b63c1e9e0aa968d903cce2d087f05745c1302"), looks := true }, kinds := [], alts := [], laidByText := true, laidKinds := [.handle], laidTests := true, laidLooks := .later }
def RrsetRiseCardSaid : Prop := Claim7.holds Tryz.pinned (.plain (OpenSpec.ofChange rrsetRiseSpec)) rrsetRiseCard

/-- THE TIED CARD OF 'hustingslaw08.RrsetLeast'. -/
def rrsetLeastCard : Claim7 := { stood := { row := rrsetLeastRow, standIns := [], harness := (true, "0484ef7db5c6fcd6bbd4cb10749b63c1e9e0aa968d903cce2d087f05745c1302"), looks := true }, kinds := [], alts := [], laidByText := true, laidKinds := [.handle], laidTests := true, laidLooks := .later }
def RrsetLeastCardSaid : Prop := Claim7.holds Tryz.pinned (.plain (OpenSpec.ofChange rrsetLeastSpec)) rrsetLeastCard

/-- THE TIED CARD OF 'hustingslaw08.RrsetLetters'. -/
def rrsetLettersCard : Claim7 := { stood := { row := rrsetLettersRow, standIns := [], harness := (true, "0484ef7db5c6fcd6bbd4cb10749b63c1e9e0aa968d903cce2d087f05745c1302"), looks := true }, kinds := [], alts := [], laidByText := true, laidKinds := [.handle], laidTests := true, laidLooks := .later }
def RrsetLettersCardSaid : Prop := Claim7.holds Tryz.pinned (.plain (OpenSpec.ofChange rrsetLettersSpec)) rrsetLettersCard

/-- THE TIED CARD OF 'hustingslaw08.RrsetEach'. -/
def rrsetEachCard : Claim7 := { stood := { row := rrsetEachRow, standIns := [], harness := (true, "0484ef7db5c6fcd6bbd4cb10749b63c1e9e0aa968d903cce2d087f05745c1302"), looks := true }, kinds := [], alts := [], laidByText := true, laidKinds := [.handle], laidTests := true, laidLooks := .later }
def RrsetEachCardSaid : Prop := Claim7.holds Tryz.pinned (.plain (OpenSpec.ofChange rrsetEachSpec)) rrsetEachCard

/-- THE TIED CARD OF 'hustingslaw08.RrsetGroups'. -/
def rrsetGroupsCard : Claim7 := { stood := { row := rrsetGroupsRow, standIns := [], harness := (true, "0484ef7db5c6fcd6bbd4cb10749b63c1e9e0aa968d903cce2d087f05745c1302"), looks := true }, kinds := [], alts := [], laidByText := true, laidKinds := [.handle], laidTests := true, laidLooks := .later }
def RrsetGroupsCardSaid : Prop := Claim7.holds Tryz.pinned (.plain (OpenSpec.ofChange rrsetGroupsSpec)) rrsetGroupsCard

/-- THE TIED CARD OF 'hustingslaw08.RrsetNames'. -/
def rrsetNamesCard : Claim7 := { stood := { row := rrsetNamesRow, standIns := [], harness := (true, "0484ef7db5c6fcd6bbd4cb10749b63c1e9e0aa968d903cce2d087f05745c1302"), looks := true }, kinds := [], alts := [], laidByText := true, laidKinds := [.handle], laidTests := true, laidLooks := .later }
def RrsetNamesCardSaid : Prop := Claim7.holds Tryz.pinned (.plain (OpenSpec.ofChange rrsetNamesSpec)) rrsetNamesCard

/-- THE TIED CARD OF 'hustingslaw08.RrsetBack'. -/
def rrsetBackCard : Claim7 := { stood := { row := rrsetBackRow, standIns := [], harness := (true, "0484ef7db5c6fcd6bbd4cb10749b63c1e9e0aa968d903cce2d087f05745c1302"), looks := true }, kinds := [], alts := [], laidByText := true, laidKinds := [.handle], laidTests := true, laidLooks := .later }
def RrsetBackCardSaid : Prop := Claim7.holds Tryz.pinned (.plain (OpenSpec.ofChange rrsetBackSpec)) rrsetBackCard

/-- THE TIED CARD OF 'hustingslaw09.ChainMore'. -/
def chainMoreCard : Claim7 := { stood := { row := chainMoreRow, standIns := [], harness := (true, "0484ef7db5c6fcd6bbd4cb10749b63c1e9e0aa968d903cce2d087f05745c1302"), looks := true }, kinds := [], alts := [], laidByText := true, laidKinds := [.handle], laidTests := true, laidLooks := .later }
def ChainMoreCardSaid : Prop := Claim7.holds Tryz.pinned (.plain (OpenSpec.ofChange chainMoreSpec)) chainMoreCard

/-- THE TIED CARD OF 'hustingslaw09.ChainWay'. -/
def chainWayCard : Claim7 := { stood := { row := chainWayRow, standIns := [], harness := (true, "0484ef7db5c6fcd6bbd4cb10749b63c1e9e0aa968d903cce2d087f05745c1302"), looks := true }, kinds := [], alts := [], laidByText := true, laidKinds := [.handle], laidTests := true, laidLooks := .later }
def ChainWayCardSaid : Prop := Claim7.holds Tryz.pinned (.plain (OpenSpec.ofChange chainWaySpec)) chainWayCard

/-- THE TIED CARD OF 'hustingslaw09.ChainEnd'. -/
def chainEndCard : Claim7 := { stood := { row := chainEndRow, standIns := [], harness := (true, "0484ef7db5c6fcd6bbd4cb10749b63c1e9e0aa968d903cce2d087f05745c1302"), looks := true }, kinds := [], alts := [], laidByText := true, laidKinds := [.handle], laidTests := true, laidLooks := .later }
def ChainEndCardSaid : Prop := Claim7.holds Tryz.pinned (.plain (OpenSpec.ofChange chainEndSpec)) chainEndCard

/-- THE SECOND FORM's CARD OF 'hustingslaw08.RrsetFinds'. -/
def rrsetFindsUptoCard : Claim7 := { stood := { row := rrsetFindsUptoRow, standIns := [], harness := (true, "0484ef7db5c6fcd6bbd4cb10749b63c1e9e0aa968d903cce2d087f05745c1302"), looks := true }, kinds := [], alts := [], laidByText := true, laidKinds := [.handle], laidTests := true, laidLooks := .later }
def RrsetFindsUptoCardSaid : Prop := Claim7.holds Tryz.pinned (.plain (OpenSpec.upto rrsetFindsSpec)) rrsetFindsUptoCard

/-- THE SECOND FORM's CARD OF 'hustingslaw08.RrsetRows'. -/
def rrsetRowsUptoCard : Claim7 := { stood := { row := rrsetRowsUptoRow, standIns := [], harness := (true, "0484ef7db5c6fcd6bbd4cb10749b63c1e9e0aa968d903cce2d087f05745c1302"), looks := true }, kinds := [], alts := [], laidByText := true, laidKinds := [.handle], laidTests := true, laidLooks := .later }
def RrsetRowsUptoCardSaid : Prop := Claim7.holds Tryz.pinned (.plain (OpenSpec.upto rrsetRowsSpec)) rrsetRowsUptoCard

/-- THE SECOND FORM's CARD OF 'hustingslaw08.RrsetRise'. -/
def rrsetRiseUptoCard : Claim7 := { stood := { row := rrsetRiseUptoRow, standIns := [], harness := (true, "0484ef7db5c6fcd6bbd4cb10749b63c1e9e0aa968d903cce2d087f05745c1302"), looks := true }, kinds := [], alts := [], laidByText := true, laidKinds := [.handle], laidTests := true, laidLooks := .later }
def RrsetRiseUptoCardSaid : Prop := Claim7.holds Tryz.pinned (.plain (OpenSpec.upto rrsetRiseSpec)) rrsetRiseUptoCard

/-- THE SECOND FORM's CARD OF 'hustingslaw08.RrsetLeast'. -/
def rrsetLeastUptoCard : Claim7 := { stood := { row := rrsetLeastUptoRow, standIns := [], harness := (true, "0484ef7db5c6fcd6bbd4cb10749b63c1e9e0aa968d903cce2d087f05745c1302"), looks := true }, kinds := [], alts := [], laidByText := true, laidKinds := [.handle], laidTests := true, laidLooks := .later }
def RrsetLeastUptoCardSaid : Prop := Claim7.holds Tryz.pinned (.plain (OpenSpec.upto rrsetLeastSpec)) rrsetLeastUptoCard

/-- THE SECOND FORM's CARD OF 'hustingslaw08.RrsetLetters'. -/
def rrsetLettersUptoCard : Claim7 := { stood := { row := rrsetLettersUptoRow, standIns := [], harness := (true, "0484ef7db5c6fcd6bbd4cb10749b63c1e9e0aa968d903cce2d087f05745c1302"), looks := true }, kinds := [], alts := [], laidByText := true, laidKinds := [.handle], laidTests := true, laidLooks := .later }
def RrsetLettersUptoCardSaid : Prop := Claim7.holds Tryz.pinned (.plain (OpenSpec.upto rrsetLettersSpec)) rrsetLettersUptoCard

/-- THE SECOND FORM's CARD OF 'hustingslaw08.RrsetEach'. -/
def rrsetEachUptoCard : Claim7 := { stood := { row := rrsetEachUptoRow, standIns := [], harness := (true, "0484ef7db5c6fcd6bbd4cb10749b63c1e9e0aa968d903cce2d087f05745c1302"), looks := true }, kinds := [], alts := [], laidByText := true, laidKinds := [.handle], laidTests := true, laidLooks := .later }
def RrsetEachUptoCardSaid : Prop := Claim7.holds Tryz.pinned (.plain (OpenSpec.upto rrsetEachSpec)) rrsetEachUptoCard

/-- THE SECOND FORM's CARD OF 'hustingslaw08.RrsetGroups'. -/
def rrsetGroupsUptoCard : Claim7 := { stood := { row := rrsetGroupsUptoRow, standIns := [], harness := (true, "0484ef7db5c6fcd6bbd4cb10749b63c1e9e0aa968d903cce2d087f05745c1302"), looks := true }, kinds := [], alts := [], laidByText := true, laidKinds := [.handle], laidTests := true, laidLooks := .later }
def RrsetGroupsUptoCardSaid : Prop := Claim7.holds Tryz.pinned (.plain (OpenSpec.upto rrsetGroupsSpec)) rrsetGroupsUptoCard

/-- THE SECOND FORM's CARD OF 'hustingslaw08.RrsetNames'. -/
def rrsetNamesUptoCard : Claim7 := { stood := { row := rrsetNamesUptoRow, standIns := [], harness := (true, "0484ef7db5c6fcd6bbd4cb10749b63c1e9e0aa968d903cce2d087f05745c1302"), looks := true }, kinds := [], alts := [], laidByText := true, laidKinds := [.handle], laidTests := true, laidLooks := .later }
def RrsetNamesUptoCardSaid : Prop := Claim7.holds Tryz.pinned (.plain (OpenSpec.upto rrsetNamesSpec)) rrsetNamesUptoCard

/-- THE SECOND FORM's CARD OF 'hustingslaw08.RrsetBack'. -/
def rrsetBackUptoCard : Claim7 := { stood := { row := rrsetBackUptoRow, standIns := [], harness := (true, "0484ef7db5c6fcd6bbd4cb10749b63c1e9e0aa968d903cce2d087f05745c1302"), looks := true }, kinds := [], alts := [], laidByText := true, laidKinds := [.handle], laidTests := true, laidLooks := .later }
def RrsetBackUptoCardSaid : Prop := Claim7.holds Tryz.pinned (.plain (OpenSpec.upto rrsetBackSpec)) rrsetBackUptoCard

/-- THE SECOND FORM's CARD OF 'hustingslaw09.ChainMore'. -/
def chainMoreUptoCard : Claim7 := { stood := { row := chainMoreUptoRow, standIns := [], harness := (true, "0484ef7db5c6fcd6bbd4cb10749b63c1e9e0aa968d903cce2d087f05745c1302"), looks := true }, kinds := [], alts := [], laidByText := true, laidKinds := [.handle], laidTests := true, laidLooks := .later }
def ChainMoreUptoCardSaid : Prop := Claim7.holds Tryz.pinned (.plain (OpenSpec.upto chainMoreSpec)) chainMoreUptoCard

/-- THE SECOND FORM's CARD OF 'hustingslaw09.ChainWay'. -/
def chainWayUptoCard : Claim7 := { stood := { row := chainWayUptoRow, standIns := [], harness := (true, "0484ef7db5c6fcd6bbd4cb10749b63c1e9e0aa968d903cce2d087f05745c1302"), looks := true }, kinds := [], alts := [], laidByText := true, laidKinds := [.handle], laidTests := true, laidLooks := .later }
def ChainWayUptoCardSaid : Prop := Claim7.holds Tryz.pinned (.plain (OpenSpec.upto chainWaySpec)) chainWayUptoCard

/-- THE SECOND FORM's CARD OF 'hustingslaw09.ChainEnd'. -/
def chainEndUptoCard : Claim7 := { stood := { row := chainEndUptoRow, standIns := [], harness := (true, "0484ef7db5c6fcd6bbd4cb10749b63c1e9e0aa968d903cce2d087f05745c1302"), looks := true }, kinds := [], alts := [], laidByText := true, laidKinds := [.handle], laidTests := true, laidLooks := .later }
def ChainEndUptoCardSaid : Prop := Claim7.holds Tryz.pinned (.plain (OpenSpec.upto chainEndSpec)) chainEndUptoCard
end Rows
end Go.Proofs.YthdlgmfeicikpaaGreatDoor
