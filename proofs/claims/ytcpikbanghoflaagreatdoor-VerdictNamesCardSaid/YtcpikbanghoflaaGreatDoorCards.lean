/-
  DERIVED. GIVEN WITH THE SEED: THE CARDS: each row of YtcpikbanghoflaaGreatDoorRows.lean that lists a variable, with what it lists TIED to the program's text (the seventh form; the later family's looks); each row that meets fmt, with fmt's text TOLD by the authors' own Lean function (tested against real Go, not proved from fmt's source: count such statements apart). THE CARD IS WHAT COUNTS. Prove the row's statement (the work); the ties are given (YtcpikbanghoflaaGreatDoorTie.lean); close each card by the builder's one call (the guide's Derived/Test/ToyasCard.lean, 'card_holds'). Laid BY PROGRAM, IN A SANDBOX (cutbox-door.mjs). By AI agents, Wed Nov 11 2026. No macro, syntax, notation, axiom, sorry.
-/
import Derived.Test.YtcpikbanghoflaaGreatDoorRows
import GoSem.ClaimSeven
namespace Go.Proofs.YtcpikbanghoflaaGreatDoor
namespace Rows

/-- THE TIED CARD OF 'hustingslaw11.VerdictNames'. -/
def verdictNamesCard : Claim7 := { stood := { row := verdictNamesRow, standIns := [], harness := (true, "3ea7a14dde0a2a46bcb77e5f12f6f92440b2b002557ee0dfd5623c8c0561eb4f"), looks := true }, kinds := [], alts := [], laidByText := true, laidKinds := [.handle], laidTests := true, laidLooks := .later }
def VerdictNamesCardSaid : Prop := Claim7.holds Tryz.pinned (.plain (OpenSpec.ofChange verdictNamesSpec)) verdictNamesCard

/-- THE TIED CARD OF 'hustingslaw30.ResolverNames'. -/
def resolverNamesCard : Claim7 := { stood := { row := resolverNamesRow, standIns := [], harness := (true, "3ea7a14dde0a2a46bcb77e5f12f6f92440b2b002557ee0dfd5623c8c0561eb4f"), looks := true }, kinds := [], alts := [], laidByText := true, laidKinds := [.handle, .data], laidTests := true, laidLooks := .later }
def ResolverNamesCardSaid : Prop := Claim7.holds Tryz.pinned (.plain (OpenSpec.ofChange resolverNamesSpec)) resolverNamesCard

/-- THE TIED CARD OF 'hustingslaw24.HeardNames'. -/
def heardNamesCard : Claim7 := { stood := { row := heardNamesRow, standIns := [], harness := (true, "3ea7a14dde0a2a46bcb77e5f12f6f92440b2b002557ee0dfd5623c8c0561eb4f"), looks := true }, kinds := [], alts := [], laidByText := true, laidKinds := [.handle, .data, .sentinel, .sentinel], laidTests := true, laidLooks := .later }
def HeardNamesCardSaid : Prop := Claim7.holds Tryz.pinned (.plain (OpenSpec.ofChange heardNamesSpec)) heardNamesCard

/-- THE SECOND FORM's CARD OF 'hustingslaw11.VerdictNames'. -/
def verdictNamesUptoCard : Claim7 := { stood := { row := verdictNamesUptoRow, standIns := [], harness := (true, "3ea7a14dde0a2a46bcb77e5f12f6f92440b2b002557ee0dfd5623c8c0561eb4f"), looks := true }, kinds := [], alts := [], laidByText := true, laidKinds := [.handle], laidTests := true, laidLooks := .later }
def VerdictNamesUptoCardSaid : Prop := Claim7.holds Tryz.pinned (.plain (OpenSpec.upto verdictNamesSpec)) verdictNamesUptoCard

/-- THE SECOND FORM's CARD OF 'hustingslaw30.ResolverNames'. -/
def resolverNamesUptoCard : Claim7 := { stood := { row := resolverNamesUptoRow, standIns := [], harness := (true, "3ea7a14dde0a2a46bcb77e5f12f6f92440b2b002557ee0dfd5623c8c0561eb4f"), looks := true }, kinds := [], alts := [], laidByText := true, laidKinds := [.handle, .data], laidTests := true, laidLooks := .later }
def ResolverNamesUptoCardSaid : Prop := Claim7.holds Tryz.pinned (.plain (OpenSpec.upto resolverNamesSpec)) resolverNamesUptoCard

/-- THE SECOND FORM's CARD OF 'hustingslaw24.HeardNames'. -/
def heardNamesUptoCard : Claim7 := { stood := { row := heardNamesUptoRow, standIns := [], harness := (true, "3ea7a14dde0a2a46bcb77e5f12f6f92440b2b002557ee0dfd5623c8c0561eb4f"), looks := true }, kinds := [], alts := [], laidByText := true, laidKinds := [.handle, .data, .sentinel, .sentinel], laidTests := true, laidLooks := .later }
def HeardNamesUptoCardSaid : Prop := Claim7.holds Tryz.pinned (.plain (OpenSpec.upto heardNamesSpec)) heardNamesUptoCard
end Rows
end Go.Proofs.YtcpikbanghoflaaGreatDoor
