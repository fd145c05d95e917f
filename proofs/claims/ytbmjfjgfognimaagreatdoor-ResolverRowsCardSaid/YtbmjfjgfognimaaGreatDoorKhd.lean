/- Contracts of functions and plain lemmas that the proofs of this seat share (joined texts). No condition. -/
import Derived.Test.YtbmjfjgfognimaaGreatDoorKrz
import Derived.Test.YtbmjfjgfognimaaGreatDoorKrx
import Derived.Test.YtbmjfjgfognimaaGreatDoorKs
import Derived.Test.YtbmjfjgfognimaaGreatDoorKa
import Derived.WalkKit
import Derived.Lib.Hide
import Derived.LaidEql
import Derived.Stop.Asserts
import Derived.RowKitTokens
import Derived.Test.YtbmjfjgfognimaaGreatDoorKwy
import Derived.Test.YtbmjfjgfognimaaGreatDoorKv
import Derived.Test.YtbmjfjgfognimaaGreatDoorKhx
namespace Go.Proofs.YtbmjfjgfognimaaGreatDoor
set_option linter.unusedSimpArgs false
set_option linter.unusedVariables false

/-- What bytes are: 1 bad, 2 a pass, 3 a vote. -/
structure ReplyD where
  kind : Int
  ver : VerR
def ReplyD.bad : ReplyD := ⟨1, VerR.bad 0⟩
def ReplyD.pass : ReplyD := ⟨2, VerR.bad 0⟩
end Go.Proofs.YtbmjfjgfognimaaGreatDoor
namespace Go.Proofs.YtbmjfjgfognimaaGreatDoor
set_option linter.unusedSimpArgs false
set_option linter.unusedVariables false
open Go.RowKit Go.Extern.Stop Go.Stop Go.Extern
set_option maxRecDepth 100000
end Go.Proofs.YtbmjfjgfognimaaGreatDoor
namespace Go.Proofs.YtbmjfjgfognimaaGreatDoor
set_option linter.unusedSimpArgs false
set_option linter.unusedVariables false
open Go.RowKit
set_option maxRecDepth 100000

end Go.Proofs.YtbmjfjgfognimaaGreatDoor
namespace Go.Proofs.YtbmjfjgfognimaaGreatDoor
set_option linter.unusedSimpArgs false
set_option linter.unusedVariables false
open Go.RowKit
set_option maxRecDepth 100000

abbrev errV (a : Addr) : Value := .iface 378 (.pointer (some a))
/-- The two sentinels, as laid. -/
structure ErrsAt (w : World) (a b : Addr) : Prop where
  bad : w.cell? ⟨0, 0, none⟩ = some (errV a)
  pass : w.cell? ⟨1, 0, none⟩ = some (errV b)
  ha : ∃ ca ta, w.heap[a.block]? = some (.cells ca ta (0, 0))
  hb : ∃ ca ta, w.heap[b.block]? = some (.cells ca ta (0, 0))
  ne : a ≠ b
theorem cell_lt {w : World} {p : Addr} {v : Value} (h : w.cell? p = some v) : p.block < w.heap.size := by
  rcases Nat.lt_or_ge p.block w.heap.size with h' | h'
  · exact h'
  · simp [World.cell?, Array.getElem?_eq_none h'] at h
theorem ErrsAt.ext {w w' : World} {a b : Addr} (h : ErrsAt w a b) (hE : Ext w w') : ErrsAt w' a b := by
  obtain ⟨ca, ta, hA⟩ := h.ha
  obtain ⟨cb, tb, hB⟩ := h.hb
  exact ⟨(hE.cell (cell_lt h.bad)).trans h.bad, (hE.cell (cell_lt h.pass)).trans h.pass, ⟨ca, ta, (hE.block _ (Array.getElem?_eq_some_iff.1 hA).1).trans hA⟩, ⟨cb, tb, (hE.block _ (Array.getElem?_eq_some_iff.1 hB).1).trans hB⟩, h.ne⟩
section
variable {P : Program}
end
end Go.Proofs.YtbmjfjgfognimaaGreatDoor
namespace Go.Proofs.YtbmjfjgfognimaaGreatDoor
set_option linter.unusedSimpArgs false
set_option linter.unusedVariables false
open Go.RowKit
set_option maxRecDepth 100000

end Go.Proofs.YtbmjfjgfognimaaGreatDoor
