/- Contracts of functions and plain lemmas that the proofs of this seat share (joined texts). No condition. -/
import Derived.Test.YtdnpmapelmjfpaaGreatDoorFc
import Derived.Test.YtdnpmapelmjfpaaGreatDoorFa
import Derived.BigRegion
import Derived.Deep.RegionHeld3
import Derived.Deep.RegionWith
import Derived.Test.YtdnpmapelmjfpaaGreatDoorFd
namespace Go.Proofs.YtdnpmapelmjfpaaGreatDoor
set_option linter.unusedSimpArgs false
set_option linter.unusedVariables false
open Go.RowKit
set_option maxRecDepth 100000
theorem app_mk (a b : List UInt8) : (ByteArray.mk a.toArray) ++ (ByteArray.mk b.toArray) = ByteArray.mk (a ++ b).toArray := by
  apply ByteArray.ext
  simp
attribute [go_sem] app_mk
def labB (x : List UInt8) : List UInt8 := UInt8.ofNat x.length :: x
def bytesOf (ls : List (List UInt8)) : List UInt8 := ls.flatMap labB ++ [0]
abbrev bl (a b : List UInt8) : Bool := Op.bytesLess a b
structure Pr where
  s : List UInt8
  nm : Bool
def Pr.cells (p : Pr) : List Value := [S p.s, .bool p.nm]
end Go.Proofs.YtdnpmapelmjfpaaGreatDoor
