/- Lemmas of this claim. No condition. -/
import Derived.Test.YtdnpmapelmjfpaaGreatDoorLpr
import Derived.Test.YtdnpmapelmjfpaaGreatDoorLhx
import Derived.Lib.AppendZeros
import Derived.Lib.AppendZerosOnto
import Derived.RangeFuncNested
import Derived.RangeFuncBound
import Derived.RangeFuncCalls
import Derived.RangeFuncLeaves
import Derived.RangeFuncBox
import Derived.Shelf.Abstract
import Derived.Shelf.RegionOpen
import Derived.OwnWalkIn
import Derived.TacticsInMore
import Derived.LoopNIn
import Derived.LoopIn
set_option linter.unusedVariables false
set_option linter.unusedSimpArgs false
set_option maxRecDepth 100000
namespace Go.Proofs.YtdnpmapelmjfpaaGreatDoor
open Go.RowKit Go.Shelf
attribute [local go_sem] Oper.semAt_some
def KpR (n₀:Nat) (W W':World):Prop:=Below n₀ W W'∧∀(b:Nat) (cur:Array Value) (f:Nat×Nat),W.heap[b]? =some (Obj.cells cur 79 f)→W'.heap[b]? =some (Obj.cells cur 79 f)
theorem KpR.t {n₀:Nat} {A B C:World} (h:KpR n₀ A B) (k:KpR n₀ B C):KpR n₀ A C:=⟨h.1.trans k.1,fun b cur f e=>k.2 b cur f (h.2 b cur f e)⟩
theorem KpR.b {n₀:Nat} {w:World} (hn:n₀≤w.heap.size) (W:World) (l:Nat) (o o':Obj) (hl:w.heap.size≤l) (h:W.heap[l]? =some o) (hc:o.isCells=false) (hw:o.isWalk=false):KpR n₀ W (W.putObj l o'):=
 ⟨belowK_b hn W l o o' hl h hc hw,fun b cur f e=>by
  rw[World.putObj_heap_other (fun e'=>?_)]
  ·exact e
  ·subst e';rw[e]at h;cases h;cases hc⟩
end Go.Proofs.YtdnpmapelmjfpaaGreatDoor
namespace Go.Proofs.YtdnpmapelmjfpaaGreatDoor
open Go.RowKit
theorem Sets.nil (w:World) (lo:Nat):Sets w lo (.slice none 0 0) []:=(OSets.nil w lo).sets
end Go.Proofs.YtdnpmapelmjfpaaGreatDoor
