/- Lemmas of this claim. No condition. -/
import Derived.Test.YtdnpmapelmjfpaaGreatDoorLrx
set_option linter.unusedVariables false
set_option linter.unusedSimpArgs false
set_option maxRecDepth 100000
namespace Go.Proofs.YtdnpmapelmjfpaaGreatDoor
open Go.RowKit
section
variable (V : World) (h : HdD) (hasQ hasE : Bool) (q : QD) (size k : Int)
end
end Go.Proofs.YtdnpmapelmjfpaaGreatDoor
