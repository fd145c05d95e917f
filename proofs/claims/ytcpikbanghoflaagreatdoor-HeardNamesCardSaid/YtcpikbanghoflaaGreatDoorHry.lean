/- Contracts of functions and plain lemmas that the proofs of this seat share (joined texts). No condition. -/
import Derived.Test.YtcpikbanghoflaaGreatDoorHrx
import Derived.Test.YtcpikbanghoflaaGreatDoorHwp
namespace Go.Proofs.YtcpikbanghoflaaGreatDoor
set_option linter.unusedSimpArgs false
set_option linter.unusedVariables false
open Go.RowKit
set_option maxRecDepth 100000
section
variable (V : World) (h : HdD) (hasQ hasE : Bool) (q : QD) (size k : Int)
end
end Go.Proofs.YtcpikbanghoflaaGreatDoor
