/- Contracts of functions and plain lemmas that the proofs of this seat share (joined texts). No condition. -/
import Derived.Test.YtbmjfjgfognimaaGreatDoorHg1
import Derived.Test.YtbmjfjgfognimaaGreatDoorHu
import Derived.Test.YtbmjfjgfognimaaGreatDoorHu0
import Derived.Test.YtbmjfjgfognimaaGreatDoorHg
import Derived.BigQuiet
namespace Go.Proofs.YtbmjfjgfognimaaGreatDoor
set_option linter.unusedSimpArgs false
set_option linter.unusedVariables false
open Go.RowKit

end Go.Proofs.YtbmjfjgfognimaaGreatDoor
namespace Go.Proofs.YtbmjfjgfognimaaGreatDoor
set_option linter.unusedSimpArgs false
set_option linter.unusedVariables false
open Go.RowKit
set_option maxRecDepth 100000

end Go.Proofs.YtbmjfjgfognimaaGreatDoor
