/- Contracts of functions and plain lemmas that the proofs of this seat share (joined texts). No condition. -/
import Derived.Test.YtbmjfjgfognimaaGreatDoorKu0
import Derived.Test.YtbmjfjgfognimaaGreatDoorKu
import Derived.Test.YtbmjfjgfognimaaGreatDoorKj
import Derived.Test.YtbmjfjgfognimaaGreatDoorKq
import Derived.Deep.RegionHeld3
import Derived.Deep.DeepCutAuto
namespace Go.Proofs.YtbmjfjgfognimaaGreatDoor
set_option linter.unusedSimpArgs false
set_option linter.unusedVariables false
open Go.RowKit
set_option maxRecDepth 100000

end Go.Proofs.YtbmjfjgfognimaaGreatDoor
