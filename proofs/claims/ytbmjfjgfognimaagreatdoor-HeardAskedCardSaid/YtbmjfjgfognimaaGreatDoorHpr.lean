/- Contracts of functions and plain lemmas that the proofs of this seat share (joined texts). No condition. -/
import Derived.Test.YtbmjfjgfognimaaGreatDoorHwp
import Derived.Test.YtbmjfjgfognimaaGreatDoorHg1
import Derived.Test.YtbmjfjgfognimaaGreatDoorHj
import Derived.Test.YtbmjfjgfognimaaGreatDoorHs
import Derived.Test.YtbmjfjgfognimaaGreatDoorHu
import Derived.Test.YtbmjfjgfognimaaGreatDoorHrz
import Derived.OpenShut
namespace Go.Proofs.YtbmjfjgfognimaaGreatDoor
set_option linter.unusedSimpArgs false
set_option linter.unusedVariables false

end Go.Proofs.YtbmjfjgfognimaaGreatDoor
namespace Go.Proofs.YtbmjfjgfognimaaGreatDoor
set_option linter.unusedSimpArgs false
set_option linter.unusedVariables false

end Go.Proofs.YtbmjfjgfognimaaGreatDoor
namespace Go.Proofs.YtbmjfjgfognimaaGreatDoor
set_option linter.unusedSimpArgs false
set_option linter.unusedVariables false

end Go.Proofs.YtbmjfjgfognimaaGreatDoor
namespace Go.Proofs.YtbmjfjgfognimaaGreatDoor
set_option linter.unusedSimpArgs false
set_option linter.unusedVariables false
set_option maxRecDepth 100000

end Go.Proofs.YtbmjfjgfognimaaGreatDoor
