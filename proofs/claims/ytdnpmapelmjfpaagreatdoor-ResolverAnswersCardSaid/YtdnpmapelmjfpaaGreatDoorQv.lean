/- Contracts of functions and plain lemmas that the proofs of this seat share (joined texts). No condition. -/
import Derived.Test.YtdnpmapelmjfpaaGreatDoorQu0
import Derived.Test.YtdnpmapelmjfpaaGreatDoorQu
import Derived.Test.YtdnpmapelmjfpaaGreatDoorQj
import Derived.Test.YtdnpmapelmjfpaaGreatDoorQq
import Derived.Deep.RegionHeld3
import Derived.Deep.DeepCutAuto
