/- Lemmas of this claim. No condition. -/
import Derived.Test.YtdnpmapelmjfpaaGreatDoorLg1
import Derived.Test.YtdnpmapelmjfpaaGreatDoorLrz
