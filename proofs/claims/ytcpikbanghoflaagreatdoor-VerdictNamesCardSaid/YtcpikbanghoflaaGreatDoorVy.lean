/- Contracts of functions and plain lemmas that the proofs of this seat share (joined texts). No condition. -/
import Derived.Test.YtcpikbanghoflaaGreatDoorVg
import Derived.Test.YtcpikbanghoflaaGreatDoorVv
