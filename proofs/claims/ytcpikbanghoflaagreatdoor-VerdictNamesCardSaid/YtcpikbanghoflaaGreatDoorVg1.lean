/- Contracts of functions and plain lemmas that the proofs of this seat share (joined texts). No condition. -/
import Derived.Test.YtcpikbanghoflaaGreatDoorVj
import Derived.Test.YtcpikbanghoflaaGreatDoorVu
namespace Go.Proofs.YtcpikbanghoflaaGreatDoor
set_option linter.unusedSimpArgs false
set_option linter.unusedVariables false
open Go.RowKit
def TtlF (f : SetD → SetD) : Prop := ∀ s, f s = { s with ttl := (f s).ttl }
theorem TtlF.name {f : SetD → SetD} (h : TtlF f) (s : SetD) : (f s).name = s.name := by rw [h s]
theorem TtlF.typ {f : SetD → SetD} (h : TtlF f) (s : SetD) : (f s).typ = s.typ := by rw [h s]
theorem TtlF.cls {f : SetD → SetD} (h : TtlF f) (s : SetD) : (f s).cls = s.cls := by rw [h s]
theorem TtlF.data {f : SetD → SetD} (h : TtlF f) (s : SetD) : (f s).data = s.data := by rw [h s]
theorem TtlF.ttl0 {f : SetD → SetD} (h : TtlF f) (s : SetD) : ttl0 (f s) = ttl0 s := by unfold Go.Proofs.YtcpikbanghoflaaGreatDoor.ttl0; rw [h s]
def VerR.same (R T : VerR) : Prop := R.code = T.code ∧ R.sets = T.sets ∧ R.soa = T.soa ∧ R.err = T.err
end Go.Proofs.YtcpikbanghoflaaGreatDoor
