/- Contracts of functions and plain lemmas that the proofs of this seat share (joined texts). No condition. -/
import Derived.Test.YtdnpmapelmjfpaaGreatDoorRj
import Derived.Test.YtdnpmapelmjfpaaGreatDoorRu
namespace Go.Proofs.YtdnpmapelmjfpaaGreatDoor
set_option linter.unusedSimpArgs false
set_option linter.unusedVariables false
open Go.RowKit
def recsOf (s : SetD) : List RecD := s.data.map fun d => ⟨s.name, s.typ, s.cls, s.ttl, d⟩
theorem group_ttl {l : List RecD} {s : SetD} (hs : s ∈ groupR l) : s.ttl = minT (ofK l (keyT s)) ∧ s.ttl ≤ 2147483647 := by
  have := ((group_mem l s).1 hs).2
  have h2 : s.ttl = minT (ofK l (keyT s)) := congrArg SetD.ttl this
  exact ⟨h2, by rw [h2]; exact (minT_le _).1⟩
theorem timeT_bd {x : Int} (h : 0 ≤ x) : 0 ≤ timeT x ∧ timeT x ≤ 2147483647 := by unfold timeT; split <;> omega
def TtlF (f : SetD → SetD) : Prop := ∀ s, f s = { s with ttl := (f s).ttl }
theorem TtlF.name {f : SetD → SetD} (h : TtlF f) (s : SetD) : (f s).name = s.name := by rw [h s]
theorem TtlF.typ {f : SetD → SetD} (h : TtlF f) (s : SetD) : (f s).typ = s.typ := by rw [h s]
theorem TtlF.cls {f : SetD → SetD} (h : TtlF f) (s : SetD) : (f s).cls = s.cls := by rw [h s]
theorem TtlF.data {f : SetD → SetD} (h : TtlF f) (s : SetD) : (f s).data = s.data := by rw [h s]
def VerR.same (R T : VerR) : Prop := R.code = T.code ∧ R.sets = T.sets ∧ R.soa = T.soa ∧ R.err = T.err
end Go.Proofs.YtdnpmapelmjfpaaGreatDoor
