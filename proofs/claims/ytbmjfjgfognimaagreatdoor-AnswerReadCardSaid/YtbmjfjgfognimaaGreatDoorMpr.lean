/- Contracts of functions and plain lemmas that the proofs of this seat share (joined texts). No condition. -/
import Derived.Test.YtbmjfjgfognimaaGreatDoorMwp
import Derived.Test.YtbmjfjgfognimaaGreatDoorMg1
import Derived.Test.YtbmjfjgfognimaaGreatDoorMj
import Derived.Test.YtbmjfjgfognimaaGreatDoorMs
import Derived.Test.YtbmjfjgfognimaaGreatDoorMu
import Derived.Test.YtbmjfjgfognimaaGreatDoorMrz
import Derived.OpenShut
namespace Go.Proofs.YtbmjfjgfognimaaGreatDoor
set_option linter.unusedSimpArgs false
set_option linter.unusedVariables false
theorem group_wf {l : List RecD} (hw : ∀ r ∈ l, r.wf) {s : SetD} (hs : s ∈ groupR l) : s.wfT ∧ 0 ≤ s.ttl ∧ s.ttl ≤ 2147483647 := by
  obtain ⟨h1, h2⟩ := (group_mem l s).1 hs
  obtain ⟨x, hx⟩ := List.exists_mem_of_ne_nil _ h1
  obtain ⟨a, _, b⟩ := mem_ofK.1 hx
  have e1 : x.typ = s.typ := congrArg (fun K : KeyD => K.2.1) b
  have e2 : x.cls = s.cls := congrArg (fun K : KeyD => K.2.2) b
  have hx' := hw x a
  refine ⟨⟨e1 ▸ hx'.1, e2 ▸ hx'.2.1⟩, ?_, (group_ttl hs).2⟩
  rw [(group_ttl hs).1]
  rcases minT_in (ofK l (keyT s)) with h | ⟨y, hy, h⟩
  · rw [h]; decide
  · rw [h]
    exact (timeT_bd (hw y (mem_ofK.1 hy).1).2.2.1).1
end Go.Proofs.YtbmjfjgfognimaaGreatDoor
