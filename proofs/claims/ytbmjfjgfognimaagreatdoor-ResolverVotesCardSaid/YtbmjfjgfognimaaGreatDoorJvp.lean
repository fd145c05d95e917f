/- Contracts of functions and plain lemmas that the proofs of this seat share (joined texts). No condition. -/
import Derived.Test.YtbmjfjgfognimaaGreatDoorJg1
import Derived.Test.YtbmjfjgfognimaaGreatDoorJu
import Derived.Test.YtbmjfjgfognimaaGreatDoorJu0
import Derived.Test.YtbmjfjgfognimaaGreatDoorJg
import Derived.BigQuiet
namespace Go.Proofs.YtbmjfjgfognimaaGreatDoor
set_option linter.unusedSimpArgs false
set_option linter.unusedVariables false
open Go.RowKit

theorem group_uniq {l : List RecD} {s t : SetD} (hs : s ∈ groupR l) (ht : t ∈ groupR l) (e : keyT s = keyT t) : s = t := by
  rw [((group_mem l s).1 hs).2, ((group_mem l t).1 ht).2, e]
theorem followF_pre (l : List SetD) (ty cls : Int) : ∀ (n : Nat) (here : List UInt8) (seen : List (List UInt8)) (path : List SetD), n + path.length = 9 → path.length ≤ 8 → (followF l ty cls n here seen path).err = 0 → ∃ more, (followF l ty cls n here seen path).path = path ++ more ∧ (∀ s ∈ more, s.typ = 5 ∧ ty ≠ 5) ∧ ∀ s ∈ (followF l ty cls n here seen path).fin, s.typ = ty
  | 0, here, seen, path, h, h8, _ => absurd h (by omega)
  | n + 1, here, seen, path, h, h8, he => by
    have hfin : ∀ s ∈ (findS l here ty cls).toList, s.typ = ty := fun s hs => by
      rcases hf : findS l here ty cls with _ | x
      · rw [hf] at hs; cases hs
      · rw [hf, Option.toList_some, List.mem_singleton] at hs
        subst hs; exact (find_same hf).1
    simp only [followF] at he ⊢
    by_cases h5 : ty = 5
    · rw [if_pos h5]; exact ⟨[], by simp, by simp, hfin⟩
    · rw [if_neg h5] at he ⊢
      rcases hf : findS l here 5 cls with _ | a
      · exact ⟨[], by simp, by simp, hfin⟩
      · rw [hf] at he
        dsimp only at he ⊢
        by_cases hp : path.length = 8
        · rw [if_pos hp] at he; cases he
        · rw [if_neg hp] at he ⊢
          rcases ht : targetS a with _ | next
          · rw [ht] at he; cases he
          · rw [ht] at he
            dsimp only at he ⊢
            by_cases hb : (findS l here ty cls).isSome = true
            · rw [if_pos hb] at he; cases he
            · rw [if_neg hb] at he ⊢
              by_cases hc : seen.contains next = true
              · rw [if_pos hc] at he; cases he
              · rw [if_neg hc] at he ⊢
                obtain ⟨more, h1, h2, h3⟩ := followF_pre l ty cls n next (seen ++ [next]) (path ++ [a]) (by simp; omega) (by simp; omega) he
                refine ⟨a :: more, by rw [h1]; simp, fun s hs => ?_, h3⟩
                rcases List.mem_cons.1 hs with rfl | hs
                · exact ⟨(find_same hf).1, h5⟩
                · exact h2 s hs
end Go.Proofs.YtbmjfjgfognimaaGreatDoor
namespace Go.Proofs.YtbmjfjgfognimaaGreatDoor
set_option linter.unusedSimpArgs false
set_option linter.unusedVariables false
open Go.RowKit
set_option maxRecDepth 100000

end Go.Proofs.YtbmjfjgfognimaaGreatDoor
