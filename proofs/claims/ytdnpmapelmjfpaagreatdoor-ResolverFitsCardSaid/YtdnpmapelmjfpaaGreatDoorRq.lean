/- Contracts of functions and plain lemmas that the proofs of this seat share (joined texts). No condition. -/
import Derived.Test.YtdnpmapelmjfpaaGreatDoorRa
import Derived.Deep.RegionHeld3
namespace Go.Proofs.YtdnpmapelmjfpaaGreatDoor
set_option linter.unusedSimpArgs false
set_option linter.unusedVariables false
open Go.RowKit
section
variable {P : Program} {ops : Array Oper} {Q : Exit → Act → World → Prop} {md : Region.Mode} {S : World → Prop}
def nth {α : Type} : List α → Nat → Option α
  | [], _ => none
  | x :: _, 0 => some x
  | _ :: r, n + 1 => nth r n
theorem nth_eq {α : Type} : ∀ (l : List α) (n : Nat), nth l n = l[n]?
  | [], _ => rfl
  | _ :: _, 0 => rfl
  | _ :: r, n + 1 => by rw [nth, nth_eq r n]; rfl
end
theorem boxSet {W : World} {g : Nat} {cs : Array Value} (h : ∀ j, W.cell? ⟨g, j, none⟩ = cs[j]?) (k : Nat) (u : Value) (hk : k < cs.size) : ∀ j, (W.setCell ⟨g, k, none⟩ u).cell? ⟨g, j, none⟩ = (cs.setIfInBounds k u)[j]? := by
  intro j
  by_cases e : k = j
  · subst e
    rw [World.cell?_setCell_same W ⟨g, k, none⟩ u ((h k).trans (Array.getElem?_eq_getElem hk))]
    simp [hk]
  · rw [World.cell?_setCell_other W ⟨g, k, none⟩ ⟨g, j, none⟩ _ (by intro h; injection h with _ h _; exact e h), h j]
    rw [Array.getElem?_setIfInBounds_ne e]
theorem box5 {W : World} {g : Nat} {a0 a1 a2 a3 a4 : Value} (h : ∀ j, W.cell? ⟨g, j, none⟩ = #[a0, a1, a2, a3, a4][j]?) (u0 u1 u2 u3 u4 : Value) :
    ∀ j, (((((W.setCell ⟨g, 0, none⟩ u0).setCell ⟨g, 1, none⟩ u1).setCell ⟨g, 2, none⟩ u2).setCell ⟨g, 3, none⟩ u3).setCell ⟨g, 4, none⟩ u4).cell? ⟨g, j, none⟩ = #[u0, u1, u2, u3, u4][j]? :=
  boxSet (boxSet (boxSet (boxSet (boxSet h 0 u0 (by simp)) 1 u1 (by simp)) 2 u2 (by simp)) 3 u3 (by simp)) 4 u4 (by simp)
end Go.Proofs.YtdnpmapelmjfpaaGreatDoor
