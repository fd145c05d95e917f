/- Contracts of functions and plain lemmas that the proofs of this seat share (joined texts). No condition. -/
import Derived.Test.YtcpikbanghoflaaGreatDoorVf
import Derived.Deep.RegionHeld3
import Derived.Deep.DeepMust
import Derived.ProofKit
import Derived.OpenShut
import Derived.Deep.Slices
import Derived.Deep.Fields
import Derived.ChangeSame
import Derived.Lib.SmallJoins
import Derived.SizedLaws
import Derived.SliceStrings
import Derived.Carry
namespace Go.Proofs.YtcpikbanghoflaaGreatDoor
set_option linter.unusedSimpArgs false
set_option linter.unusedVariables false
open Go.RowKit
set_option maxRecDepth 100000
def RecsBd (l : List RecD) : Prop := l.length ≤ 4096 ∧ ∀ r ∈ l, r.name.length ≤ 300000 ∧ r.data.length ≤ 300000
theorem putS_len (l : List (List UInt8)) (s : List UInt8) : (putS l s).length ≤ l.length + 1 := by
  unfold putS
  split
  · omega
  · rw [insB_len]; omega
theorem modify_mem {α : Type} {l : List α} {k : Nat} {f : α → α} {x : α} (h : x ∈ l.modify k f) : x ∈ l ∨ ∃ y ∈ l, x = f y := by
  induction l generalizing k with
  | nil => simp at h
  | cons a l ih =>
    rcases k with _ | k
    · simp only [List.modify_zero_cons, List.mem_cons] at h
      rcases h with rfl | h
      · exact .inr ⟨a, by simp, rfl⟩
      · exact .inl (by simp [h])
    · simp only [List.modify_succ_cons, List.mem_cons] at h
      rcases h with rfl | h
      · exact .inl (by simp)
      · rcases ih h with h | ⟨y, hy, rfl⟩
        · exact .inl (by simp [h])
        · exact .inr ⟨y, by simp [hy], rfl⟩
theorem addR_bd (sets : List SetD) (x : RecD) (k : Nat) (h : ∀ s ∈ sets, s.name.length ≤ 255 ∧ s.data.length ≤ k) : ∀ s ∈ addR sets x, s.name.length ≤ 255 ∧ s.data.length ≤ k + 1 := by
  intro s hs
  unfold addR at hs
  split at hs
  · split at hs
    · rcases List.mem_append.1 hs with h1 | h1
      · have := h s h1; omega
      · rw [List.mem_singleton] at h1; subst h1; exact ⟨fold_le _, by simp⟩
    · rcases modify_mem hs with h1 | ⟨y, hy, rfl⟩
      · have := h s h1; omega
      · have h2 := h y hy
        have h3 := putS_len y.data (rfold x.typ x.data)
        unfold updS
        dsimp only
        omega
  · have := h s hs; omega
theorem groupTo_bd (l : List RecD) : ∀ k, k ≤ l.length → ∀ s ∈ groupTo l k, s.name.length ≤ 255 ∧ s.data.length ≤ k
  | 0, _ => by simp [groupTo]
  | k + 1, h => by
    rw [groupTo_step l k (by omega)]
    exact addR_bd _ _ _ (groupTo_bd l k (by omega))
theorem addR_len (sets : List SetD) (x : RecD) : (addR sets x).length ≤ sets.length + 1 := by
  unfold addR
  repeat' split
  all_goals simp
theorem groupTo_len (l : List RecD) : ∀ k, k ≤ l.length → (groupTo l k).length ≤ k
  | 0, _ => by simp [groupTo]
  | k + 1, h => by
    rw [groupTo_step l k (by omega)]
    have := addR_len (groupTo l k) l[k]
    have := groupTo_len l k (by omega)
    omega

def GroupPost (l : List SetD) (w : World) (e : Ending) (w' : World) : Prop := ∃ v, e = .returned v ∧ OSets w' w.heap.size v l ∧ Ext w w'

theorem set_oneL {w : World} {lo : Nat} {ss : List (SetD × Value)} (h : ∀ p ∈ ss, OStrs w lo p.2 p.1.data) : ∀ u ∈ ss.flatMap setCells, u.oneCell' = true := by
  intro u hu
  obtain ⟨p, hp, hu⟩ := List.mem_flatMap.1 hu
  obtain ⟨s, v⟩ := p
  obtain ⟨A, c, e, _⟩ := h _ hp
  dsimp only at e
  subst e
  exact set_oneS s A _ c u hu
theorem fold_len (n : List UInt8) : (fold n).length ≤ n.length := by
  unfold fold
  split
  · rw [length_low]; exact Nat.le_refl _
  · simp
theorem foldP_len (l : List Pc) : (l.flatMap fun p => if p.nm then fold p.text else p.text).length ≤ (textOf l).length := by
  induction l with
  | nil => simp [textOf]
  | cons a l ih =>
    unfold textOf at *
    rw [List.flatMap_cons, List.flatMap_cons, List.length_append, List.length_append]
    have : (if a.nm then fold a.text else a.text).length ≤ a.text.length := by
      split
      · exact fold_len _
      · exact Nat.le_refl _
    omega
theorem rfold_len (k : Int) (d : List UInt8) : (rfold k d).length ≤ d.length := by
  unfold rfold partsOf wholeOf
  split
  · rename_i h
    have := foldP_len (splitOf d 0 k).1
    rw [h.2] at this
    exact this
  · simp
theorem insB_mem {l : List (List UInt8)} {s x : List UInt8} (h : x ∈ insB l s) : x ∈ l ∨ x = s := by
  induction l with
  | nil => simp [insB] at h; exact .inr h
  | cons a l ih =>
    simp only [insB] at h
    split at h
    · simp only [List.mem_cons] at h ⊢
      rcases h with h | h | h
      · exact .inr h
      · exact .inl (.inl h)
      · exact .inl (.inr h)
    · simp only [List.mem_cons] at h ⊢
      rcases h with h | h
      · exact .inl (.inl h)
      · rcases ih h with h | h
        · exact .inl (.inr h)
        · exact .inr h
theorem putS_mem {l : List (List UInt8)} {s x : List UInt8} (h : x ∈ putS l s) : x ∈ l ∨ x = s := by
  unfold putS at h
  split at h
  · exact .inl h
  · exact insB_mem h
theorem groupTo_data (l : List RecD) (B : Nat) (hB : ∀ r ∈ l, r.data.length ≤ B) : ∀ k, k ≤ l.length → ∀ s ∈ groupTo l k, ∀ d ∈ s.data, d.length ≤ B
  | 0, _ => by simp [groupTo]
  | k + 1, h => by
    rw [groupTo_step l k (by omega)]
    have ih := groupTo_data l B hB k (by omega)
    have hx := hB l[k] (List.getElem_mem (by omega))
    have hr := rfold_len l[k].typ l[k].data
    intro s hs d hd
    unfold addR at hs
    split at hs
    · split at hs
      · rcases List.mem_append.1 hs with h1 | h1
        · exact ih s h1 d hd
        · rw [List.mem_singleton] at h1; subst h1; simp at hd; subst hd; omega
      · rcases modify_mem hs with h1 | ⟨y, hy, rfl⟩
        · exact ih s h1 d hd
        · rcases putS_mem hd with h2 | h2
          · exact ih y hy d h2
          · subst h2; omega
    · exact ih s hs d hd
theorem selF_mem : ∀ (n : Nat) (l : List SetD) (s : SetD), s ∈ selF n l → s ∈ l
  | 0, _, _, h => by simp [selF] at h
  | n + 1, l, s, h => by
    unfold selF at h
    split at h
    · simp at h
    · rename_i h0
      have hm := minTo_lt l l.length (by omega)
      rcases List.mem_cons.1 h with h | h
      · subst h
        rw [List.getD_eq_getElem?_getD, List.getElem?_eq_getElem hm]
        exact List.getElem_mem hm
      · rcases List.mem_append.1 (selF_mem n _ s h) with h | h
        · exact List.mem_of_mem_take h
        · exact List.mem_of_mem_drop h
theorem groupR_bd {l : List RecD} (h : RecsBd l) : SetsBd (groupR l) := by
  intro s hs
  have hm := selF_mem _ _ _ hs
  have h1 := groupTo_bd l l.length (Nat.le_refl _) s hm
  have h2 := groupTo_data l 300000 (fun r hr => (h.2 r hr).2) l.length (Nat.le_refl _) s hm
  have := h.1
  exact ⟨by omega, by omega, fun d hd => by have := h2 d hd; omega⟩
end Go.Proofs.YtcpikbanghoflaaGreatDoor
namespace Go.Proofs.YtcpikbanghoflaaGreatDoor
set_option linter.unusedSimpArgs false
set_option linter.unusedVariables false
open Go.ChangeShapes Go.WideShapes Go.RowKit Go.Deep Go.Joins
set_option maxRecDepth 100000
section
variable {H : Type} {enc : TypeId × Value → H} {P : Program} {w : World} {base : Nat} {spare : Nat → Bool} {held : Bool}
theorem pick {α : Type} (z : α) (n : Nat) (Q : Nat → α → Prop) (h : ∀ i, i < n → ∃ x, Q i x) : ∃ l : List α, l.length = n ∧ ∀ i (hi : i < l.length), Q i l[i] := by
  classical
  refine ⟨(List.range n).map fun i => if hi : i < n then Classical.choose (h i hi) else z, by simp, fun i hi => ?_⟩
  have hi' : i < n := by simpa using hi
  simp only [List.getElem_map, List.getElem_range, dif_pos hi']
  exact Classical.choose_spec (h i hi')
end

theorem flatR_len (l : List RecD) : (l.flatMap recCells).length = l.length * 5 := by
  induction l with
  | nil => rfl
  | cons a l ih => rw [List.flatMap_cons, List.length_append, ih, List.length_cons]; show 5 + _ = _; omega
end Go.Proofs.YtcpikbanghoflaaGreatDoor
namespace Go.Proofs.YtcpikbanghoflaaGreatDoor
set_option linter.unusedSimpArgs false
set_option linter.unusedVariables false
open Go.ChangeShapes Go.WideShapes Go.RowKit Go.Deep Go.Joins
set_option maxRecDepth 100000
section
variable {H : Type} {enc : TypeId × Value → H} {P : Program} {w : World} {base : Nat} {spare : Nat → Bool} {held : Bool}
end
end Go.Proofs.YtcpikbanghoflaaGreatDoor
namespace Go.Proofs.YtcpikbanghoflaaGreatDoor
set_option linter.unusedSimpArgs false
set_option linter.unusedVariables false
open Go.ChangeShapes Go.WideShapes Go.RowKit Go.Deep Go.Joins
set_option maxRecDepth 100000
section
variable {H : Type} {enc : TypeId × Value → H} {P : Program} {w : World} {base : Nat} {spare : Nat → Bool} {held : Bool}
end
end Go.Proofs.YtcpikbanghoflaaGreatDoor
