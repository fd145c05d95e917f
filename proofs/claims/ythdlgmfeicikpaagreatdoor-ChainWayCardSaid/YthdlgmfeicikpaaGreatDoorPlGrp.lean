/- Plain: bounds of grouped sets. -/
import Derived.Test.YthdlgmfeicikpaaGreatDoorGrp2
namespace Go.Proofs.YthdlgmfeicikpaaGreatDoor
set_option linter.unusedSimpArgs false
set_option linter.unusedVariables false

theorem fold_len (n : List UInt8) : (fold n).length ≤ n.length := by
  unfold fold
  split
  · rw [length_low]; exact Nat.le_refl _
  · simp
theorem foldP_len (l : List Pc) : (l.flatMap fun p => if p.nm then fold p.text else p.text).length ≤ (textOf l).length := by
  induction l with
  | nil => simp [textOf]
  | cons a l ih =>
    unfold textOf at *
    rw [List.flatMap_cons, List.flatMap_cons, List.length_append, List.length_append]
    have : (if a.nm then fold a.text else a.text).length ≤ a.text.length := by
      split
      · exact fold_len _
      · exact Nat.le_refl _
    omega
theorem rfold_len (k : Int) (d : List UInt8) : (rfold k d).length ≤ d.length := by
  unfold rfold partsOf wholeOf
  split
  · rename_i h
    have := foldP_len (splitOf d 0 k).1
    rw [h.2] at this
    exact this
  · simp
theorem insB_mem {l : List (List UInt8)} {s x : List UInt8} (h : x ∈ insB l s) : x ∈ l ∨ x = s := by
  induction l with
  | nil => simp [insB] at h; exact .inr h
  | cons a l ih =>
    simp only [insB] at h
    split at h
    · simp only [List.mem_cons] at h ⊢
      rcases h with h | h | h
      · exact .inr h
      · exact .inl (.inl h)
      · exact .inl (.inr h)
    · simp only [List.mem_cons] at h ⊢
      rcases h with h | h
      · exact .inl (.inl h)
      · rcases ih h with h | h
        · exact .inl (.inr h)
        · exact .inr h
theorem putS_mem {l : List (List UInt8)} {s x : List UInt8} (h : x ∈ putS l s) : x ∈ l ∨ x = s := by
  unfold putS at h
  split at h
  · exact .inl h
  · exact insB_mem h
theorem groupTo_data (l : List RecD) (B : Nat) (hB : ∀ r ∈ l, r.data.length ≤ B) : ∀ k, k ≤ l.length → ∀ s ∈ groupTo l k, ∀ d ∈ s.data, d.length ≤ B
  | 0, _ => by simp [groupTo]
  | k + 1, h => by
    rw [groupTo_step l k (by omega)]
    have ih := groupTo_data l B hB k (by omega)
    have hx := hB l[k] (List.getElem_mem (by omega))
    have hr := rfold_len l[k].typ l[k].data
    intro s hs d hd
    unfold addR at hs
    split at hs
    · split at hs
      · rcases List.mem_append.1 hs with h1 | h1
        · exact ih s h1 d hd
        · rw [List.mem_singleton] at h1; subst h1; simp at hd; subst hd; omega
      · rcases modify_mem hs with h1 | ⟨y, hy, rfl⟩
        · exact ih s h1 d hd
        · rcases putS_mem hd with h2 | h2
          · exact ih y hy d h2
          · subst h2; omega
    · exact ih s hs d hd
theorem selF_mem : ∀ (n : Nat) (l : List SetD) (s : SetD), s ∈ selF n l → s ∈ l
  | 0, _, _, h => by simp [selF] at h
  | n + 1, l, s, h => by
    unfold selF at h
    split at h
    · simp at h
    · rename_i h0
      have hm := minTo_lt l l.length (by omega)
      rcases List.mem_cons.1 h with h | h
      · subst h
        rw [List.getD_eq_getElem?_getD, List.getElem?_eq_getElem hm]
        exact List.getElem_mem hm
      · rcases List.mem_append.1 (selF_mem n _ s h) with h | h
        · exact List.mem_of_mem_take h
        · exact List.mem_of_mem_drop h
theorem groupR_bd {l : List RecD} (h : RecsBd l) : SetsBd (groupR l) := by
  intro s hs
  have hm := selF_mem _ _ _ hs
  have h1 := groupTo_bd l l.length (Nat.le_refl _) s hm
  have h2 := groupTo_data l 300000 (fun r hr => (h.2 r hr).2) l.length (Nat.le_refl _) s hm
  have := h.1
  exact ⟨by omega, by omega, fun d hd => by have := h2 d hd; omega⟩
end Go.Proofs.YthdlgmfeicikpaaGreatDoor
