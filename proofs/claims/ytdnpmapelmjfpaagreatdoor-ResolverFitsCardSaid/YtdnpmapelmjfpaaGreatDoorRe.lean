/- Contracts of functions and plain lemmas that the proofs of this seat share (joined texts). No condition. -/
import Derived.Test.YtdnpmapelmjfpaaGreatDoorRc
import Derived.Test.YtdnpmapelmjfpaaGreatDoorRa
import Derived.BigRegion
import Derived.Deep.RegionHeld3
import Derived.Deep.RegionWith
import Derived.Test.YtdnpmapelmjfpaaGreatDoorRd
namespace Go.Proofs.YtdnpmapelmjfpaaGreatDoor
set_option linter.unusedSimpArgs false
set_option linter.unusedVariables false
open Go.RowKit
set_option maxRecDepth 100000
theorem app_mk (a b : List UInt8) : (ByteArray.mk a.toArray) ++ (ByteArray.mk b.toArray) = ByteArray.mk (a ++ b).toArray := by
  apply ByteArray.ext
  simp
attribute [go_sem] app_mk
def labB (x : List UInt8) : List UInt8 := UInt8.ofNat x.length :: x
def bytesOf (ls : List (List UInt8)) : List UInt8 := ls.flatMap labB ++ [0]
theorem parse_bytes : ∀ (n : Nat) (l : List UInt8) (ls : List (List UInt8)), l.length ≤ n → parse l = some ls → l = bytesOf ls ∧ ∀ x ∈ ls, 0 < x.length ∧ x.length ≤ 63 := by
  intro n
  induction n with
  | zero =>
    intro l ls hn h
    have : l = [] := List.eq_nil_of_length_eq_zero (by omega)
    subst this
    rw [parse_nil] at h; cases h
  | succ n ih =>
    intro l ls hn h
    rcases l with _ | ⟨b, r⟩
    · rw [parse_nil] at h; cases h
    · rw [parse_cons] at h
      split at h
      · rename_i hb
        split at h
        · rename_i hr
          injection h with h
          subst h hb hr
          exact ⟨rfl, by simp⟩
        · cases h
      · rename_i hb
        split at h
        · cases h
        · rename_i h63
          rw [Option.map_eq_some_iff] at h
          obtain ⟨ls', hp, rfl⟩ := h
          have hrl : b.toNat < r.length := by
            rcases Nat.lt_or_ge b.toNat r.length with h' | h'
            · exact h'
            · rw [List.drop_of_length_le h', parse_nil] at hp; cases hp
          have hb0 : 0 < b.toNat := Nat.pos_of_ne_zero (fun e => hb (UInt8.toNat_inj.1 (by simpa using e)))
          obtain ⟨h1, h2⟩ := ih _ _ (by simp at hn ⊢; omega) hp
          have htl : (r.take b.toNat).length = b.toNat := by simp; omega
          refine ⟨?_, fun x hx => ?_⟩
          · unfold bytesOf at h1 ⊢
            rw [List.flatMap_cons, List.append_assoc, ← h1]
            unfold labB
            rw [htl, UInt8.ofNat_toNat, List.cons_append, List.take_append_drop]
          · rcases List.mem_cons.1 hx with rfl | h
            · rw [htl]; omega
            · exact h2 x h
theorem labels_bytes {l : List UInt8} {ls : List (List UInt8)} (h : labelsOf l = some ls) : l.length ≤ 255 ∧ l = bytesOf ls ∧ ∀ x ∈ ls, 0 < x.length ∧ x.length ≤ 63 := by
  unfold labelsOf at h
  split at h
  · rename_i hl; exact ⟨hl, parse_bytes _ l ls (Nat.le_refl _) h⟩
  · cases h
theorem lowB_small {b : UInt8} (h : b.toNat ≤ 63) : lowB b = b := by unfold lowB; rw [if_neg (by omega)]
theorem low_bytes (ls : List (List UInt8)) (h : ∀ x ∈ ls, x.length ≤ 63) : low (bytesOf ls) = bytesOf (ls.map low) := by
  unfold bytesOf
  induction ls with
  | nil => rfl
  | cons x ls ih =>
    have h1 := h x (by simp)
    have h2 := ih (fun y hy => h y (by simp [hy]))
    rw [List.flatMap_cons, List.append_assoc, List.map_cons, List.flatMap_cons, List.append_assoc, ← h2]
    unfold low labB
    rw [List.map_append, List.map_cons, lowB_small (by simp; omega), List.length_map]
theorem labels_len {l : List UInt8} {ls : List (List UInt8)} (h : labelsOf l = some ls) : ls.length ≤ 255 := by
  obtain ⟨h1, h2, h3⟩ := labels_bytes h
  have : ls.length ≤ (ls.flatMap labB).length := by
    clear h h1 h2 h3
    induction ls with
    | nil => simp
    | cons x ls ih =>
      rw [List.flatMap_cons, List.length_append, List.length_cons]
      have : (labB x).length = x.length + 1 := rfl
      omega
  have h4 : (bytesOf ls).length ≤ 255 := by rw [← h2]; exact h1
  unfold bytesOf at h4
  rw [List.length_append] at h4
  omega
theorem fold_labels {l : List UInt8} {ls : List (List UInt8)} (h : labelsOf l = some ls) : fold l = bytesOf (ls.map low) := by
  obtain ⟨_, h2, h3⟩ := labels_bytes h
  unfold fold may
  rw [h, if_pos (by rfl)]
  conv => lhs; rw [h2]
  exact low_bytes ls (fun x hx => (h3 x hx).2)
abbrev bl (a b : List UInt8) : Bool := Op.bytesLess a b
def cmpRev : List (List UInt8) → List (List UInt8) → Int
  | [], [] => 0
  | [], _ :: _ => -1
  | _ :: _, [] => 1
  | a :: x, b :: y => if bl a b then -1 else if bl b a then 1 else cmpRev x y
def cmpN (a b : List UInt8) : Int :=
  match labelsOf a, labelsOf b with
  | some x, some y => cmpRev (x.map low).reverse (y.map low).reverse
  | _, _ => 0

theorem cmpRev_cons (a b : List UInt8) (x y : List (List UInt8)) : cmpRev (a :: x) (b :: y) = if bl a b then -1 else if bl b a then 1 else cmpRev x y := rfl
theorem bl_irr (a : List UInt8) : bl a a = false := by
  induction a with
  | nil => rfl
  | cons x a ih => simp only [bl, Op.bytesLess] at *; simp [ih]
theorem bl_asym (a b : List UInt8) (h : bl a b = true) : bl b a = false ∧ a ≠ b := by
  induction a generalizing b with
  | nil => cases b <;> simp_all [bl, Op.bytesLess]
  | cons x a ih =>
    cases b with
    | nil => simp [bl, Op.bytesLess] at h
    | cons y b =>
      simp only [bl, Op.bytesLess, Bool.or_eq_true, decide_eq_true_eq, Bool.and_eq_true, beq_iff_eq] at h
      rcases h with h | ⟨rfl, h⟩
      · have h1 : ¬ y < x := UInt8.lt_asymm h
        have h2 : y ≠ x := fun e => by subst e; exact (UInt8.lt_irrefl _) h
        refine ⟨?_, fun e => h2 (by injection e with e; exact e.symm)⟩
        simp [bl, Op.bytesLess, h1, h2]
      · obtain ⟨h1, h2⟩ := ih b h
        refine ⟨?_, fun e => h2 (by injection e)⟩
        simp [bl, Op.bytesLess] at h1 ⊢
        exact h1
theorem bl_total (a b : List UInt8) (h1 : bl a b = false) (h2 : bl b a = false) : a = b := by
  induction a generalizing b with
  | nil => cases b <;> simp_all [bl, Op.bytesLess]
  | cons x a ih =>
    cases b with
    | nil => simp [bl, Op.bytesLess] at h2
    | cons y b =>
      simp only [bl, Op.bytesLess, Bool.or_eq_false_iff, decide_eq_false_iff_not, Bool.and_eq_false_iff] at h1 h2
      have hxy : x = y := UInt8.le_antisymm (UInt8.not_lt.1 h2.1) (UInt8.not_lt.1 h1.1)
      subst hxy
      rw [ih b (by simpa using h1.2) (by simpa using h2.2)]

theorem rev_drop (x : List (List UInt8)) (k : Nat) (h : k < x.length) : (x.map low).reverse.drop k = low (x[x.length - 1 - k]) :: (x.map low).reverse.drop (k + 1) := by
  rw [List.drop_eq_getElem_cons (by simp; exact h)]
  congr 1
  rw [List.getElem_reverse]
  simp
structure Pr where
  s : List UInt8
  nm : Bool
def Pr.cells (p : Pr) : List Value := [S p.s, .bool p.nm]
end Go.Proofs.YtdnpmapelmjfpaaGreatDoor
