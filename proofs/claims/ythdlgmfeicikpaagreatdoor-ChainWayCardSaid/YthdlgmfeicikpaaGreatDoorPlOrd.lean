/- Plain: orders by numbers; that names and sets are ordered. No condition. -/
import Derived.Test.YthdlgmfeicikpaaGreatDoorCmp8
import Derived.Sort.Statements
namespace Go.Proofs.YthdlgmfeicikpaaGreatDoor
set_option linter.unusedSimpArgs false
set_option linter.unusedVariables false

structure Good {α : Type} (c : α → α → Int) : Prop where
  anti : ∀ x y, c y x = - c x y
  tr : ∀ x y z, c x y ≤ 0 → c y z ≤ 0 → c x z ≤ 0
theorem Good.zero {α : Type} {c : α → α → Int} (h : Good c) (x : α) : c x x = 0 := by have := h.anti x x; omega
theorem Good.trlt {α : Type} {c : α → α → Int} (h : Good c) {x y z : α} (h1 : c x y < 0) (h2 : c y z ≤ 0) : c x z < 0 := by
  have h3 := h.tr x y z (by omega) h2
  rcases Int.lt_or_eq_of_le h3 with h4 | h4
  · exact h4
  · have h5 := h.anti x z
    have h6 := h.tr y z x h2 (by omega)
    have h7 := h.anti x y
    omega
theorem Good.ltr {α : Type} {c : α → α → Int} (h : Good c) {x y z : α} (h1 : c x y ≤ 0) (h2 : c y z < 0) : c x z < 0 := by
  have h3 := h.tr x y z h1 (by omega)
  rcases Int.lt_or_eq_of_le h3 with h4 | h4
  · exact h4
  · have h5 := h.anti x z
    have h6 := h.tr z x y (by omega) h1
    have h7 := h.anti y z
    omega
theorem Good.eqtr {α : Type} {c : α → α → Int} (h : Good c) {x y z : α} (h1 : c x y ≤ 0) (h2 : c y z ≤ 0) (h3 : c x z = 0) : c x y = 0 ∧ c y z = 0 := by
  constructor
  · rcases Int.lt_or_eq_of_le h1 with h | h4
    · have := Good.trlt ‹Good c› h h2; omega
    · exact h4
  · rcases Int.lt_or_eq_of_le h2 with h | h4
    · have := Good.ltr ‹Good c› h1 h; omega
    · exact h4
theorem Good.swo {α : Type} {c : α → α → Int} (h : Good c) : Go.Sort.SWO (fun x y => decide (c x y < 0)) where
  irrefl x := by simp [h.zero x]
  trans x y z h1 h2 := by simp only [decide_eq_true_eq] at *; exact h.trlt h1 (by omega)
  ntrans x y z h1 h2 := by
    simp only [decide_eq_false_iff_not] at *
    have a1 := h.anti x y
    have a2 := h.anti y z
    have a3 := h.anti x z
    have := h.tr z y x (by omega) (by omega)
    omega
theorem Good.lex {α : Type} {c d : α → α → Int} (h : Good c) (k : Good d) : Good (fun x y => if c x y = 0 then d x y else c x y) where
  anti x y := by
    have a1 := h.anti x y
    have a2 := k.anti x y
    by_cases e : c x y = 0
    · rw [if_pos e, if_pos (by omega)]; exact a2
    · rw [if_neg e, if_neg (by omega)]; exact a1
  tr x y z h1 h2 := by
    have g1 : c x y ≤ 0 := by
      by_cases e : c x y = 0
      · omega
      · rwa [if_neg e] at h1
    have g2 : c y z ≤ 0 := by
      by_cases e : c y z = 0
      · omega
      · rwa [if_neg e] at h2
    have g3 := h.tr x y z g1 g2
    by_cases e : c x z = 0
    · obtain ⟨e1, e2⟩ := h.eqtr g1 g2 e
      rw [if_pos e]
      rw [if_pos e1] at h1
      rw [if_pos e2] at h2
      exact k.tr x y z h1 h2
    · rw [if_neg e]; exact g3
theorem Good.pull {α β : Type} {c : β → β → Int} (h : Good c) (f : α → β) : Good (fun x y => c (f x) (f y)) := ⟨fun x y => h.anti _ _, fun x y z => h.tr _ _ _⟩
theorem good_cmpI : Good cmpI where
  anti x y := by unfold cmpI; split <;> split <;> (try split) <;> (try split) <;> omega
  tr x y z h1 h2 := by
    unfold cmpI at *
    by_cases a : x < y
    · by_cases b : y < z
      · rw [if_pos (by omega)]; omega
      · rw [if_neg b] at h2
        by_cases b' : z < y
        · rw [if_pos b'] at h2; omega
        · rw [if_pos (by omega)]; omega
    · rw [if_neg a] at h1
      by_cases a' : y < x
      · rw [if_pos a'] at h1; omega
      · have : x = y := by omega
        subst this; exact h2

theorem bl_trans : ∀ (a b c : List UInt8), bl a b = true → bl b c = true → bl a c = true
  | [], [], _, h, _ => by simp [bl, Op.bytesLess] at h
  | [], _ :: _, [], _, h => by simp [bl, Op.bytesLess] at h
  | [], _ :: _, _ :: _, _, _ => by simp [bl, Op.bytesLess]
  | _ :: _, [], _, h, _ => by simp [bl, Op.bytesLess] at h
  | _ :: _, _ :: _, [], _, h => by simp [bl, Op.bytesLess] at h
  | x :: a, y :: b, z :: c, h1, h2 => by
    simp only [bl, Op.bytesLess, Bool.or_eq_true, decide_eq_true_eq, Bool.and_eq_true, beq_iff_eq] at *
    rcases h1 with h1 | ⟨rfl, h1⟩
    · rcases h2 with h2 | ⟨rfl, h2⟩
      · exact .inl (UInt8.lt_trans h1 h2)
      · exact .inl h1
    · rcases h2 with h2 | ⟨rfl, h2⟩
      · exact .inl h2
      · exact .inr ⟨rfl, bl_trans a b c h1 h2⟩
def cmpT (a b : List UInt8) : Int := if bl a b then -1 else if bl b a then 1 else 0
theorem cmpT_zero {a b : List UInt8} (h : cmpT a b = 0) : a = b := by
  unfold cmpT at h
  split at h
  · omega
  · split at h
    · omega
    · exact bl_total a b (by simpa using ‹¬ bl a b = true›) (by simpa using ‹¬ bl b a = true›)
theorem good_cmpT : Good cmpT where
  anti x y := by
    unfold cmpT
    by_cases a : bl x y = true
    · rw [if_pos a, if_neg (by simp [(bl_asym x y a).1]), if_pos a]; rfl
    · by_cases b : bl y x = true
      · rw [if_pos b, if_neg a, if_pos b]
      · rw [if_neg b, if_neg a, if_neg a, if_neg b]; rfl
  tr x y z h1 h2 := by
    unfold cmpT at *
    by_cases a : bl x y = true
    · by_cases b : bl y z = true
      · rw [if_pos (bl_trans x y z a b)]; omega
      · rw [if_neg b] at h2
        by_cases b' : bl z y = true
        · rw [if_pos b'] at h2; omega
        · have : y = z := bl_total y z (by simpa using b) (by simpa using b')
          subst this
          rw [if_pos a]; omega
    · rw [if_neg a] at h1
      by_cases a' : bl y x = true
      · rw [if_pos a'] at h1; omega
      · have : x = y := bl_total x y (by simpa using a) (by simpa using a')
        subst this; exact h2
theorem cmpRev_eq (a b : List UInt8) (x y : List (List UInt8)) : cmpRev (a :: x) (b :: y) = if cmpT a b = 0 then cmpRev x y else cmpT a b := by
  rw [cmpRev_cons]
  unfold cmpT
  by_cases h1 : bl a b = true
  · simp [h1]
  · by_cases h2 : bl b a = true
    · simp [h1, h2]
    · simp [h1, h2]
theorem cmpRev_anti : ∀ x y, cmpRev y x = - cmpRev x y
  | [], [] => rfl
  | [], _ :: _ => rfl
  | _ :: _, [] => rfl
  | a :: x, b :: y => by
    rw [cmpRev_eq, cmpRev_eq, good_cmpT.anti a b, cmpRev_anti x y]
    by_cases e : cmpT a b = 0
    · simp [e]
    · rw [if_neg (by omega), if_neg e]
theorem cmpRev_tr : ∀ x y z, cmpRev x y ≤ 0 → cmpRev y z ≤ 0 → cmpRev x z ≤ 0
  | [], _, [], _, _ => by simp [cmpRev]
  | [], _, _ :: _, _, _ => by simp [cmpRev]
  | _ :: _, [], _, h, _ => by simp [cmpRev] at h
  | _ :: _, _ :: _, [], _, h => by simp [cmpRev] at h
  | a :: x, b :: y, c :: z, h1, h2 => by
    rw [cmpRev_eq] at *
    have g1 : cmpT a b ≤ 0 := by
      by_cases e : cmpT a b = 0
      · omega
      · rwa [if_neg e] at h1
    have g2 : cmpT b c ≤ 0 := by
      by_cases e : cmpT b c = 0
      · omega
      · rwa [if_neg e] at h2
    have g3 := good_cmpT.tr a b c g1 g2
    by_cases e : cmpT a c = 0
    · obtain ⟨e1, e2⟩ := good_cmpT.eqtr g1 g2 e
      rw [if_pos e]
      rw [if_pos e1] at h1
      rw [if_pos e2] at h2
      exact cmpRev_tr x y z h1 h2
    · rw [if_neg e]; exact g3
theorem good_cmpRev : Good cmpRev := ⟨cmpRev_anti, cmpRev_tr⟩
theorem cmpRev_zero : ∀ x y, cmpRev x y = 0 → x = y
  | [], [], _ => rfl
  | [], _ :: _, h => by simp [cmpRev] at h
  | _ :: _, [], h => by simp [cmpRev] at h
  | a :: x, b :: y, h => by
    rw [cmpRev_eq] at h
    by_cases e : cmpT a b = 0
    · rw [if_pos e] at h
      rw [cmpT_zero e, cmpRev_zero x y h]
    · rw [if_neg e] at h; exact absurd h e

/-- What a name is ordered by. -/
def keyL (n : List UInt8) : List (List UInt8) := (((labelsOf n).getD []).map low).reverse
theorem cmpN_key {a b : List UInt8} (ha : may a = true) (hb : may b = true) : cmpN a b = cmpRev (keyL a) (keyL b) := by
  unfold may at ha hb
  unfold cmpN keyL
  cases h1 : labelsOf a with
  | none => rw [h1] at ha; simp at ha
  | some x =>
    cases h2 : labelsOf b with
    | none => rw [h2] at hb; simp at hb
    | some y => rfl
/-- The order of sets as a number, by the names' keys. -/
def cmpK (a b : SetD) : Int := if cmpRev (keyL a.name) (keyL b.name) = 0 then (if cmpI a.typ b.typ = 0 then cmpI a.cls b.cls else cmpI a.typ b.typ) else cmpRev (keyL a.name) (keyL b.name)
theorem cmpS_key {a b : SetD} (ha : may a.name = true) (hb : may b.name = true) : cmpS a b = cmpK a b := by unfold cmpS cmpK; rw [cmpN_key ha hb]
theorem good_cmpK : Good cmpK := (good_cmpRev.pull (fun s : SetD => keyL s.name)).lex ((good_cmpI.pull (fun s : SetD => s.typ)).lex (good_cmpI.pull (fun s : SetD => s.cls)))
theorem cmpI_zero {x y : Int} (h : cmpI x y = 0) : x = y := by unfold cmpI at h; split at h <;> (try split at h) <;> omega
theorem cmpI_neg {x y : Int} : cmpI x y < 0 ↔ x < y := by unfold cmpI; split <;> (try split) <;> omega
theorem beforeS_key {a b : SetD} (ha : may a.name = true) (hb : may b.name = true) : beforeS a b = decide (cmpK a b < 0) := by
  unfold beforeS cmpK
  rw [cmpN_key ha hb]
  by_cases h1 : cmpRev (keyL a.name) (keyL b.name) = 0
  · rw [if_pos h1, if_pos h1]
    by_cases h2 : a.typ = b.typ
    · rw [if_pos h2, if_pos (by rw [h2]; exact good_cmpI.zero _)]
      rw [decide_eq_decide]; exact cmpI_neg.symm
    · rw [if_neg h2, if_neg (fun e => h2 (cmpI_zero e))]
      rw [decide_eq_decide]; exact cmpI_neg.symm
  · rw [if_neg h1, if_neg h1]
end Go.Proofs.YthdlgmfeicikpaaGreatDoor
