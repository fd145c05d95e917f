/- Contracts of functions and plain lemmas that the proofs of this seat share (joined texts). No condition. -/
import Derived.Test.YtdnpmapelmjfpaaGreatDoorRe
import Derived.Test.YtdnpmapelmjfpaaGreatDoorRd
import Derived.Test.YtdnpmapelmjfpaaGreatDoorRf
namespace Go.Proofs.YtdnpmapelmjfpaaGreatDoor
set_option linter.unusedSimpArgs false
set_option linter.unusedVariables false
open Go.RowKit
def sufL : List (List UInt8) → List (List UInt8) → Bool
  | [], b => decide (b = [])
  | x :: r, b => decide ((x :: r).map low = b) || sufL r b
def withinN (n z : List UInt8) : Bool :=
  match labelsOf n, labelsOf z with
  | some a, some b => sufL a (b.map low)
  | _, _ => false
def labN (n : List UInt8) : Nat := ((labelsOf n).getD []).length

theorem bytesOf_cons (x : List UInt8) (r : List (List UInt8)) : bytesOf (x :: r) = labB x ++ bytesOf r := by
  simp [bytesOf]
theorem bytesOf_pos (r : List (List UInt8)) : 0 < (bytesOf r).length := by simp [bytesOf]
theorem bytesOf_low_len (r : List (List UInt8)) : (bytesOf (r.map low)).length = (bytesOf r).length := by
  induction r with
  | nil => rfl
  | cons x r ih =>
    rw [List.map_cons, bytesOf_cons, bytesOf_cons, List.length_append, List.length_append, ih]
    simp [labB, length_low]
theorem sufL_short : ∀ (t b : List (List UInt8)), (bytesOf t).length < (bytesOf b).length → sufL t b = false
  | [], b, h => by
    rcases b with _ | ⟨y, b⟩
    · omega
    · simp [sufL]
  | x :: r, b, h => by
    have h1 : ¬ ((x :: r).map low = b) := fun e => by rw [← e, bytesOf_low_len] at h; omega
    have h2 : (bytesOf r).length < (bytesOf b).length := by
      rw [bytesOf_cons, List.length_append] at h; omega
    rw [sufL, sufL_short r b h2, decide_eq_false h1]; rfl
theorem sufL_long (x : List UInt8) (r b : List (List UInt8)) (h : (bytesOf b).length < (bytesOf (x :: r)).length) : sufL (x :: r) b = sufL r b := by
  have h1 : ¬ ((x :: r).map low = b) := fun e => by rw [← e, bytesOf_low_len] at h; omega
  rw [sufL, decide_eq_false h1, Bool.false_or]
theorem bytesOf_inj : ∀ {a b : List (List UInt8)}, (∀ x ∈ a, 0 < x.length ∧ x.length ≤ 63) → (∀ x ∈ b, 0 < x.length ∧ x.length ≤ 63) → bytesOf a = bytesOf b → a = b
  | [], [], _, _, _ => rfl
  | [], y :: b, _, hb, h => by
    exfalso
    rw [bytesOf_cons] at h
    simp only [bytesOf, List.flatMap_nil, List.nil_append, labB, List.cons_append, List.cons.injEq] at h
    have := (hb y (by simp)).1
    have h2 := (hb y (by simp)).2
    have h3 := congrArg UInt8.toNat h.1
    rw [UInt8.toNat_ofNat', Nat.mod_eq_of_lt (by omega)] at h3
    have h4 : (0 : UInt8).toNat = 0 := rfl
    omega
  | x :: a, [], ha, _, h => by
    exfalso
    rw [bytesOf_cons] at h
    simp only [bytesOf, List.flatMap_nil, List.nil_append, labB, List.cons_append, List.cons.injEq] at h
    have := (ha x (by simp)).1
    have h2 := (ha x (by simp)).2
    have h3 := congrArg UInt8.toNat h.1
    rw [UInt8.toNat_ofNat', Nat.mod_eq_of_lt (by omega)] at h3
    have h4 : (0 : UInt8).toNat = 0 := rfl
    omega
  | x :: a, y :: b, ha, hb, h => by
    rw [bytesOf_cons, bytesOf_cons] at h
    simp only [labB, List.cons_append, List.cons.injEq] at h
    have hx := (ha x (by simp)).2
    have hy := (hb y (by simp)).2
    have hl : x.length = y.length := by
      have := congrArg UInt8.toNat h.1
      rw [UInt8.toNat_ofNat', UInt8.toNat_ofNat', Nat.mod_eq_of_lt (by omega), Nat.mod_eq_of_lt (by omega)] at this
      exact this
    obtain ⟨h1, h2⟩ := List.append_inj h.2 hl
    rw [h1, bytesOf_inj (fun z hz => ha z (by simp [hz])) (fun z hz => hb z (by simp [hz])) h2]
theorem sufL_same {t b : List (List UInt8)} (ht : ∀ x ∈ t, 0 < x.length ∧ x.length ≤ 63) (hb : ∀ x ∈ b, 0 < x.length ∧ x.length ≤ 63) (h : (bytesOf t).length = (bytesOf b).length) :
    sufL t (b.map low) = (low (bytesOf t) == low (bytesOf b)) := by
  have hl : (low (bytesOf t) == low (bytesOf b)) = decide (t.map low = b.map low) := by
    rw [low_bytes t (fun x hx => (ht x hx).2), low_bytes b (fun x hx => (hb x hx).2), Bool.eq_iff_iff, beq_iff_eq, decide_eq_true_eq]
    constructor
    · exact bytesOf_inj (fun x hx => by obtain ⟨y, hy, rfl⟩ := List.mem_map.1 hx; rw [length_low]; exact ht y hy) (fun x hx => by obtain ⟨y, hy, rfl⟩ := List.mem_map.1 hx; rw [length_low]; exact hb y hy)
    · intro e; rw [e]
  rw [hl]
  rcases t with _ | ⟨x, r⟩
  · rw [sufL, List.map_nil]
    simp [eq_comm]
  · have h2 : sufL r (b.map low) = false := sufL_short _ _ (by rw [bytesOf_low_len, ← h, bytesOf_cons, List.length_append]; simp [labB])
    rw [sufL, h2, Bool.or_false]
def fitsB (n : List UInt8) (cls : Int) (s : SetD) : Bool := s.typ == 6 && (s.cls == cls && withinN n s.name)
def bestTo (l : List SetD) (n : List UInt8) (cls : Int) : Nat → Option (Nat × SetD)
  | 0 => none
  | k + 1 => match l[k]? with
    | none => bestTo l n cls k
    | some s => match bestTo l n cls k with
      | none => if fitsB n cls s then some (k, s) else none
      | some b => if fitsB n cls s && decide (labN b.2.name < labN s.name) then some (k, s) else some b
structure SoaR where
  set : Option SetD
  err : Nat
def soaOf (b : Option (Nat × SetD)) : SoaR :=
  match b with
  | none => ⟨none, 0⟩
  | some (_, s) => if s.data.length = 1 then ⟨some s, 0⟩ else ⟨none, 3⟩
def soaFind (l : List SetD) (n : List UInt8) (cls : Int) : SoaR := soaOf (bestTo l n cls l.length)
structure VerR where
  code : Int
  sets : List SetD
  soa : List SetD
  time : Int
  err : Nat
def VerR.bad (e : Nat) : VerR := ⟨0, [], [], 0, e⟩
end Go.Proofs.YtdnpmapelmjfpaaGreatDoor
