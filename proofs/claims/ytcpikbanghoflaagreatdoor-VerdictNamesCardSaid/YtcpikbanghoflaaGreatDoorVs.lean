/- Contracts of functions and plain lemmas that the proofs of this seat share (joined texts). No condition. -/
import Derived.Test.YtcpikbanghoflaaGreatDoorVe
import Derived.Test.YtcpikbanghoflaaGreatDoorVd
import Derived.Test.YtcpikbanghoflaaGreatDoorVf
namespace Go.Proofs.YtcpikbanghoflaaGreatDoor
set_option linter.unusedSimpArgs false
set_option linter.unusedVariables false
open Go.RowKit
def sufL : List (List UInt8) → List (List UInt8) → Bool
  | [], b => decide (b = [])
  | x :: r, b => decide ((x :: r).map low = b) || sufL r b
def withinN (n z : List UInt8) : Bool :=
  match labelsOf n, labelsOf z with
  | some a, some b => sufL a (b.map low)
  | _, _ => false
def labN (n : List UInt8) : Nat := ((labelsOf n).getD []).length

theorem bytesOf_cons (x : List UInt8) (r : List (List UInt8)) : bytesOf (x :: r) = labB x ++ bytesOf r := by
  simp [bytesOf]
theorem bytesOf_pos (r : List (List UInt8)) : 0 < (bytesOf r).length := by simp [bytesOf]
theorem bytesOf_low_len (r : List (List UInt8)) : (bytesOf (r.map low)).length = (bytesOf r).length := by
  induction r with
  | nil => rfl
  | cons x r ih =>
    rw [List.map_cons, bytesOf_cons, bytesOf_cons, List.length_append, List.length_append, ih]
    simp [labB, length_low]
theorem sufL_short : ∀ (t b : List (List UInt8)), (bytesOf t).length < (bytesOf b).length → sufL t b = false
  | [], b, h => by
    rcases b with _ | ⟨y, b⟩
    · omega
    · simp [sufL]
  | x :: r, b, h => by
    have h1 : ¬ ((x :: r).map low = b) := fun e => by rw [← e, bytesOf_low_len] at h; omega
    have h2 : (bytesOf r).length < (bytesOf b).length := by
      rw [bytesOf_cons, List.length_append] at h; omega
    rw [sufL, sufL_short r b h2, decide_eq_false h1]; rfl
theorem sufL_long (x : List UInt8) (r b : List (List UInt8)) (h : (bytesOf b).length < (bytesOf (x :: r)).length) : sufL (x :: r) b = sufL r b := by
  have h1 : ¬ ((x :: r).map low = b) := fun e => by rw [← e, bytesOf_low_len] at h; omega
  rw [sufL, decide_eq_false h1, Bool.false_or]
theorem bytesOf_inj : ∀ {a b : List (List UInt8)}, (∀ x ∈ a, 0 < x.length ∧ x.length ≤ 63) → (∀ x ∈ b, 0 < x.length ∧ x.length ≤ 63) → bytesOf a = bytesOf b → a = b
  | [], [], _, _, _ => rfl
  | [], y :: b, _, hb, h => by
    exfalso
    rw [bytesOf_cons] at h
    simp only [bytesOf, List.flatMap_nil, List.nil_append, labB, List.cons_append, List.cons.injEq] at h
    have := (hb y (by simp)).1
    have h2 := (hb y (by simp)).2
    have h3 := congrArg UInt8.toNat h.1
    rw [UInt8.toNat_ofNat', Nat.mod_eq_of_lt (by omega)] at h3
    have h4 : (0 : UInt8).toNat = 0 := rfl
    omega
  | x :: a, [], ha, _, h => by
    exfalso
    rw [bytesOf_cons] at h
    simp only [bytesOf, List.flatMap_nil, List.nil_append, labB, List.cons_append, List.cons.injEq] at h
    have := (ha x (by simp)).1
    have h2 := (ha x (by simp)).2
    have h3 := congrArg UInt8.toNat h.1
    rw [UInt8.toNat_ofNat', Nat.mod_eq_of_lt (by omega)] at h3
    have h4 : (0 : UInt8).toNat = 0 := rfl
    omega
  | x :: a, y :: b, ha, hb, h => by
    rw [bytesOf_cons, bytesOf_cons] at h
    simp only [labB, List.cons_append, List.cons.injEq] at h
    have hx := (ha x (by simp)).2
    have hy := (hb y (by simp)).2
    have hl : x.length = y.length := by
      have := congrArg UInt8.toNat h.1
      rw [UInt8.toNat_ofNat', UInt8.toNat_ofNat', Nat.mod_eq_of_lt (by omega), Nat.mod_eq_of_lt (by omega)] at this
      exact this
    obtain ⟨h1, h2⟩ := List.append_inj h.2 hl
    rw [h1, bytesOf_inj (fun z hz => ha z (by simp [hz])) (fun z hz => hb z (by simp [hz])) h2]
theorem sufL_same {t b : List (List UInt8)} (ht : ∀ x ∈ t, 0 < x.length ∧ x.length ≤ 63) (hb : ∀ x ∈ b, 0 < x.length ∧ x.length ≤ 63) (h : (bytesOf t).length = (bytesOf b).length) :
    sufL t (b.map low) = (low (bytesOf t) == low (bytesOf b)) := by
  have hl : (low (bytesOf t) == low (bytesOf b)) = decide (t.map low = b.map low) := by
    rw [low_bytes t (fun x hx => (ht x hx).2), low_bytes b (fun x hx => (hb x hx).2), Bool.eq_iff_iff, beq_iff_eq, decide_eq_true_eq]
    constructor
    · exact bytesOf_inj (fun x hx => by obtain ⟨y, hy, rfl⟩ := List.mem_map.1 hx; rw [length_low]; exact ht y hy) (fun x hx => by obtain ⟨y, hy, rfl⟩ := List.mem_map.1 hx; rw [length_low]; exact hb y hy)
    · intro e; rw [e]
  rw [hl]
  rcases t with _ | ⟨x, r⟩
  · rw [sufL, List.map_nil]
    simp [eq_comm]
  · have h2 : sufL r (b.map low) = false := sufL_short _ _ (by rw [bytesOf_low_len, ← h, bytesOf_cons, List.length_append]; simp [labB])
    rw [sufL, h2, Bool.or_false]
def fitsB (n : List UInt8) (cls : Int) (s : SetD) : Bool := s.typ == 6 && (s.cls == cls && withinN n s.name)
def bestTo (l : List SetD) (n : List UInt8) (cls : Int) : Nat → Option (Nat × SetD)
  | 0 => none
  | k + 1 => match l[k]? with
    | none => bestTo l n cls k
    | some s => match bestTo l n cls k with
      | none => if fitsB n cls s then some (k, s) else none
      | some b => if fitsB n cls s && decide (labN b.2.name < labN s.name) then some (k, s) else some b
structure SoaR where
  set : Option SetD
  err : Nat
def soaOf (b : Option (Nat × SetD)) : SoaR :=
  match b with
  | none => ⟨none, 0⟩
  | some (_, s) => if s.data.length = 1 then ⟨some s, 0⟩ else ⟨none, 3⟩
def soaFind (l : List SetD) (n : List UInt8) (cls : Int) : SoaR := soaOf (bestTo l n cls l.length)
def lastFour (d : List UInt8) : Nat := be (d.drop (d.length - 4))
def soaTimeD (ttl : Int) (d : List UInt8) : Int := if rmay 6 d then min (timeT ttl) (timeT (lastFour d)) else 0
def soaTime (s : SetD) : Int :=
  if s.typ = 6 then (match s.data with | [d] => soaTimeD s.ttl d | _ => 0) else 0

def ttl0 (s : SetD) : SetD := { s with ttl := 0 }
def leastT (l : List SetD) (t : Int) : Int := l.foldl (fun t s => min t s.ttl) t
structure VerR where
  code : Int
  sets : List SetD
  soa : List SetD
  time : Int
  err : Nat
def VerR.bad (e : Nat) : VerR := ⟨0, [], [], 0, e⟩
def verEnd (code : Int) (path fin : List SetD) : VerR :=
  if code = 3 then VerR.bad 3 else ⟨code, (path ++ fin).map ttl0, [], leastT (path ++ fin) 2147483647, 0⟩
def verSoa (code : Int) (path : List SetD) (r : SoaR) : VerR :=
  if r.err = 0 then
    (match r.set with
    | none => ⟨code, path.map ttl0, [], 0, 0⟩
    | some s => ⟨code, path.map ttl0, [ttl0 s], leastT path (soaTime s), 0⟩)
  else VerR.bad r.err
def verFol (code cls : Int) (auth : List RecD) (R : FolR) : VerR :=
  if R.err = 0 then (if R.fin = [] then verSoa code R.path (soaFind (groupR auth) R.here cls) else verEnd code R.path R.fin)
  else VerR.bad R.err
def verOf (n : List UInt8) (ty cls code : Int) (ans auth : List RecD) : VerR :=
  if may n = true ∧ (code = 0 ∨ code = 3) then verFol code cls auth (followOf n ty cls (groupR ans)) else VerR.bad 1
def verSame (ca : Int) (sa oa : List SetD) (cb : Int) (sb ob : List SetD) : Bool := decide (ca = cb) && (decide (sa = sb) && decide (oa = ob))
def num2 (n : Nat) : List UInt8 := [UInt8.ofNat (n / 256), UInt8.ofNat n]
def keyD (d : List UInt8) : List UInt8 := num2 d.length ++ d
def keyS1 (s : SetD) : List UInt8 := s.name ++ (num2 s.typ.toNat ++ (num2 s.cls.toNat ++ (num2 s.data.length ++ s.data.flatMap keyD)))
def keySs (l : List SetD) : List UInt8 := UInt8.ofNat l.length :: l.flatMap keyS1
def keyV3 (code : Int) (sets soa : List SetD) : List UInt8 := UInt8.ofNat code.toNat :: (keySs sets ++ keySs soa)
def endV (ty : Int) (sets : List SetD) : Option SetD := match sets.getLast? with
  | none => none
  | some s => if s.typ = ty then some s else none
end Go.Proofs.YtcpikbanghoflaaGreatDoor
