/- Plain: data of records by its parts (layer 5). No condition. -/
import Derived.Test.YthdlgmfeicikpaaGreatDoorPlRead
namespace Go.Proofs.YthdlgmfeicikpaaGreatDoor
set_option linter.unusedSimpArgs false
set_option linter.unusedVariables false

/-- A part of data: its bytes, is it a name, the offset behind it. -/
structure Pc where
  text : List UInt8
  nm : Bool
  next : Nat
def Pc.cells (p : Pc) : List Value := [S p.text, .bool p.nm, .int .i64 p.next]
def Pc.zero : Pc := ⟨[], false, 0⟩

/-- A check of one part. kind 0: n bytes; 1: a name; 2: texts; else: all the rest. -/
structure Chk where
  kind : Nat
  n : Nat

/-- Texts, each with its length ahead, up to the end: do they fit? -/
def textsF : Nat → List UInt8 → Bool
  | 0, _ => false
  | _ + 1, [] => false
  | n + 1, b :: r => if r.length < b.toNat then false else if r.length = b.toNat then true else textsF n (r.drop b.toNat)
def textsOk (l : List UInt8) : Bool := textsF (l.length + 1) l
theorem textsF_fuel (n : Nat) : ∀ (m : Nat) (l : List UInt8), l.length < n → l.length < m → textsF n l = textsF m l := by
  induction n with
  | zero => intro _ _ h _; exact absurd h (by omega)
  | succ n ih =>
    intro m l h1 h2
    rcases m with _ | m
    · exact absurd h2 (by omega)
    rcases l with _ | ⟨b, r⟩
    · rfl
    · simp only [List.length_cons] at h1 h2
      simp only [textsF]
      rw [ih m (r.drop b.toNat) (by simp; omega) (by simp; omega)]
theorem textsOk_nil : textsOk [] = false := rfl
theorem textsOk_cons (b : UInt8) (r : List UInt8) : textsOk (b :: r) = if r.length < b.toNat then false else if r.length = b.toNat then true else textsOk (r.drop b.toNat) := by
  unfold textsOk
  conv => lhs; unfold textsF
  rw [textsF_fuel (b :: r).length ((r.drop b.toNat).length + 1) (r.drop b.toNat) (by simp; omega) (by omega)]

def runChk (c : Chk) (msg : List UInt8) (pos : Nat) : Pc × Nat :=
  match c.kind with
  | 0 => if msg.length - pos < c.n then (Pc.zero, 4) else (⟨(msg.drop pos).take c.n, false, pos + c.n⟩, 0)
  | 1 => if (readN msg pos).2.2 ≠ 0 then (Pc.zero, (readN msg pos).2.2) else (⟨(readN msg pos).1, true, (readN msg pos).2.1⟩, 0)
  | 2 => if textsOk (msg.drop pos) then (⟨msg.drop pos, false, msg.length⟩, 0) else (Pc.zero, 4)
  | _ => (⟨msg.drop pos, false, msg.length⟩, 0)

def checksOf (kind : Int) : List Chk :=
  if kind = 1 then [⟨0, 4⟩]
  else if kind = 28 then [⟨0, 16⟩]
  else if kind = 2 ∨ kind = 5 ∨ kind = 12 then [⟨1, 0⟩]
  else if kind = 15 then [⟨0, 2⟩, ⟨1, 0⟩]
  else if kind = 6 then [⟨1, 0⟩, ⟨1, 0⟩, ⟨0, 20⟩]
  else if kind = 33 then [⟨0, 6⟩, ⟨1, 0⟩]
  else if kind = 16 then [⟨2, 0⟩]
  else [⟨3, 0⟩]

def splitL : List Chk → List UInt8 → Nat → List Pc × Nat
  | [], msg, pos => if pos < msg.length then ([], 3) else ([], 0)
  | c :: cs, msg, pos =>
    if (runChk c msg pos).2 ≠ 0 then ([], (runChk c msg pos).2)
    else if (splitL cs msg (runChk c msg pos).1.next).2 ≠ 0 then ([], (splitL cs msg (runChk c msg pos).1.next).2)
    else ((runChk c msg pos).1 :: (splitL cs msg (runChk c msg pos).1.next).1, 0)
def splitOf (msg : List UInt8) (pos : Nat) (kind : Int) : List Pc × Nat := if kind = 41 then ([], 3) else splitL (checksOf kind) msg pos

def textOf (l : List Pc) : List UInt8 := l.flatMap Pc.text
/-- The parts of whole data. -/
def wholeOf (kind : Int) (data : List UInt8) : Option (List Pc) :=
  if (splitOf data 0 kind).2 = 0 ∧ textOf (splitOf data 0 kind).1 = data then some (splitOf data 0 kind).1 else none
def rmay (kind : Int) (data : List UInt8) : Bool := (wholeOf kind data).isSome
def partsOf (kind : Int) (data : List UInt8) : List Pc := (wholeOf kind data).getD []
def rnames (kind : Int) (data : List UInt8) : List (List UInt8) := ((partsOf kind data).filter Pc.nm).map Pc.text
def rfold (kind : Int) (data : List UInt8) : List UInt8 := (partsOf kind data).flatMap fun p => if p.nm then fold p.text else p.text
end Go.Proofs.YthdlgmfeicikpaaGreatDoor
