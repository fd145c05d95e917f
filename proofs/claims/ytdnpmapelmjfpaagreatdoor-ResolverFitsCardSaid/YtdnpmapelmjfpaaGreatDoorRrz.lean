/- Contracts of functions and plain lemmas that the proofs of this seat share (joined texts). No condition. -/
import Derived.Test.YtdnpmapelmjfpaaGreatDoorRwp
import Derived.Test.YtdnpmapelmjfpaaGreatDoorRg
import Derived.Test.YtdnpmapelmjfpaaGreatDoorRry
import Derived.Test.YtdnpmapelmjfpaaGreatDoorRd
import Derived.Test.YtdnpmapelmjfpaaGreatDoorRht
import Derived.Deep.RegionHeld3
import Derived.OpenShut
namespace Go.Proofs.YtdnpmapelmjfpaaGreatDoor
set_option linter.unusedSimpArgs false
set_option linter.unusedVariables false
def recsT (l : List SetD) (ttl : Int) : List RecD := l.flatMap fun s => s.data.map fun d => ⟨s.name, s.typ, s.cls, ttl, d⟩
def fullOf (c : CameD) (code : Int) (sets soa : List SetD) (ttl size : Int) : MsgD := { blankOf c code size with ans := recsT sets ttl, auth := recsT soa ttl }
def roomy (c : CameD) (code : Int) (sets soa : List SetD) (ttl size : Int) : Prop := encErr (fullOf c code sets soa ttl size) = 0 ∧ ((bodyW (fullOf c code sets soa ttl size)).1.length : Int) ≤ roomOf c size
instance (c : CameD) (code : Int) (sets soa : List SetD) (ttl size : Int) : Decidable (roomy c code sets soa ttl size) := inferInstanceAs (Decidable (_ ∧ _))
def ansMay (c : CameD) (code : Int) (sets soa : List SetD) (ttl size : Int) : Prop := c.kind = 3 ∧ (512 ≤ size ∧ size ≤ 4096) ∧ (code = 0 ∨ code = 3) ∧ ttl ≤ 2147483647
instance (c : CameD) (code : Int) (sets soa : List SetD) (ttl size : Int) : Decidable (ansMay c code sets soa ttl size) := inferInstanceAs (Decidable (_ ∧ _))
theorem may_err {m : MsgD} (h : mayM m = true) : encErr m = 0 ∨ encErr m = 5 := by
  unfold encErr; rw [if_pos h]; split <;> simp
def SetD.wfT (s : SetD) : Prop := (0 ≤ s.typ ∧ s.typ ≤ 65535) ∧ (0 ≤ s.cls ∧ s.cls ≤ 65535)
end Go.Proofs.YtdnpmapelmjfpaaGreatDoor
namespace Go.Proofs.YtdnpmapelmjfpaaGreatDoor
set_option linter.unusedSimpArgs false
set_option linter.unusedVariables false
open Go.RowKit
set_option maxRecDepth 100000
def StrPost (s : List UInt8) (w : World) (e : Ending) (w' : World) : Prop := e = .returned (S s) ∧ Ext w w'
def AnsBd (l : List SetD) : Prop := l.length ≤ 1048576 ∧ ∀ s ∈ l, s.data.length ≤ 1048576
structure SetsOk7 (l : List SetD) : Prop where
  len : l.length ≤ 1048576
  bd : ∀ s ∈ l, s.name.length ≤ 1048576 ∧ s.data.length ≤ 65536 ∧ ∀ d ∈ s.data, d.length ≤ 1048576
  wf : ∀ s ∈ l, s.wfT
theorem SetsOk7.ans {l : List SetD} (h : SetsOk7 l) : AnsBd l := ⟨h.len, fun s hs => Nat.le_trans (h.bd s hs).2.1 (by omega)⟩
def SmS (s : SetD) : Prop := s.name.length ≤ 400 ∧ s.data.length ≤ 400 ∧ ∀ d ∈ s.data, d.length ≤ 5000
def SmL (l : List SetD) : Prop := l.length ≤ 40 ∧ ∀ s ∈ l, SmS s
theorem SmL.ok {l : List SetD} (h : SmL l) (hw : ∀ s ∈ l, s.wfT) : SetsOk7 l :=
  ⟨Nat.le_trans h.1 (by omega), fun s hs => ⟨Nat.le_trans (h.2 s hs).1 (by omega), Nat.le_trans (h.2 s hs).2.1 (by omega), fun d hd => Nat.le_trans ((h.2 s hs).2.2 d hd) (by omega)⟩, hw⟩
end Go.Proofs.YtdnpmapelmjfpaaGreatDoor
