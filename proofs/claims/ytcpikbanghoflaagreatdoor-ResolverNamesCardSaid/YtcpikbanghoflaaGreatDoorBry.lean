/- Contracts of functions and plain lemmas that the proofs of this seat share (joined texts). No condition. -/
import Derived.Test.YtcpikbanghoflaaGreatDoorBrx
import Derived.Test.YtcpikbanghoflaaGreatDoorBwp
namespace Go.Proofs.YtcpikbanghoflaaGreatDoor
set_option linter.unusedSimpArgs false
set_option linter.unusedVariables false
open Go.RowKit
set_option maxRecDepth 100000

abbrev quV (q : QD) : Value := .agg #[S q.name, .int .u16 q.typ, .int .u16 q.cls]
/-- The cells of what came. -/
abbrev caRow (kind code : Int) (h : HdD) (hasQ : Bool) (q : QD) (hasE : Bool) (size : Int) : Array Value :=
  #[.int .u8 kind, .int .i64 code, .int .u16 h.id, .bool h.qr, .int .u8 h.op, .bool h.aa, .bool h.tc, .bool h.rd, .bool h.ra, .bool h.z, .bool h.ad, .bool h.cd, .int .u8 h.code, .bool hasQ, S q.name, .int .u16 q.typ, .int .u16 q.cls, .bool hasE, .int .i64 size]
abbrev caV (c : CameD) : Value := .agg (caRow c.kind c.code c.hd c.hasQ c.q c.hasE c.size)
abbrev toRow (code : Int) (h : HdD) (hasQ : Bool) (q : QD) (hasE : Bool) (size k : Int) : Array Value :=
  #[.int .u8 0, .int .i64 0, .int .u16 h.id, .bool h.qr, .int .u8 h.op, .bool h.aa, .bool h.tc, .bool h.rd, .bool h.ra, .bool h.z, .bool h.ad, .bool h.cd, .int .u8 h.code, .bool hasQ, S q.name, .int .u16 q.typ, .int .u16 q.cls, .bool hasE, .int .i64 size, .int .i64 k]
theorem alloc_setRow7 (w : World) (zs cs : Array Value) (t : TypeId) (g : Nat) (hg : g = w.heap.size) : (w.alloc (.cells zs t)).setRow g cs = w.alloc (.cells cs t) := by
  subst hg
  unfold World.setRow World.alloc
  simp only
  congr 1
  apply Array.ext_getElem?
  intro i
  simp only [Array.getElem?_modify, Array.getElem?_push]
  by_cases h : i = w.heap.size
  · subst h; simp
  · rw [if_neg (fun e => h e.symm), if_neg h, if_neg h]
end Go.Proofs.YtcpikbanghoflaaGreatDoor
namespace Go.Proofs.YtcpikbanghoflaaGreatDoor
set_option linter.unusedSimpArgs false
set_option linter.unusedVariables false
open Go.RowKit
set_option maxRecDepth 100000

abbrev toldZ : Array Value := toRow 0 hdNone false qNone false 0 0
abbrev cameZ : Array Value := caRow 0 0 hdNone false qNone false 0
theorem look_drop {d : List UInt8} (h : (lookOf d).kind = 1) : lookOf d = cameDrop := by
  unfold lookOf at h ⊢
  split
  · rfl
  · rename_i h1
    rw [if_neg h1] at h
    split
    · rfl
    · rename_i h2
      rw [if_neg h2] at h
      split
      · rename_i h3; rw [if_pos h3] at h; cases h
      · rename_i h3
        rw [if_neg h3] at h
        cases hm : decR d with
        | error e => rw [hm] at h; cases h
        | ok m =>
          rw [hm] at h
          dsimp only at h ⊢
          unfold lookM at h
          split at h
          · split at h
            · cases h
            · split at h <;> cases h
          · cases h
theorem look_asks {d : List UInt8} (h : (lookOf d).kind = 3) : (lookOf d).code = 0 := by
  unfold lookOf at h ⊢
  split
  · rename_i h1; rw [if_pos h1] at h; cases h
  · rename_i h1
    rw [if_neg h1] at h
    split
    · rename_i h2; rw [if_pos h2] at h; cases h
    · rename_i h2
      rw [if_neg h2] at h
      split
      · rename_i h3; rw [if_pos h3] at h; cases h
      · rename_i h3
        rw [if_neg h3] at h
        cases hm : decR d with
        | error e => rw [hm] at h; cases h
        | ok m =>
          rw [hm] at h
          dsimp only at h ⊢
          unfold lookM at h ⊢
          split
          · rename_i q hq
            rw [hq] at h
            dsimp only at h
            split
            · rename_i h4; rw [if_pos h4] at h; cases h
            · rename_i h4
              rw [if_neg h4] at h
              split
              · rename_i h5; rw [if_pos h5] at h; cases h
              · rfl
          · rename_i hne
            exfalso
            split at h
            · rename_i q hq; exact hne q hq
            · cases h
section
variable (V : World) (h : HdD) (hasQ hasE : Bool) (q : QD) (size k : Int)
end
end Go.Proofs.YtcpikbanghoflaaGreatDoor
namespace Go.Proofs.YtcpikbanghoflaaGreatDoor
set_option linter.unusedSimpArgs false
set_option linter.unusedVariables false
open Go.RowKit
set_option maxRecDepth 100000

theorem and_mask (n k : Nat) : n &&& (2 ^ k - 1) = n % 2 ^ k := Nat.and_two_pow_sub_one_eq_mod n k
theorem i64_and_nat7 (a b : Nat) (ha : a < 9223372036854775808) (hb : b < 9223372036854775808) : bits .and .i64 (a : Int) (b : Int) = ((a &&& b : Nat) : Int) := by
  have hx : a &&& b < 2 ^ 63 := Nat.and_lt_two_pow a (by omega)
  show IntKind.i64.wrap ((BitVec.ofInt 64 (a : Int) &&& BitVec.ofInt 64 (b : Int)).toNat : Int) = _
  rw [BitVec.toNat_and, ofInt_u64 a (by omega), ofInt_u64 b (by omega)]
  exact IntWalk.i64_in _ (by omega)
/-- What intake.Blank answers. -/
def BlPost (m : MsgD) (w : World) (e : Ending) (w' : World) : Prop := ∃ q, e = .returned (msg7V m.hd q (.slice none 0 0) (.slice none 0 0) (.slice none 0 0) m.he m.ed (.slice none 0 0)) ∧ Qus w' 0 q m.qs ∧ Ext w w'
end Go.Proofs.YtcpikbanghoflaaGreatDoor
