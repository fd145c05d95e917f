/- Plain: reading a name out of a message, pointers followed (layer 4). No condition. -/
import Derived.Test.YthdlgmfeicikpaaGreatDoorBase
namespace Go.Proofs.YthdlgmfeicikpaaGreatDoor
set_option linter.unusedSimpArgs false
set_option linter.unusedVariables false

/-- A reading: where, the limit of pointers, the offset behind the name if a pointer was met, the bytes so far. -/
structure RdSt where
  pos : Nat
  lim : Nat
  nx : Option Nat
  out : List UInt8

def readF (msg : List UInt8) : Nat → RdSt → List UInt8 × Nat × Nat
  | 0, _ => ([], 0, 0)
  | n + 1, s =>
    match msg[s.pos]? with
    | none => ([], 0, 4)
    | some b =>
      if b = 0 then (s.out ++ [0], s.nx.getD (s.pos + 1), 0)
      else if b.toNat < 64 then
        if msg.length < s.pos + 1 + b.toNat then ([], 0, 4)
        else if 255 < s.out.length + 1 + b.toNat + 1 then ([], 0, 5)
        else readF msg n ⟨s.pos + 1 + b.toNat, s.lim, s.nx, s.out ++ b :: (msg.drop (s.pos + 1)).take b.toNat⟩
      else if b.toNat < 192 then ([], 0, 3)
      else match msg[s.pos + 1]? with
        | none => ([], 0, 4)
        | some c =>
          if s.lim ≤ (b.toNat - 192) * 256 + c.toNat then ([], 0, 8)
          else readF msg n ⟨(b.toNat - 192) * 256 + c.toNat, (b.toNat - 192) * 256 + c.toNat, some (s.nx.getD (s.pos + 2)), s.out⟩

def RdSt.meas (s : RdSt) : Nat := s.lim * 300 + (256 - s.out.length)

set_option maxRecDepth 10000 in
theorem meas_jump {lim len to n : Nat} (h : ¬ lim ≤ to) (h1 : lim * 300 + (256 - len) < n + 1) : to * 300 + (256 - len) < n := by omega
theorem readF_fuel (msg : List UInt8) (n : Nat) : ∀ (m : Nat) (s : RdSt), s.meas < n → s.meas < m → readF msg n s = readF msg m s := by
  induction n with
  | zero => intro _ _ h _; exact absurd h (by omega)
  | succ n ih =>
    intro m s h1 h2
    rcases m with _ | m
    · exact absurd h2 (by omega)
    simp only [readF]
    split
    · rfl
    · rename_i b hb
      split
      · rfl
      · split
        · split
          · rfl
          · split
            · rfl
            · rename_i h0 hb64 hl h255
              have hlen : ((msg.drop (s.pos + 1)).take b.toNat).length = b.toNat := by simp; omega
              have hb1 : 0 < b.toNat := Nat.pos_of_ne_zero (fun e => h0 (UInt8.toNat_inj.1 (by simpa using e)))
              refine ih m _ ?_ ?_ <;> (simp only [RdSt.meas, List.length_append, List.length_cons, hlen] at *; omega)
        · split
          · rfl
          · split
            · rfl
            · split
              · rfl
              · rename_i h4
                generalize (b.toNat - 192) * 256 + _ = to at h4 ⊢
                exact ih m _ (meas_jump h4 h1) (meas_jump h4 h2)

/-- The reading that starts in a state. -/
def readS (msg : List UInt8) (s : RdSt) : List UInt8 × Nat × Nat := readF msg (s.meas + 1) s
/-- The name at an offset, the offset behind it, the error's number. -/
def readN (msg : List UInt8) (pos : Nat) : List UInt8 × Nat × Nat := readS msg ⟨pos, pos, none, []⟩

section
variable (msg : List UInt8) (s : RdSt)
theorem readS_end (h : msg[s.pos]? = none) : readS msg s = ([], 0, 4) := by unfold readS readF; rw [h]
theorem readS_zero (h : msg[s.pos]? = some 0) : readS msg s = (s.out ++ [0], s.nx.getD (s.pos + 1), 0) := by unfold readS readF; rw [h]; rfl
variable (b : UInt8)
theorem b_ne (h0 : b.toNat ≠ 0) (e : b = 0) : False := h0 (by rw [e]; rfl)
variable (h : msg[s.pos]? = some b) (h0 : b.toNat ≠ 0)
include h h0
theorem readS_short (h1 : b.toNat < 64) (h2 : msg.length < s.pos + 1 + b.toNat) : readS msg s = ([], 0, 4) := by
  unfold readS readF; simp only [h]; rw [if_neg (b_ne b h0), if_pos h1, if_pos h2]
theorem readS_long (h1 : b.toNat < 64) (h2 : ¬ msg.length < s.pos + 1 + b.toNat) (h3 : 255 < s.out.length + 1 + b.toNat + 1) : readS msg s = ([], 0, 5) := by
  unfold readS readF; simp only [h]; rw [if_neg (b_ne b h0), if_pos h1, if_neg h2, if_pos h3]
theorem readS_label (h1 : b.toNat < 64) (h2 : ¬ msg.length < s.pos + 1 + b.toNat) (h3 : ¬ 255 < s.out.length + 1 + b.toNat + 1) :
    readS msg s = readS msg ⟨s.pos + 1 + b.toNat, s.lim, s.nx, s.out ++ b :: (msg.drop (s.pos + 1)).take b.toNat⟩ := by
  have hlen : ((msg.drop (s.pos + 1)).take b.toNat).length = b.toNat := by simp; omega
  unfold readS
  conv => lhs; unfold readF
  simp only [h]
  rw [if_neg (b_ne b h0), if_pos h1, if_neg h2, if_neg h3]
  refine readF_fuel msg _ _ _ ?_ ?_ <;> (simp only [RdSt.meas, List.length_append, List.length_cons, hlen] at *; omega)
theorem readS_form (h1 : ¬ b.toNat < 64) (h2 : b.toNat < 192) : readS msg s = ([], 0, 3) := by
  unfold readS readF; simp only [h]; rw [if_neg (b_ne b h0), if_neg h1, if_pos h2]
theorem readS_cut (h1 : ¬ b.toNat < 192) (h2 : msg[s.pos + 1]? = none) : readS msg s = ([], 0, 4) := by
  unfold readS readF; simp only [h]; rw [if_neg (b_ne b h0), if_neg (by omega), if_neg h1, h2]
theorem readS_loop (h1 : ¬ b.toNat < 192) (c : UInt8) (h2 : msg[s.pos + 1]? = some c) (h3 : s.lim ≤ (b.toNat - 192) * 256 + c.toNat) : readS msg s = ([], 0, 8) := by
  unfold readS readF; simp only [h]; rw [if_neg (b_ne b h0), if_neg (by omega), if_neg h1, h2]; simp only; rw [if_pos h3]
theorem readS_jump (h1 : ¬ b.toNat < 192) (c : UInt8) (h2 : msg[s.pos + 1]? = some c) (h3 : ¬ s.lim ≤ (b.toNat - 192) * 256 + c.toNat) :
    readS msg s = readS msg ⟨(b.toNat - 192) * 256 + c.toNat, (b.toNat - 192) * 256 + c.toNat, some (s.nx.getD (s.pos + 2)), s.out⟩ := by
  unfold readS
  conv => lhs; unfold readF
  simp only [h]
  rw [if_neg (b_ne b h0), if_neg (by omega), if_neg h1, h2]
  simp only
  rw [if_neg h3]
  generalize (b.toNat - 192) * 256 + c.toNat = to at h3 ⊢
  exact readF_fuel msg _ _ _ (meas_jump h3 (Nat.lt_succ_self _)) (Nat.lt_succ_self _)
end
end Go.Proofs.YthdlgmfeicikpaaGreatDoor
