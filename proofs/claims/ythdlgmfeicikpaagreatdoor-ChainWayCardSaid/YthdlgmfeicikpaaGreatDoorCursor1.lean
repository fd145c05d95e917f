/- The walks of package cursor: New, At, Seek, take, number, value, Byte, Take. -/
import Derived.Test.YthdlgmfeicikpaaGreatDoorAs
import Derived.Test.YthdlgmfeicikpaaGreatDoorBase
namespace Go.Proofs.YthdlgmfeicikpaaGreatDoor
set_option linter.unusedSimpArgs false
set_option linter.unusedVariables false
open Go.RowKit

theorem cur_new (l : List UInt8) (w : World) :
    Calls Tryz.prog 127 #[S l] w fun e w' => e = .returned (.pointer (some ⟨w.heap.size, 0, none⟩)) ∧ w' = w.alloc (.cells #[S l, .int .i64 0] 157) := by
  go_enter Tryz.func127, Tryz.ntmps127
  go_wp2
  go_ret
  exact ⟨rfl, rfl⟩

theorem cur_at (b : Nat) (n : Int) (w : World) (h1 : w.cell? ⟨b, 1, none⟩ = some (.int .i64 n)) :
    Calls Tryz.prog 130 #[.pointer (some ⟨b, 0, none⟩)] w fun e w' => e = .returned (.int .i64 n) ∧ w = w' := by
  go_enter Tryz.func130, Tryz.ntmps130
  go_wp2
  go_ret
  exact ⟨rfl, rfl⟩

theorem cur_seek (b : Nat) (l : List UInt8) (n m : Int) (w : World) (hl : l.length ≤ maxLen) (h0 : w.cell? ⟨b, 0, none⟩ = some (S l)) (h1 : w.cell? ⟨b, 1, none⟩ = some (.int .i64 n)) (hf : w.frozen? ⟨b, 1, none⟩ = false)
    (hm : 0 ≤ m) (hm2 : m ≤ l.length) :
    Calls Tryz.prog 128 #[.pointer (some ⟨b, 0, none⟩), .int .i64 m] w fun e w' => e = .returned (.int .i64 0) ∧ w' = w.setCell ⟨b, 1, none⟩ (.int .i64 m) := by
  unfold maxLen at hl
  have hm3 : ¬ (l.length : Int) < m := by omega
  go_enter Tryz.func128, Tryz.ntmps128
  go_wp2
  go_ret
  exact ⟨rfl, rfl⟩

theorem cur_seek_no (b : Nat) (l : List UInt8) (m : Int) (w : World) (hl : l.length ≤ maxLen) (h0 : w.cell? ⟨b, 0, none⟩ = some (S l))
    (hm : m < 0 ∨ l.length < m) :
    Calls Tryz.prog 128 #[.pointer (some ⟨b, 0, none⟩), .int .i64 m] w fun e w' => e = .returned (.int .i64 1) ∧ w = w' := by
  unfold maxLen at hl
  rcases hm with hm | hm
  · go_enter Tryz.func128, Tryz.ntmps128
    go_wp2
    go_ret
    exact ⟨rfl, rfl⟩
  · have hm3 : 0 ≤ m := by omega
    go_enter Tryz.func128, Tryz.ntmps128
    go_wp2
    go_ret
    exact ⟨rfl, rfl⟩

/-- A failure, as an error. -/
abbrev fail (n : Int) : Value := .iface 166 (.agg #[.int .i64 n])

set_option maxRecDepth 100000 in
set_option maxHeartbeats 1000000 in
theorem cur_take (b : Nat) (l : List UInt8) (n : Nat) (m : Nat) (w : World) (hl : l.length ≤ maxLen) (h0 : w.cell? ⟨b, 0, none⟩ = some (S l)) (h1 : w.cell? ⟨b, 1, none⟩ = some (.int .i64 n)) (hf : w.frozen? ⟨b, 1, none⟩ = false)
    (hn : n ≤ l.length) (hm : n + m ≤ l.length) :
    Calls Tryz.prog 133 #[.pointer (some ⟨b, 0, none⟩), .int .i64 m] w fun e w' => e = .returned (.tuple #[S ((l.drop n).take m), .nilIface]) ∧ ∃ q, w' = (w.drewN q).setCell ⟨b, 1, none⟩ (.int .i64 ((n : Int) + m)) := by
  unfold maxLen at hl
  have h3 : (m : Int) ≤ (l.length : Int) - n := by omega
  have hs : IntKind.i64.wrap ((l.length : Int) - n) = (l.length : Int) - n := IntWalk.i64_in _ (by omega)
  have hs2 : IntKind.i64.wrap ((n : Int) + m) = (n : Int) + m := IntWalk.i64_in _ (by omega)
  have e2 : ((n : Int) + m).toNat = n + m := by omega
  have e3 : (0 : Int) ≤ (n : Int) + m := by omega
  have e4 : n + m - n = m := by omega
  go_enter Tryz.func133, Tryz.ntmps133
  go_wp2
  go_quiet (fail)
  go_wp2
  go_quiet (fail)
  go_wp2
  go_ret2
  exact ⟨rfl, _, rfl⟩

set_option maxRecDepth 100000 in
set_option maxHeartbeats 1000000 in
theorem cur_take_short (b : Nat) (l : List UInt8) (n : Nat) (m : Nat) (w : World) (hl : l.length ≤ maxLen) (hm2 : m ≤ maxLen) (h0 : w.cell? ⟨b, 0, none⟩ = some (S l)) (h1 : w.cell? ⟨b, 1, none⟩ = some (.int .i64 n))
    (hn : n ≤ l.length) (hm : l.length < n + m) :
    Calls Tryz.prog 133 #[.pointer (some ⟨b, 0, none⟩), .int .i64 m] w fun e w' => e = .returned (.tuple #[S [], fail 4]) ∧ ∃ q, w' = w.drewN q := by
  unfold maxLen at hl hm2
  have h3 : (l.length : Int) - n < m := by omega
  have hs : IntKind.i64.wrap ((l.length : Int) - n) = (l.length : Int) - n := IntWalk.i64_in _ (by omega)
  go_enter Tryz.func133, Tryz.ntmps133
  go_wp2
  go_quiet (fail)
  go_wp2
  go_ret2
  exact ⟨rfl, _, rfl⟩

set_option maxRecDepth 100000 in
set_option maxHeartbeats 1000000 in
theorem cur_number_nil (w : World) : Calls Tryz.prog 134 #[.nilIface] w fun e w' => e = .returned (.int .i64 0) ∧ w = w' := by
  go_enter Tryz.func134, Tryz.ntmps134
  go_wp2
  go_ret
  exact ⟨rfl, rfl⟩

/-- What a call of this package needs of the world: errors.errorType as it starts. -/
def Laid (w : World) : Prop := w.cell? ⟨1, 0, none⟩ = some errTy
theorem Laid.lt {w : World} (h : Laid w) : 1 < w.heap.size := by
  rcases Nat.lt_or_ge 1 w.heap.size with h' | h'
  · exact h'
  · simp [Laid, World.cell?, Array.getElem?_eq_none h'] at h
theorem Laid.ext {w w' : World} (h : Laid w) (hE : Ext w w') : Laid w' := (hE.cell (p := ⟨1, 0, none⟩) h.lt).trans h
theorem Laid.drewN {w : World} (h : Laid w) (n : Nat) : Laid (w.drewN n) := h

set_option maxRecDepth 100000 in
set_option maxHeartbeats 1000000 in
theorem cur_number (n : Int) (w : World) (hg : Laid w) : Calls Tryz.prog 134 #[fail n] w fun e w' => e = .returned (.int .i64 n) ∧ Ext w w' := by
  have hg2 : (w.alloc (.cells #[.int .i64 0] 166)).cell? ⟨1, 0, none⟩ = some errTy := by
    rw [World.cell?_alloc_lt _ _ ⟨1, 0, none⟩ hg.lt]; exact hg
  have has := as_hit n ⟨w.heap.size, 0, none⟩ (.int .i64 0) (w.alloc (.cells #[.int .i64 0] 166)) hg2 (by simp) (by simp)
  have Has := Lib.hid has
  clear has hg2
  go_enter Tryz.func134, Tryz.ntmps134
  go_wp2_with (go_at_call 135; refine Has.out.mono ?_; rintro e w' ⟨rfl, rfl⟩)
  go_ret
  refine ⟨rfl, ?_⟩
  (repeat (first | with_reducible exact Ext.refl _ | with_reducible assumption | with_reducible refine Ext.alloc ?_ _ | with_reducible refine Ext.drewN ?_ _ | with_reducible refine Ext.drew ?_ | (with_reducible refine Ext.setCell ?_ ?hp _; case hp => (simp <;> omega))))

theorem u32_step (x : Nat) (c : UInt8) (hx : x < 16777216) : bits BinOp.or IntKind.u32 ((x : Int) * 256) (c.toNat : Int) = ((x * 256 + c.toNat : Nat) : Int) := by
  have hc := c.toNat_lt
  have := u32_or_nat (x * 256) c.toNat (by omega) (by omega)
  rw [or_low _ _ (by omega), show ((x * 256 : Nat) : Int) = (x : Int) * 256 by omega] at this
  exact this
theorem be_step (s : List UInt8) (k : Nat) (h : k < s.length) (c : UInt8) (hc : s[k] = c) : be (s.take (k + 1)) = be (s.take k) * 256 + c.toNat := by rw [take_snoc s k h, be_snoc, hc]
theorem be_take_lt (s : List UInt8) (k : Nat) (hs : s.length ≤ 4) (h : k < s.length) : be (s.take k) < 16777216 := by
  have h1 := be_lt (s.take k)
  have h2 : (s.take k).length ≤ 3 := by simp; omega
  have h3 : 256 ^ (s.take k).length ≤ 256 ^ 3 := Nat.pow_le_pow_right (by omega) h2
  have h4 : (256 : Nat) ^ 3 = 16777216 := by decide
  omega

set_option maxRecDepth 100000 in
set_option maxHeartbeats 1000000 in
theorem cur_value (b : Nat) (l : List UInt8) (n : Nat) (m : Nat) (w : World) (hl : l.length ≤ maxLen) (h0 : w.cell? ⟨b, 0, none⟩ = some (S l)) (h1 : w.cell? ⟨b, 1, none⟩ = some (.int .i64 n)) (hf : w.frozen? ⟨b, 1, none⟩ = false)
    (hn : n ≤ l.length) (hm : n + m ≤ l.length) (hm4 : m ≤ 4) :
    Calls Tryz.prog 132 #[.pointer (some ⟨b, 0, none⟩), .int .i64 m] w fun e w' => e = .returned (.tuple #[.int .u32 (be ((l.drop n).take m)), .int .i64 0]) ∧ ∃ q, w' = (w.drewN q).setCell ⟨b, 1, none⟩ (.int .i64 ((n : Int) + m)) := by
  have Ht := Lib.hid (cur_take b l n m w hl h0 h1 hf hn hm)
  unfold maxLen at hl
  have hlen : ((l.drop n).take m).length = m := by simp; omega
  generalize (l.drop n).take m = s at *
  have hs : s.length ≤ 4 := by omega
  have Hs := Lib.hid hlen
  clear hlen
  go_enter Tryz.func132, Tryz.ntmps132
  go_wp2_with (go_at_call 133; refine Ht.out.mono ?_; rintro e w' ⟨rfl, q, rfl⟩)
  go_loop [8, 9] (fun v i => ∃ k : Nat, k ≤ s.length ∧ i = .int .i64 k ∧ v = .int .u32 (be (s.take k))) (fun _ i => s.length - (intOf i).toNat)
  case atStart => exact ⟨0, by omega, rfl, rfl⟩
  case round =>
    obtain ⟨k, hk, rfl, rfl⟩ := hrel
    by_cases hlt : k < s.length
    · obtain ⟨c, Hb, hget, hwb, hbd⟩ := byte_at s k hlt
      have Hst := Lib.hid (be_step s k hlt c Hb.out)
      have hx := be_take_lt s k hs hlt
      generalize be (s.take k) = x at *
      have Hu := Lib.hid (u32_step x c hx)
      go_wp2
      go_round
      case rel => exact ⟨k + 1, by omega, by go_num, by rw [Hst.out, Hu.out]⟩
      case measure => simp [intOf]; omega
    · have e1 : s.take k = s := List.take_of_length_le (by omega)
      rw [e1]
      clear e1
      go_wp2
      go_ret2
      exact ⟨rfl, _, rfl⟩

set_option maxRecDepth 100000 in
set_option maxHeartbeats 1000000 in
theorem cur_value_short (b : Nat) (l : List UInt8) (n : Nat) (m : Nat) (w : World) (hg : Laid w) (hl : l.length ≤ maxLen) (h0 : w.cell? ⟨b, 0, none⟩ = some (S l)) (h1 : w.cell? ⟨b, 1, none⟩ = some (.int .i64 n))
    (hn : n ≤ l.length) (hm : l.length < n + m) (hm4 : m ≤ 4) :
    Calls Tryz.prog 132 #[.pointer (some ⟨b, 0, none⟩), .int .i64 m] w fun e w' => e = .returned (.tuple #[.int .u32 0, .int .i64 4]) ∧ Ext w w' := by
  have Ht := Lib.hid (cur_take_short b l n m w hl (by unfold maxLen; omega) h0 h1 hn hm)
  clear h0 h1 hn hm hl
  go_enter Tryz.func132, Tryz.ntmps132
  go_wp2_with (first | (go_at_call 133; refine Ht.out.mono ?_; rintro e w' ⟨rfl, q, rfl⟩) | (go_at_call 134; refine (cur_number _ _ (hg.drewN _)).mono ?_; rintro e w2 ⟨rfl, hE⟩))
  go_ret2
  exact ⟨rfl, hE.of_drewN _⟩

set_option maxRecDepth 100000 in
set_option maxHeartbeats 1000000 in
theorem cur_byte (b : Nat) (l : List UInt8) (n : Nat) (w : World) (hl : l.length ≤ maxLen) (h0 : w.cell? ⟨b, 0, none⟩ = some (S l)) (h1 : w.cell? ⟨b, 1, none⟩ = some (.int .i64 n)) (hf : w.frozen? ⟨b, 1, none⟩ = false)
    (c : UInt8) (hn : n < l.length) (hc : l[n] = c) :
    Calls Tryz.prog 129 #[.pointer (some ⟨b, 0, none⟩)] w fun e w' => e = .returned (.tuple #[.int .u8 c.toNat, .int .i64 0]) ∧ ∃ q, w' = (w.drewN q).setCell ⟨b, 1, none⟩ (.int .i64 ((n : Int) + 1)) := by
  have hv := cur_value b l n 1 w hl h0 h1 hf (by omega) (by omega) (by omega)
  have e1 : (l.drop n).take 1 = [c] := by rw [drop_cons l n hn, hc]; rfl
  have e2 : be [c] = c.toNat := by simp [be]
  rw [e1, e2] at hv
  have Hv := Lib.hid hv
  have hcb : (c.toNat : Int) ≤ 255 := by have := c.toNat_lt; omega
  clear hv e1 e2 hl h0 h1 hf hc
  go_enter Tryz.func129, Tryz.ntmps129
  go_wp2_with (go_at_call 132; refine Hv.out.mono ?_; rintro e w' ⟨rfl, q, rfl⟩)
  go_ret2
  exact ⟨rfl, _, rfl⟩

set_option maxRecDepth 100000 in
set_option maxHeartbeats 1000000 in
theorem cur_byte_short (b : Nat) (l : List UInt8) (n : Nat) (w : World) (hg : Laid w) (hl : l.length ≤ maxLen) (h0 : w.cell? ⟨b, 0, none⟩ = some (S l)) (h1 : w.cell? ⟨b, 1, none⟩ = some (.int .i64 n)) (hn : n = l.length) :
    Calls Tryz.prog 129 #[.pointer (some ⟨b, 0, none⟩)] w fun e w' => e = .returned (.tuple #[.int .u8 0, .int .i64 4]) ∧ Ext w w' := by
  have Hv := Lib.hid (cur_value_short b l n 1 w hg hl h0 h1 (by omega) (by omega) (by omega))
  clear hg hl h0 h1 hn
  go_enter Tryz.func129, Tryz.ntmps129
  go_wp2_with (go_at_call 132; refine Hv.out.mono ?_; rintro e w' ⟨rfl, hE⟩)
  go_ret2
  exact ⟨rfl, hE⟩

set_option maxRecDepth 100000 in
set_option maxHeartbeats 1000000 in
theorem cur_Take (b : Nat) (l : List UInt8) (n : Nat) (m : Nat) (w : World) (hl : l.length ≤ maxLen) (h0 : w.cell? ⟨b, 0, none⟩ = some (S l)) (h1 : w.cell? ⟨b, 1, none⟩ = some (.int .i64 n)) (hf : w.frozen? ⟨b, 1, none⟩ = false)
    (hn : n ≤ l.length) (hm : n + m ≤ l.length) :
    Calls Tryz.prog 131 #[.pointer (some ⟨b, 0, none⟩), .int .i64 m] w fun e w' => e = .returned (.tuple #[S ((l.drop n).take m), .int .i64 0]) ∧ ∃ q, w' = (w.drewN q).setCell ⟨b, 1, none⟩ (.int .i64 ((n : Int) + m)) := by
  have Ht := Lib.hid (cur_take b l n m w hl h0 h1 hf hn hm)
  clear hl h0 h1 hf hn hm
  go_enter Tryz.func131, Tryz.ntmps131
  go_wp2_with (first | (go_at_call 133; refine Ht.out.mono ?_; rintro e w' ⟨rfl, q, rfl⟩) | (go_at_call 134; refine (cur_number_nil _).mono ?_; rintro e w2 ⟨rfl, rfl⟩))
  go_ret2
  exact ⟨rfl, _, rfl⟩

set_option maxRecDepth 100000 in
set_option maxHeartbeats 1000000 in
theorem cur_Take_short (b : Nat) (l : List UInt8) (n : Nat) (m : Nat) (w : World) (hg : Laid w) (hl : l.length ≤ maxLen) (hm2 : m ≤ maxLen) (h0 : w.cell? ⟨b, 0, none⟩ = some (S l)) (h1 : w.cell? ⟨b, 1, none⟩ = some (.int .i64 n))
    (hn : n ≤ l.length) (hm : l.length < n + m) :
    Calls Tryz.prog 131 #[.pointer (some ⟨b, 0, none⟩), .int .i64 m] w fun e w' => e = .returned (.tuple #[S [], .int .i64 4]) ∧ Ext w w' := by
  have Ht := Lib.hid (cur_take_short b l n m w hl hm2 h0 h1 hn hm)
  clear hl h0 h1 hn hm
  go_enter Tryz.func131, Tryz.ntmps131
  go_wp2_with (first | (go_at_call 133; refine Ht.out.mono ?_; rintro e w' ⟨rfl, q, rfl⟩) | (go_at_call 134; refine (cur_number _ _ (hg.drewN _)).mono ?_; rintro e w2 ⟨rfl, hE⟩))
  go_ret2
  exact ⟨rfl, hE.of_drewN _⟩
end Go.Proofs.YthdlgmfeicikpaaGreatDoor
