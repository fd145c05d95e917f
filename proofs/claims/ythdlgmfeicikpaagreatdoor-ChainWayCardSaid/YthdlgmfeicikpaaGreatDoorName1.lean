/- The walks of package name: May, lower, Fold, Same. -/
import Derived.Test.YthdlgmfeicikpaaGreatDoorBase
namespace Go.Proofs.YthdlgmfeicikpaaGreatDoor
set_option linter.unusedSimpArgs false
set_option linter.unusedVariables false
open Go.RowKit

theorem parse_some_step (l : List UInt8) (k : Nat) (h : k < l.length) (b : UInt8) (hb : l[k] = b) (h0 : ((b.toNat : Int) == 0) = false) (h1 : (b.toNat : Int) ≤ 63) :
    (parse (l.drop k)).isSome = (parse (l.drop (k + (1 + b.toNat)))).isSome := by
  rw [drop_cons l k h, hb, parse_cons, if_neg (fun e => by rw [e] at h0; simp at h0), if_neg (by omega), Option.isSome_map, List.drop_drop]
  congr 3; omega
theorem parse_zero (l : List UInt8) (k : Nat) (h : k < l.length) (b : UInt8) (hb : l[k] = b) (h0 : ((b.toNat : Int) == 0) = true) : (parse (l.drop k)).isSome = ((k : Int) == (l.length : Int) - 1) := by
  have hz : b = 0 := UInt8.toNat_inj.1 (by simpa using h0)
  rw [drop_cons l k h, hb, parse_cons, if_pos hz]
  by_cases e : k = l.length - 1
  · have : l.drop (k + 1) = [] := List.drop_of_length_le (by omega)
    rw [this]; simp; omega
  · have : l.drop (k + 1) ≠ [] := by simp; omega
    rw [if_neg this]; simp; omega
theorem parse_big (l : List UInt8) (k : Nat) (h : k < l.length) (b : UInt8) (hb : l[k] = b) (h1 : 63 < (b.toNat : Int)) : (parse (l.drop k)).isSome = false := by
  rw [drop_cons l k h, hb, parse_cons, if_neg (fun e => by rw [e] at h1; simp at h1), if_pos (by omega)]; rfl
theorem parse_end (l : List UInt8) (k : Nat) (h : ¬ k < l.length) : (parse (l.drop k)).isSome = false := by
  rw [List.drop_of_length_le (by omega)]; rfl
theorem may_of_parse {l : List UInt8} {b : Bool} (hl : l.length ≤ 255) (h : (parse l).isSome = b) : may l = b := by
  unfold may labelsOf; rw [if_pos hl]; exact h

set_option maxHeartbeats 400000 in
theorem name_may_in (l : List UInt8) (w : World) (h0 : 0 < l.length) (hl : l.length ≤ 255) :
    Calls Tryz.prog 42 #[S l] w fun e w' => e = .returned (.bool (may l)) ∧ w = w' := by
  have h1 : ((l.length : Int) == 0) = false := by simp; intro h; subst h; simp at h0
  go_enter Tryz.func42, Tryz.ntmps42
  go_wp2
  go_loop [3, 4] (fun at_ sz => ∃ k : Nat, k ≤ 400 ∧ at_ = .int .i64 k ∧ (parse l).isSome = (parse (l.drop k)).isSome) (fun at_ _ => 400 - (intOf at_).toNat)
  case atStart => exact ⟨0, by omega, rfl, rfl⟩
  case round =>
    obtain ⟨k, hk, rfl, hm⟩ := hrel
    have Hm := Lib.hid hm
    clear hm
    by_cases hlt : k < l.length
    · obtain ⟨b, Hb, hget, hwb, hbd⟩ := byte_at l k hlt
      go_wp2
      · go_ret
        exact ⟨ret_bool (may_of_parse hl (by rw [Hm.out]; exact parse_zero l k hlt b Hb ‹_›)).symm, rfl⟩
      · go_ret
        exact ⟨ret_bool (may_of_parse hl (by rw [Hm.out]; exact parse_big l k hlt b Hb ‹_›)).symm, rfl⟩
      · go_round
        case rel => exact ⟨k + (1 + b.toNat), by omega, by go_num, by rw [Hm.out]; exact parse_some_step l k hlt b Hb ‹_› ‹_›⟩
        case measure => simp [intOf]; omega
    · go_wp2
      go_ret
      exact ⟨ret_bool (may_of_parse hl (by rw [Hm.out]; exact parse_end l k hlt)).symm, rfl⟩

theorem name_may (l : List UInt8) (w : World) (hl : l.length ≤ maxLen) :
    Calls Tryz.prog 42 #[S l] w fun e w' => e = .returned (.bool (may l)) ∧ w = w' := by
  by_cases h0 : l.length = 0
  · have : l = [] := List.eq_nil_of_length_eq_zero h0
    subst this
    go_enter Tryz.func42, Tryz.ntmps42
    go_wp2
    go_ret
    exact ⟨rfl, rfl⟩
  by_cases h1 : l.length ≤ 255
  · exact name_may_in l w (by omega) h1
  · have hm : may l = false := by unfold may labelsOf; rw [if_neg h1]; rfl
    rw [hm]
    unfold maxLen at hl
    have h2 : ((l.length : Int) == 0) = false := len_ne h0
    have h3 : 255 < (l.length : Int) := by omega
    clear h0 h1 hm
    go_enter Tryz.func42, Tryz.ntmps42
    go_wp2
    go_ret
    exact ⟨rfl, rfl⟩

theorem lowB_up {b : UInt8} (h1 : 65 ≤ (b.toNat : Int)) (h2 : (b.toNat : Int) ≤ 90) : (b.toNat : Int) + 32 = (lowB b).toNat := by
  unfold lowB
  rw [if_pos ⟨by omega, by omega⟩, UInt8.toNat_add]
  simp; omega
theorem lowB_no {b : UInt8} (h : ¬ (65 ≤ (b.toNat : Int) ∧ (b.toNat : Int) ≤ 90)) : lowB b = b := by
  unfold lowB
  rw [if_neg (by omega)]
/-- What is folded, k bytes far. -/
def lowTo (l : List UInt8) (k : Nat) : Nat → UInt8 := fun j => if j < k then lowB (l.getD j 0) else l.getD j 0
theorem brow_new (w : World) (l : List UInt8) (cap : Nat) (C : Array Value) (hC : bytesRow ⟨l.toArray⟩ cap = C) : BRow (w.alloc (.cells C 5 (C.size, C.size + 1))).drew w.heap.size l.length (lowTo l 0) := by
  subst hC
  intro j hj
  constructor
  · show (w.alloc _).cell? _ = _
    rw [World.cell?_alloc_mark]
    simp [bytesRow, lowTo, hj, Array.getElem?_append]
  · show (w.alloc _).frozen? _ = _
    have : (w.alloc (.cells (bytesRow ⟨l.toArray⟩ cap) 5 ((bytesRow ⟨l.toArray⟩ cap).size, (bytesRow ⟨l.toArray⟩ cap).size + 1))).heap[w.heap.size]? = some (.cells (bytesRow ⟨l.toArray⟩ cap) 5 ((bytesRow ⟨l.toArray⟩ cap).size, (bytesRow ⟨l.toArray⟩ cap).size + 1)) := heap_alloc_new w _
    simp only [World.frozen?, this]
    have hs : l.length ≤ (bytesRow ⟨l.toArray⟩ cap).size := by simp [bytesRow]
    simp; omega
theorem lowTo_step (l : List UInt8) (k : Nat) (h : k < l.length) (b : UInt8) (hb : l[k] = b) : ∀ j, lowTo l (k + 1) j = if j = k then lowB b else lowTo l k j := by
  intro j
  unfold lowTo
  by_cases e : j = k
  · subst e
    simp [h, hb]
  · rw [if_neg e]
    by_cases h1 : j < k
    · rw [if_pos h1, if_pos (by omega)]
    · rw [if_neg h1, if_neg (by omega)]

set_option maxRecDepth 100000 in
set_option maxHeartbeats 400000 in
theorem name_lower (l : List UInt8) (w : World) (hl : l.length ≤ maxLen) :
    Calls Tryz.prog 48 #[S l] w fun e w' => e = .returned (S (low l)) ∧ Ext w w' := by
  unfold maxLen at hl
  have hconv := run_bytes_of_string (P := Tryz.prog) w 9 74 5 ⟨l.toArray⟩ Tryz.underlying9 Tryz.underlying74 Tryz.underlying5
  generalize hC : bytesRow ⟨l.toArray⟩ (grownCap w (ByteArray.mk l.toArray).size 0 5) = C at hconv
  generalize grownCap w (ByteArray.mk l.toArray).size 0 5 = cap at hconv hC
  have HC := Lib.hid hC
  clear hC
  go_enter Tryz.func48, Tryz.ntmps48
  go_wp2
  go_loopw [10, 4, 5] (fun i a b wr => ∃ k : Nat, k ≤ l.length ∧ i = .int .i64 k ∧ BRow wr w.heap.size l.length (lowTo l k) ∧ Ext w wr) (fun i _ _ _ => l.length - (intOf i).toNat)
  case atStart => exact ⟨0, by omega, rfl, brow_new w l cap C HC.out, ((Below.refl _ _).alloc (Nat.le_refl _) _).drew⟩
  case round =>
    obtain ⟨k, hk, rfl, hB, hE⟩ := hrel
    have HB := Lib.hid hB
    clear hB
    by_cases hlt : k < l.length
    · obtain ⟨b, Hb, hget, hwb, hbd⟩ := byte_at l k hlt
      have hc : wr.cell? ⟨w.heap.size, k, none⟩ = some (.int .u8 (b.toNat : Int)) := by
        rw [(HB.out k hlt).1]; simp [lowTo, hlt, Hb.out]
      have hf : wr.frozen? ⟨w.heap.size, k, none⟩ = false := (HB.out k hlt).2
      have Hs := Lib.hid (lowTo_step l k hlt b Hb.out)
      clear hget hwb
      go_wp2
      · go_roundw
        case rel => exact ⟨k + 1, by omega, by go_num, (HB.out.set hlt _ _ (lowB_up ‹_› ‹_›)).congr fun j _ => Hs.out j, hE.setCell (Nat.le_refl _) _⟩
        case measure => simp [intOf]; omega
      all_goals
        go_roundw
        case rel => exact ⟨k + 1, by omega, by go_num, HB.out.congr fun j _ => by rw [Hs.out j, lowB_no (by omega)]; (split; · (rename_i e; subst e; simp [lowTo, hlt, Hb.out])); rfl, hE⟩
        case measure => simp [intOf]; omega
    · have hback := run_convert_bytes_back (P := Tryz.prog) wr 74 9 5 ⟨w.heap.size, 0, none⟩ cap (low l) Tryz.underlying74 Tryz.underlying5 Tryz.underlying9 (fun j hj => by
        have hj' : j < l.length := by rw [length_low] at hj; exact hj
        have := (HB.out j hj').1
        rw [show (Addr.add ⟨w.heap.size, 0, none⟩ j) = ⟨w.heap.size, j, none⟩ by unfold Addr.add; split <;> simp_all, this]
        simp [lowTo, low, hj', show j < k by omega])
      rw [length_low] at hback
      go_wp2
      go_ret
      exact ⟨rfl, hE⟩

theorem name_fold (l : List UInt8) (w : World) (hl : l.length ≤ maxLen) :
    Calls Tryz.prog 24 #[S l] w fun e w' => e = .returned (S (fold l)) ∧ Ext w w' := by
  by_cases hm : may l = true
  · have hf : fold l = low l := by unfold fold; rw [if_pos hm]
    rw [hf]
    have Hl := Lib.hid hl
    clear hl hf
    go_enter Tryz.func24, Tryz.ntmps24
    go_wp2_with (first | (go_at_call 42; refine (name_may _ _ Hl.out).mono ?_; rintro e w' ⟨rfl, rfl⟩) | (go_at_call 48; refine (name_lower _ _ Hl.out).mono ?_; rintro e w' ⟨rfl, hE⟩))
    go_ret
    exact ⟨rfl, hE⟩
  · have hm' : may l = false := by simpa using hm
    have hf : fold l = [] := by unfold fold; rw [if_neg hm]
    rw [hf]
    have Hl := Lib.hid hl
    clear hl hf hm
    go_enter Tryz.func24, Tryz.ntmps24
    go_wp2_with (first | (go_at_call 42; refine (name_may _ _ Hl.out).mono ?_; rintro e w' ⟨rfl, rfl⟩))
    go_ret
    exact ⟨rfl, Ext.refl _⟩

theorem name_same (a b : List UInt8) (w : World) (ha : a.length ≤ maxLen) (hb : b.length ≤ maxLen) :
    Calls Tryz.prog 28 #[S a, S b] w fun e w' => e = .returned (.bool (sameN a b)) ∧ Ext w w' := by
  have Ha := Lib.hid ha
  have Hb := Lib.hid hb
  have hs : sameN a b = (may a && may b && (low a == low b)) := rfl
  have Hs := Lib.hid hs
  clear ha hb hs
  by_cases h1 : may a = true
  · by_cases h2 : may b = true
    · go_enter Tryz.func28, Tryz.ntmps28
      go_wp2_with fail
      refine (name_may _ _ Ha.out).mono ?_; rintro e w' ⟨rfl, rfl⟩
      go_wp2_with fail
      refine (name_may _ _ Hb.out).mono ?_; rintro e w' ⟨rfl, rfl⟩
      go_wp2_with fail
      refine (name_lower _ _ Ha.out).mono ?_; rintro e w1 ⟨rfl, hE1⟩
      go_wp2_with fail
      refine (name_lower _ _ Hb.out).mono ?_; rintro e w2 ⟨rfl, hE2⟩
      go_wp2_with fail
      go_ret
      exact ⟨ret_bool (by rw [Hs.out, h1, h2]; simp), hE1.trans hE2⟩
    · have h2' : may b = false := by simpa using h2
      clear h2
      go_enter Tryz.func28, Tryz.ntmps28
      go_wp2_with fail
      refine (name_may _ _ Ha.out).mono ?_; rintro e w' ⟨rfl, rfl⟩
      go_wp2_with fail
      refine (name_may _ _ Hb.out).mono ?_; rintro e w' ⟨rfl, rfl⟩
      go_wp2_with fail
      go_ret
      exact ⟨ret_bool (by rw [Hs.out, h1, h2']; rfl), Ext.refl _⟩
  · have h1' : may a = false := by simpa using h1
    clear h1
    go_enter Tryz.func28, Tryz.ntmps28
    go_wp2_with fail
    refine (name_may _ _ Ha.out).mono ?_; rintro e w' ⟨rfl, rfl⟩
    go_wp2_with fail
    go_ret
    exact ⟨ret_bool (by rw [Hs.out, h1']; rfl), Ext.refl _⟩
end Go.Proofs.YthdlgmfeicikpaaGreatDoor
