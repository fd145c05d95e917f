/- The walks of package rdata: the checks (closures). -/
import Derived.Test.YthdlgmfeicikpaaGreatDoorComp1
import Derived.Test.YthdlgmfeicikpaaGreatDoorPlRdata
import Derived.RegionTactic
import Derived.BigRegion
import Derived.StillTailTactics
namespace Go.Proofs.YthdlgmfeicikpaaGreatDoor
set_option linter.unusedSimpArgs false
set_option linter.unusedVariables false
open Go.RowKit
set_option maxRecDepth 100000

abbrev Pc.val (p : Pc) : Value := .agg #[S p.text, .bool p.nm, .int .i64 p.next]

set_option maxHeartbeats 1000000 in
theorem chk_num_short (msg : List UInt8) (pos n b : Nat) (w : World) (hl : msg.length ≤ 140737488351232) (hp : pos ≤ msg.length) (hn : n ≤ 65535) (hc : w.cell? ⟨b, 0, none⟩ = some (.int .i64 n)) (h : msg.length - pos < n) :
    Calls Tryz.prog 122 #[S msg, .int .i64 pos, .pointer (some ⟨b, 0, none⟩)] w fun e w' => e = .returned (.tuple #[Pc.zero.val, .int .i64 4]) ∧ Ext w w' := by
  have hb := World.block_lt_of_cell? w _ hc
  have h1 : (msg.length : Int) - pos < n := by omega
  go_enter Tryz.func122, Tryz.ntmps122
  go_wp2
  refine bodyPost_ret (v := .tuple #[Pc.zero.val, .int .i64 4]) (by simp [results, Tryz.results122, go_sem, Pc.zero]) rfl ⟨rfl, ?_⟩
  (repeat (first | with_reducible exact Ext.refl _ | with_reducible assumption | with_reducible refine Ext.alloc ?_ _ | with_reducible refine Ext.drewN ?_ _ | with_reducible refine Ext.drew ?_ | (with_reducible refine Ext.setCell ?_ ?hp _; case hp => (simp <;> omega))))

set_option maxHeartbeats 1000000 in
theorem chk_num (msg : List UInt8) (pos n b : Nat) (w : World) (hl : msg.length ≤ 140737488351232) (hp : pos ≤ msg.length) (hn : n ≤ 65535) (hc : w.cell? ⟨b, 0, none⟩ = some (.int .i64 n)) (h : ¬ msg.length - pos < n) :
    Calls Tryz.prog 122 #[S msg, .int .i64 pos, .pointer (some ⟨b, 0, none⟩)] w fun e w' => e = .returned (.tuple #[Pc.val ⟨(msg.drop pos).take n, false, pos + n⟩, .int .i64 0]) ∧ Ext w w' := by
  have hb := World.block_lt_of_cell? w _ hc
  have h1 : (n : Int) ≤ (msg.length : Int) - pos := by omega
  have h2 : ((pos : Int) + n).toNat = pos + n := by omega
  have h3 : (pos : Int) + n ≤ msg.length := by omega
  go_enter Tryz.func122, Tryz.ntmps122
  go_wp2
  go_region
  go_wp2
  refine bodyPost_ret (v := .tuple #[Pc.val ⟨(msg.drop pos).take n, false, pos + n⟩, .int .i64 0]) (by simp [results, Tryz.results122, go_sem]) rfl ⟨rfl, ?_⟩
  (repeat (first | with_reducible exact Ext.refl _ | with_reducible assumption | with_reducible refine Ext.alloc ?_ _ | with_reducible refine Ext.drewN ?_ _ | with_reducible refine Ext.drew ?_ | (with_reducible refine Ext.setCell ?_ ?hp _; case hp => (simp <;> omega))))

set_option maxHeartbeats 1000000 in
theorem chk_rest (msg : List UInt8) (pos : Nat) (w : World) (hl : msg.length ≤ 140737488351232) (hp : pos ≤ msg.length) :
    Calls Tryz.prog 126 #[S msg, .int .i64 pos] w fun e w' => e = .returned (.tuple #[Pc.val ⟨msg.drop pos, false, msg.length⟩, .int .i64 0]) ∧ Ext w w' := by
  have e1 : (msg.drop pos).take (msg.length - pos) = msg.drop pos := List.take_of_length_le (by simp)
  have h2 : (pos : Int) ≤ msg.length := by omega
  go_enter Tryz.func126, Tryz.ntmps126
  go_wp2
  refine bodyPost_ret (v := .tuple #[Pc.val ⟨msg.drop pos, false, msg.length⟩, .int .i64 0]) (by simp [results, Tryz.results126, go_sem, e1]) rfl ⟨rfl, ?_⟩
  (repeat (first | with_reducible exact Ext.refl _ | with_reducible assumption | with_reducible refine Ext.alloc ?_ _ | with_reducible refine Ext.drewN ?_ _ | with_reducible refine Ext.drew ?_ | (with_reducible refine Ext.setCell ?_ ?hp _; case hp => (simp <;> omega))))

set_option maxHeartbeats 1000000 in
theorem chk_named_bad (msg : List UInt8) (pos : Nat) (w : World) (hg : Laid w) (hl : msg.length ≤ 140737488351232) (hp : pos ≤ msg.length) (h : (readN msg pos).2.2 ≠ 0) :
    Calls Tryz.prog 123 #[S msg, .int .i64 pos] w fun e w' => e = .returned (.tuple #[Pc.zero.val, .int .i64 (readN msg pos).2.2]) ∧ Ext w w' := by
  have hg1 := hg.ext ((Ext.refl w).alloc (.cells #[.string ⟨#[]⟩, .bool false, .int .i64 0] 76))
  have Hr := Lib.hid (comp_read msg pos _ hg1 hl hp)
  generalize readN msg pos = R at *
  obtain ⟨r1, r2, r3⟩ := R
  dsimp only at *
  have h1 : ((r3 : Int) == 0) = false := len_ne h
  have h2 : ((r3 : Int) != 0) = true := by rw [bne, h1]; rfl
  clear h
  go_enter Tryz.func123, Tryz.ntmps123
  go_wp2_with (go_at_call 124; refine Hr.out.mono ?_; rintro e w' ⟨rfl, hE⟩; obtain ⟨hq, hqf, hqz⟩ := ext_new hE)
  refine bodyPost_ret (v := .tuple #[Pc.zero.val, .int .i64 r3]) (by simp [results, Tryz.results123, go_sem, Pc.zero, hq, hqf, hqz]) rfl ⟨rfl, ?_⟩
  have hE' : Ext w w' := ((Ext.refl w).alloc _).trans hE
  (repeat (first | with_reducible exact Ext.refl _ | with_reducible assumption | with_reducible refine Ext.alloc ?_ _ | with_reducible refine Ext.drewN ?_ _ | with_reducible refine Ext.drew ?_ | (with_reducible refine Ext.setCell ?_ ?hp _; case hp => (simp <;> omega))))

set_option maxHeartbeats 1000000 in
theorem chk_named (msg : List UInt8) (pos : Nat) (w : World) (hg : Laid w) (hl : msg.length ≤ 140737488351232) (hp : pos ≤ msg.length) (h : (readN msg pos).2.2 = 0) :
    Calls Tryz.prog 123 #[S msg, .int .i64 pos] w fun e w' => e = .returned (.tuple #[Pc.val ⟨(readN msg pos).1, true, (readN msg pos).2.1⟩, .int .i64 0]) ∧ Ext w w' := by
  have hg1 := hg.ext ((Ext.refl w).alloc (.cells #[.string ⟨#[]⟩, .bool false, .int .i64 0] 76))
  have Hr := Lib.hid (comp_read msg pos _ hg1 hl hp)
  generalize readN msg pos = R at *
  obtain ⟨r1, r2, r3⟩ := R
  dsimp only at *
  subst h
  go_enter Tryz.func123, Tryz.ntmps123
  go_wp2_with (go_at_call 124; refine Hr.out.mono ?_; rintro e w' ⟨rfl, hE⟩; obtain ⟨hq, hqf, hqz⟩ := ext_new hE)
  refine bodyPost_ret (v := .tuple #[Pc.val ⟨r1, true, r2⟩, .int .i64 0]) (by simp [results, Tryz.results123, go_sem, hq, hqf, hqz]) rfl ⟨rfl, ?_⟩
  have hE' : Ext w w' := ((Ext.refl w).alloc _).trans hE
  (repeat (first | with_reducible exact Ext.refl _ | with_reducible assumption | with_reducible refine Ext.alloc ?_ _ | with_reducible refine Ext.drewN ?_ _ | with_reducible refine Ext.drew ?_ | (with_reducible refine Ext.setCell ?_ ?hp _; case hp => (simp <;> omega))))

/-! ### Texts -/
theorem texts_short {msg : List UInt8} {k : Nat} (hk : k < msg.length) (b : UInt8) (hb : msg[k] = b) (h : (msg.length : Int) < (k : Int) + (1 + (b.toNat : Int))) : textsOk (msg.drop k) = false := by
  rw [drop_cons msg k hk, hb, textsOk_cons, if_pos (by simp; omega)]
theorem texts_step {msg : List UInt8} {k : Nat} (hk : k < msg.length) (b : UInt8) (hb : msg[k] = b) (h : (k : Int) + (1 + (b.toNat : Int)) ≤ msg.length) :
    textsOk (msg.drop k) = if k + (1 + b.toNat) = msg.length then true else textsOk (msg.drop (k + (1 + b.toNat))) := by
  rw [drop_cons msg k hk, hb, textsOk_cons, if_neg (by simp; omega)]
  by_cases e : k + (1 + b.toNat) = msg.length
  · rw [if_pos e, if_pos (by simp; omega)]
  · rw [if_neg e, if_neg (by simp; omega), List.drop_drop]
    congr 2; omega

/-- What holds at a round's head: how the texts from here on decide. -/
def TxInv (msg : List UInt8) (pos k : Nat) (first : Bool) : Prop :=
  pos ≤ k ∧ k ≤ msg.length ∧ (first = true → k = pos) ∧ textsOk (msg.drop pos) = if first = false ∧ k = msg.length then true else textsOk (msg.drop k)

set_option maxHeartbeats 1000000 in
theorem chk_texts (msg : List UInt8) (pos : Nat) (w : World) (hl : msg.length ≤ 140737488351232) (hp : pos ≤ msg.length) :
    Calls Tryz.prog 125 #[S msg, .int .i64 pos] w fun e w' => e = .returned (if textsOk (msg.drop pos) then .tuple #[Pc.val ⟨msg.drop pos, false, msg.length⟩, .int .i64 0] else .tuple #[Pc.zero.val, .int .i64 4]) ∧ Ext w w' := by
  obtain ⟨T, hT⟩ : ∃ T, T = textsOk (msg.drop pos) := ⟨_, rfl⟩
  rw [← hT]
  have HT := Lib.hid hT
  clear hT
  obtain ⟨V, hV⟩ : ∃ V : Value, V = if T then .tuple #[Pc.val ⟨msg.drop pos, false, msg.length⟩, .int .i64 0] else .tuple #[Pc.zero.val, .int .i64 4] := ⟨_, rfl⟩
  rw [← hV]
  have HV := Lib.hid hV
  clear hV
  go_enter Tryz.func125, Tryz.ntmps125
  go_wp2
  go_loop [6, 7] (fun k f => ∃ (n : Nat) (first : Bool), k = .int .i64 n ∧ f = .bool first ∧ TxInv msg pos n first) (fun k _ => msg.length - (intOf k).toNat)
  case atStart => exact ⟨pos, true, rfl, rfl, Nat.le_refl _, hp, fun _ => rfl, by simp⟩
  case round =>
    obtain ⟨k, first, rfl, rfl, hI⟩ := hrel
    have hk : k ≤ msg.length := hI.2.1
    have hpk : pos ≤ k := hI.1
    by_cases hlt : k < msg.length
    · obtain ⟨b, Hb, hget, hwb, hbd⟩ := byte_at msg k hlt
      have HI : Hid (T = textsOk (msg.drop k)) := by
        have h4 := hI.2.2.2
        rw [if_neg (by omega), ← HT.out] at h4
        exact h4
      have f1 : ((k : Int) == (msg.length : Int)) = false := by rw [beq_eq_false_iff_ne]; omega
      by_cases hsh : (msg.length : Int) < (k : Int) + (1 + (b.toNat : Int))
      · have HF := Lib.hid (texts_short hlt b Hb.out hsh)
        rcases first with _ | _
        all_goals
          go_wp2
          refine bodyPost_ret (v := .tuple #[Pc.zero.val, .int .i64 4]) (by simp [results, Tryz.results125, go_sem, Pc.zero]) rfl ⟨?_, ?_⟩
          · rw [HV.out, HI.out, HF.out]; rfl
          · (repeat (first | with_reducible exact Ext.refl _ | with_reducible assumption | with_reducible refine Ext.alloc ?_ _ | with_reducible refine Ext.drewN ?_ _ | with_reducible refine Ext.drew ?_ | (with_reducible refine Ext.setCell ?_ ?hp _; case hp => (simp <;> omega))))
      · have HF := Lib.hid (texts_step hlt b Hb.out (by omega))
        have hsh' : (k : Int) + (1 + (b.toNat : Int)) ≤ msg.length := by omega
        rcases first with _ | _
        all_goals
          go_wp2
          go_round
          case rel =>
            refine ⟨k + (1 + b.toNat), false, by go_num, rfl, by omega, by omega, by simp, ?_⟩
            rw [← HT.out, HI.out, HF.out]
            by_cases e : k + (1 + b.toNat) = msg.length
            · rw [if_pos e, if_pos ⟨rfl, e⟩]
            · rw [if_neg e, if_neg (by simp [e])]
          case measure => simp [intOf]; omega
    · obtain rfl : k = msg.length := by omega
      rcases first with _ | _
      · have HI : Hid (T = true) := by
          have h4 := hI.2.2.2
          rw [if_pos ⟨rfl, rfl⟩, ← HT.out] at h4
          exact h4
        have e1 : (msg.drop pos).take (msg.length - pos) = msg.drop pos := List.take_of_length_le (by simp)
        have h2 : (pos : Int) ≤ msg.length := by omega
        clear hlt
        go_wp2
        refine bodyPost_ret (v := .tuple #[Pc.val ⟨msg.drop pos, false, msg.length⟩, .int .i64 0]) (by simp [results, Tryz.results125, go_sem, e1]) rfl ⟨?_, ?_⟩
        · rw [HV.out, HI.out]; rfl
        · (repeat (first | with_reducible exact Ext.refl _ | with_reducible assumption | with_reducible refine Ext.alloc ?_ _ | with_reducible refine Ext.drewN ?_ _ | with_reducible refine Ext.drew ?_ | (with_reducible refine Ext.setCell ?_ ?hp _; case hp => (simp <;> omega))))
      · have HI : Hid (T = false) := by
          have h4 := hI.2.2.2
          rw [if_neg (by simp), ← HT.out, List.drop_of_length_le (Nat.le_refl _)] at h4
          exact h4
        clear hlt
        go_wp2
        refine bodyPost_ret (v := .tuple #[Pc.zero.val, .int .i64 4]) (by simp [results, Tryz.results125, go_sem, Pc.zero]) rfl ⟨?_, ?_⟩
        · rw [HV.out, HI.out]; rfl
        · (repeat (first | with_reducible exact Ext.refl _ | with_reducible assumption | with_reducible refine Ext.alloc ?_ _ | with_reducible refine Ext.drewN ?_ _ | with_reducible refine Ext.drew ?_ | (with_reducible refine Ext.setCell ?_ ?hp _; case hp => (simp <;> omega))))
end Go.Proofs.YthdlgmfeicikpaaGreatDoor
