/- Contracts of functions and plain lemmas that the proofs of this seat share (joined texts). No condition. -/
import Derived.Test.YtjmfpillnbnofaaDoorBb
import Derived.Test.YtjmfpillnbnofaaDoorBa
import Derived.RegionTactic
import Derived.BigRegion
import Derived.StillTailTactics
import Derived.Laws.EntriesVeiled
import Derived.Deep.DeepMust
namespace Go.Proofs.YtjmfpillnbnofaaDoor
set_option linter.unusedSimpArgs false
set_option linter.unusedVariables false
open Go.RowKit
set_option maxRecDepth 100000

abbrev Pc.val (p : Pc) : Value := .agg #[S p.text, .bool p.nm, .int .i64 p.next]

set_option maxHeartbeats 1000000 in
theorem chk_num_short (msg : List UInt8) (pos n b : Nat) (w : World) (hl : msg.length ≤ 140737488351232) (hp : pos ≤ msg.length) (hn : n ≤ 65535) (hc : w.cell? ⟨b, 0, none⟩ = some (.int .i64 n)) (h : msg.length - pos < n) :
    Calls Tryd.prog 81 #[S msg, .int .i64 pos, .pointer (some ⟨b, 0, none⟩)] w fun e w' => e = .returned (.tuple #[Pc.zero.val, .int .i64 4]) ∧ Ext w w' := by
  have hb := World.block_lt_of_cell? w _ hc
  have h1 : (msg.length : Int) - pos < n := by omega
  go_enter Tryd.func81, Tryd.ntmps81
  go_wp2
  refine bodyPost_ret (v := .tuple #[Pc.zero.val, .int .i64 4]) (by simp [results, Tryd.results81, go_sem, Pc.zero]) rfl ⟨rfl, ?_⟩
  (repeat (first | with_reducible exact Ext.refl _ | with_reducible assumption | with_reducible refine Ext.alloc ?_ _ | with_reducible refine Ext.drewN ?_ _ | with_reducible refine Ext.drew ?_ | (with_reducible refine Ext.setCell ?_ ?hp _; case hp => (simp <;> omega))))

set_option maxHeartbeats 1000000 in
theorem chk_num (msg : List UInt8) (pos n b : Nat) (w : World) (hl : msg.length ≤ 140737488351232) (hp : pos ≤ msg.length) (hn : n ≤ 65535) (hc : w.cell? ⟨b, 0, none⟩ = some (.int .i64 n)) (h : ¬ msg.length - pos < n) :
    Calls Tryd.prog 81 #[S msg, .int .i64 pos, .pointer (some ⟨b, 0, none⟩)] w fun e w' => e = .returned (.tuple #[Pc.val ⟨(msg.drop pos).take n, false, pos + n⟩, .int .i64 0]) ∧ Ext w w' := by
  have hb := World.block_lt_of_cell? w _ hc
  have h1 : (n : Int) ≤ (msg.length : Int) - pos := by omega
  have h2 : ((pos : Int) + n).toNat = pos + n := by omega
  have h3 : (pos : Int) + n ≤ msg.length := by omega
  go_enter Tryd.func81, Tryd.ntmps81
  go_wp2
  go_region
  go_wp2
  refine bodyPost_ret (v := .tuple #[Pc.val ⟨(msg.drop pos).take n, false, pos + n⟩, .int .i64 0]) (by simp [results, Tryd.results81, go_sem]) rfl ⟨rfl, ?_⟩
  (repeat (first | with_reducible exact Ext.refl _ | with_reducible assumption | with_reducible refine Ext.alloc ?_ _ | with_reducible refine Ext.drewN ?_ _ | with_reducible refine Ext.drew ?_ | (with_reducible refine Ext.setCell ?_ ?hp _; case hp => (simp <;> omega))))

set_option maxHeartbeats 1000000 in
theorem chk_rest (msg : List UInt8) (pos : Nat) (w : World) (hl : msg.length ≤ 140737488351232) (hp : pos ≤ msg.length) :
    Calls Tryd.prog 84 #[S msg, .int .i64 pos] w fun e w' => e = .returned (.tuple #[Pc.val ⟨msg.drop pos, false, msg.length⟩, .int .i64 0]) ∧ Ext w w' := by
  have e1 : (msg.drop pos).take (msg.length - pos) = msg.drop pos := List.take_of_length_le (by simp)
  have h2 : (pos : Int) ≤ msg.length := by omega
  go_enter Tryd.func84, Tryd.ntmps84
  go_wp2
  refine bodyPost_ret (v := .tuple #[Pc.val ⟨msg.drop pos, false, msg.length⟩, .int .i64 0]) (by simp [results, Tryd.results84, go_sem, e1]) rfl ⟨rfl, ?_⟩
  (repeat (first | with_reducible exact Ext.refl _ | with_reducible assumption | with_reducible refine Ext.alloc ?_ _ | with_reducible refine Ext.drewN ?_ _ | with_reducible refine Ext.drew ?_ | (with_reducible refine Ext.setCell ?_ ?hp _; case hp => (simp <;> omega))))

set_option maxHeartbeats 1000000 in
theorem chk_named_bad (msg : List UInt8) (pos : Nat) (w : World) (hg : Laid w) (hl : msg.length ≤ 140737488351232) (hp : pos ≤ msg.length) (h : (readN msg pos).2.2 ≠ 0) :
    Calls Tryd.prog 82 #[S msg, .int .i64 pos] w fun e w' => e = .returned (.tuple #[Pc.zero.val, .int .i64 (readN msg pos).2.2]) ∧ Ext w w' := by
  have hg1 := hg.ext ((Ext.refl w).alloc (.cells #[.string ⟨#[]⟩, .bool false, .int .i64 0] 153))
  have Hr := Lib.hid (comp_read msg pos _ hg1 hl hp)
  generalize readN msg pos = R at *
  obtain ⟨r1, r2, r3⟩ := R
  dsimp only at *
  have h1 : ((r3 : Int) == 0) = false := len_ne h
  have h2 : ((r3 : Int) != 0) = true := by rw [bne, h1]; rfl
  clear h
  go_enter Tryd.func82, Tryd.ntmps82
  go_wp2_with (go_at_call 56; refine Hr.out.mono ?_; rintro e w' ⟨rfl, hE⟩; obtain ⟨hq, hqf, hqz⟩ := ext_new hE)
  refine bodyPost_ret (v := .tuple #[Pc.zero.val, .int .i64 r3]) (by simp [results, Tryd.results82, go_sem, Pc.zero, hq, hqf, hqz]) rfl ⟨rfl, ?_⟩
  have hE' : Ext w w' := ((Ext.refl w).alloc _).trans hE
  (repeat (first | with_reducible exact Ext.refl _ | with_reducible assumption | with_reducible refine Ext.alloc ?_ _ | with_reducible refine Ext.drewN ?_ _ | with_reducible refine Ext.drew ?_ | (with_reducible refine Ext.setCell ?_ ?hp _; case hp => (simp <;> omega))))

set_option maxHeartbeats 1000000 in
theorem chk_named (msg : List UInt8) (pos : Nat) (w : World) (hg : Laid w) (hl : msg.length ≤ 140737488351232) (hp : pos ≤ msg.length) (h : (readN msg pos).2.2 = 0) :
    Calls Tryd.prog 82 #[S msg, .int .i64 pos] w fun e w' => e = .returned (.tuple #[Pc.val ⟨(readN msg pos).1, true, (readN msg pos).2.1⟩, .int .i64 0]) ∧ Ext w w' := by
  have hg1 := hg.ext ((Ext.refl w).alloc (.cells #[.string ⟨#[]⟩, .bool false, .int .i64 0] 153))
  have Hr := Lib.hid (comp_read msg pos _ hg1 hl hp)
  generalize readN msg pos = R at *
  obtain ⟨r1, r2, r3⟩ := R
  dsimp only at *
  subst h
  go_enter Tryd.func82, Tryd.ntmps82
  go_wp2_with (go_at_call 56; refine Hr.out.mono ?_; rintro e w' ⟨rfl, hE⟩; obtain ⟨hq, hqf, hqz⟩ := ext_new hE)
  refine bodyPost_ret (v := .tuple #[Pc.val ⟨r1, true, r2⟩, .int .i64 0]) (by simp [results, Tryd.results82, go_sem, hq, hqf, hqz]) rfl ⟨rfl, ?_⟩
  have hE' : Ext w w' := ((Ext.refl w).alloc _).trans hE
  (repeat (first | with_reducible exact Ext.refl _ | with_reducible assumption | with_reducible refine Ext.alloc ?_ _ | with_reducible refine Ext.drewN ?_ _ | with_reducible refine Ext.drew ?_ | (with_reducible refine Ext.setCell ?_ ?hp _; case hp => (simp <;> omega))))

/-! ### Texts -/
theorem texts_short {msg : List UInt8} {k : Nat} (hk : k < msg.length) (b : UInt8) (hb : msg[k] = b) (h : (msg.length : Int) < (k : Int) + (1 + (b.toNat : Int))) : textsOk (msg.drop k) = false := by
  rw [drop_cons msg k hk, hb, textsOk_cons, if_pos (by simp; omega)]
theorem texts_step {msg : List UInt8} {k : Nat} (hk : k < msg.length) (b : UInt8) (hb : msg[k] = b) (h : (k : Int) + (1 + (b.toNat : Int)) ≤ msg.length) :
    textsOk (msg.drop k) = if k + (1 + b.toNat) = msg.length then true else textsOk (msg.drop (k + (1 + b.toNat))) := by
  rw [drop_cons msg k hk, hb, textsOk_cons, if_neg (by simp; omega)]
  by_cases e : k + (1 + b.toNat) = msg.length
  · rw [if_pos e, if_pos (by simp; omega)]
  · rw [if_neg e, if_neg (by simp; omega), List.drop_drop]
    congr 2; omega

/-- What holds at a round's head: how the texts from here on decide. -/
def TxInv (msg : List UInt8) (pos k : Nat) (first : Bool) : Prop :=
  pos ≤ k ∧ k ≤ msg.length ∧ (first = true → k = pos) ∧ textsOk (msg.drop pos) = if first = false ∧ k = msg.length then true else textsOk (msg.drop k)

set_option maxHeartbeats 1000000 in
theorem chk_texts (msg : List UInt8) (pos : Nat) (w : World) (hl : msg.length ≤ 140737488351232) (hp : pos ≤ msg.length) :
    Calls Tryd.prog 83 #[S msg, .int .i64 pos] w fun e w' => e = .returned (if textsOk (msg.drop pos) then .tuple #[Pc.val ⟨msg.drop pos, false, msg.length⟩, .int .i64 0] else .tuple #[Pc.zero.val, .int .i64 4]) ∧ Ext w w' := by
  obtain ⟨T, hT⟩ : ∃ T, T = textsOk (msg.drop pos) := ⟨_, rfl⟩
  rw [← hT]
  have HT := Lib.hid hT
  clear hT
  obtain ⟨V, hV⟩ : ∃ V : Value, V = if T then .tuple #[Pc.val ⟨msg.drop pos, false, msg.length⟩, .int .i64 0] else .tuple #[Pc.zero.val, .int .i64 4] := ⟨_, rfl⟩
  rw [← hV]
  have HV := Lib.hid hV
  clear hV
  go_enter Tryd.func83, Tryd.ntmps83
  go_wp2
  go_loop [6, 7] (fun k f => ∃ (n : Nat) (first : Bool), k = .int .i64 n ∧ f = .bool first ∧ TxInv msg pos n first) (fun k _ => msg.length - (intOf k).toNat)
  case atStart => exact ⟨pos, true, rfl, rfl, Nat.le_refl _, hp, fun _ => rfl, by simp⟩
  case round =>
    obtain ⟨k, first, rfl, rfl, hI⟩ := hrel
    have hk : k ≤ msg.length := hI.2.1
    have hpk : pos ≤ k := hI.1
    by_cases hlt : k < msg.length
    · obtain ⟨b, Hb, hget, hwb, hbd⟩ := byte_at msg k hlt
      have HI : Hid (T = textsOk (msg.drop k)) := by
        have h4 := hI.2.2.2
        rw [if_neg (by omega), ← HT.out] at h4
        exact h4
      have f1 : ((k : Int) == (msg.length : Int)) = false := by rw [beq_eq_false_iff_ne]; omega
      by_cases hsh : (msg.length : Int) < (k : Int) + (1 + (b.toNat : Int))
      · have HF := Lib.hid (texts_short hlt b Hb.out hsh)
        rcases first with _ | _
        all_goals
          go_wp2
          refine bodyPost_ret (v := .tuple #[Pc.zero.val, .int .i64 4]) (by simp [results, Tryd.results83, go_sem, Pc.zero]) rfl ⟨?_, ?_⟩
          · rw [HV.out, HI.out, HF.out]; rfl
          · (repeat (first | with_reducible exact Ext.refl _ | with_reducible assumption | with_reducible refine Ext.alloc ?_ _ | with_reducible refine Ext.drewN ?_ _ | with_reducible refine Ext.drew ?_ | (with_reducible refine Ext.setCell ?_ ?hp _; case hp => (simp <;> omega))))
      · have HF := Lib.hid (texts_step hlt b Hb.out (by omega))
        have hsh' : (k : Int) + (1 + (b.toNat : Int)) ≤ msg.length := by omega
        rcases first with _ | _
        all_goals
          go_wp2
          go_round
          case rel =>
            refine ⟨k + (1 + b.toNat), false, by go_num, rfl, by omega, by omega, by simp, ?_⟩
            rw [← HT.out, HI.out, HF.out]
            by_cases e : k + (1 + b.toNat) = msg.length
            · rw [if_pos e, if_pos ⟨rfl, e⟩]
            · rw [if_neg e, if_neg (by simp [e])]
          case measure => simp [intOf]; omega
    · obtain rfl : k = msg.length := by omega
      rcases first with _ | _
      · have HI : Hid (T = true) := by
          have h4 := hI.2.2.2
          rw [if_pos ⟨rfl, rfl⟩, ← HT.out] at h4
          exact h4
        have e1 : (msg.drop pos).take (msg.length - pos) = msg.drop pos := List.take_of_length_le (by simp)
        have h2 : (pos : Int) ≤ msg.length := by omega
        clear hlt
        go_wp2
        refine bodyPost_ret (v := .tuple #[Pc.val ⟨msg.drop pos, false, msg.length⟩, .int .i64 0]) (by simp [results, Tryd.results83, go_sem, e1]) rfl ⟨?_, ?_⟩
        · rw [HV.out, HI.out]; rfl
        · (repeat (first | with_reducible exact Ext.refl _ | with_reducible assumption | with_reducible refine Ext.alloc ?_ _ | with_reducible refine Ext.drewN ?_ _ | with_reducible refine Ext.drew ?_ | (with_reducible refine Ext.setCell ?_ ?hp _; case hp => (simp <;> omega))))
      · have HI : Hid (T = false) := by
          have h4 := hI.2.2.2
          rw [if_neg (by simp), ← HT.out, List.drop_of_length_le (Nat.le_refl _)] at h4
          exact h4
        clear hlt
        go_wp2
        refine bodyPost_ret (v := .tuple #[Pc.zero.val, .int .i64 4]) (by simp [results, Tryd.results83, go_sem, Pc.zero]) rfl ⟨?_, ?_⟩
        · rw [HV.out, HI.out]; rfl
        · (repeat (first | with_reducible exact Ext.refl _ | with_reducible assumption | with_reducible refine Ext.alloc ?_ _ | with_reducible refine Ext.drewN ?_ _ | with_reducible refine Ext.drew ?_ | (with_reducible refine Ext.setCell ?_ ?hp _; case hp => (simp <;> omega))))
end Go.Proofs.YtjmfpillnbnofaaDoor
namespace Go.Proofs.YtjmfpillnbnofaaDoor
set_option linter.unusedSimpArgs false
set_option linter.unusedVariables false
open Go.RowKit
set_option maxRecDepth 100000

theorem mk_number (n : Int) (w : World) : Calls Tryd.prog 74 #[.int .i64 n] w fun e w' => e = .returned (.func (.func 81) #[] #[.pointer (some ⟨w.heap.size, 0, none⟩)]) ∧ w' = w.alloc (.cells #[.int .i64 n] 3) := by
  go_enter Tryd.func74, Tryd.ntmps74
  go_wp2
  go_ret
  exact ⟨rfl, rfl⟩
theorem mk_named (w : World) : Calls Tryd.prog 75 #[] w fun e w' => e = .returned (.func (.func 82) #[] #[]) ∧ w = w' := by
  go_enter Tryd.func75, Tryd.ntmps75
  go_wp2
  go_ret
  exact ⟨rfl, rfl⟩
theorem mk_texts (w : World) : Calls Tryd.prog 76 #[] w fun e w' => e = .returned (.func (.func 83) #[] #[]) ∧ w = w' := by
  go_enter Tryd.func76, Tryd.ntmps76
  go_wp2
  go_ret
  exact ⟨rfl, rfl⟩
theorem mk_rest (w : World) : Calls Tryd.prog 77 #[] w fun e w' => e = .returned (.func (.func 84) #[] #[]) ∧ w = w' := by
  go_enter Tryd.func77, Tryd.ntmps77
  go_wp2
  go_ret
  exact ⟨rfl, rfl⟩

/-- A check as a function value. -/
def ChkV (w : World) (v : Value) : Option Chk → Prop
  | none => v = .nilFunc
  | some c => match c.kind with
    | 0 => ∃ b, v = .func (.func 81) #[] #[.pointer (some ⟨b, 0, none⟩)] ∧ w.cell? ⟨b, 0, none⟩ = some (.int .i64 c.n)
    | 1 => v = .func (.func 82) #[] #[]
    | 2 => v = .func (.func 83) #[] #[]
    | _ => v = .func (.func 84) #[] #[]
theorem ChkV.ext {w w' : World} {v : Value} {o : Option Chk} (h : ChkV w v o) (hE : Ext w w') : ChkV w' v o := by
  rcases o with _ | ⟨k, n⟩
  · exact h
  · match k, h with
    | 0, ⟨b, e, hc⟩ => exact ⟨b, e, (hE.cell (p := ⟨b, 0, none⟩) (World.block_lt_of_cell? w _ hc)).trans hc⟩
    | 1, h => exact h
    | 2, h => exact h
    | _ + 3, h => exact h

/-- What rdata.checks returns. -/
def ChksV (w : World) (v : Value) (l : List Chk) : Prop := ∃ v0 v1 v2, v = .agg #[v0, v1, v2] ∧ l.length ≤ 3 ∧ ChkV w v0 l[0]? ∧ ChkV w v1 l[1]? ∧ ChkV w v2 l[2]?

def ChksPost (k : Int) (w : World) (e : Ending) (w' : World) : Prop := ∃ v, e = .returned v ∧ ChksV w' v (checksOf k) ∧ Ext w w'

set_option maxHeartbeats 1000000 in
theorem checks1  (w : World) (hc : checksOf 1 = [⟨0, 4⟩]) : Calls Tryd.prog 69 #[.int .u16 1] w (ChksPost 1 w) := by
  have Hc := Lib.hid hc
  clear hc
  go_enter Tryd.func69, Tryd.ntmps69
  go_wp2_with (first | (go_at_call 74; refine (mk_number _ _).mono ?_; rintro e w' ⟨rfl, rfl⟩) | (go_at_call 75; refine (mk_named _).mono ?_; rintro e w' ⟨rfl, rfl⟩) | (go_at_call 76; refine (mk_texts _).mono ?_; rintro e w' ⟨rfl, rfl⟩) | (go_at_call 77; refine (mk_rest _).mono ?_; rintro e w' ⟨rfl, rfl⟩))
  refine bodyPost_ret (v := .agg #[.func (.func 81) #[] #[.pointer (some ⟨w.heap.size + 1, 0, none⟩)], .nilFunc, .nilFunc]) (by simp [results, Tryd.results69, go_sem]) rfl ⟨_, rfl, ⟨_, _, _, rfl, ?_⟩, ?_⟩
  · rw [Hc.out]
    refine ⟨by decide, ?_, ?_, ?_⟩ <;> first | rfl | exact ⟨_, rfl, by simp [go_sem]⟩
  · (repeat (first | with_reducible exact Ext.refl _ | with_reducible assumption | with_reducible refine Ext.alloc ?_ _ | with_reducible refine Ext.drewN ?_ _ | with_reducible refine Ext.drew ?_ | (with_reducible refine Ext.setCell ?_ ?hp _; case hp => (simp <;> omega))))
set_option maxHeartbeats 1000000 in
theorem checks28  (w : World) (hc : checksOf 28 = [⟨0, 16⟩]) : Calls Tryd.prog 69 #[.int .u16 28] w (ChksPost 28 w) := by
  have Hc := Lib.hid hc
  clear hc
  go_enter Tryd.func69, Tryd.ntmps69
  go_wp2_with (first | (go_at_call 74; refine (mk_number _ _).mono ?_; rintro e w' ⟨rfl, rfl⟩) | (go_at_call 75; refine (mk_named _).mono ?_; rintro e w' ⟨rfl, rfl⟩) | (go_at_call 76; refine (mk_texts _).mono ?_; rintro e w' ⟨rfl, rfl⟩) | (go_at_call 77; refine (mk_rest _).mono ?_; rintro e w' ⟨rfl, rfl⟩))
  refine bodyPost_ret (v := .agg #[.func (.func 81) #[] #[.pointer (some ⟨w.heap.size + 1, 0, none⟩)], .nilFunc, .nilFunc]) (by simp [results, Tryd.results69, go_sem]) rfl ⟨_, rfl, ⟨_, _, _, rfl, ?_⟩, ?_⟩
  · rw [Hc.out]
    refine ⟨by decide, ?_, ?_, ?_⟩ <;> first | rfl | exact ⟨_, rfl, by simp [go_sem]⟩
  · (repeat (first | with_reducible exact Ext.refl _ | with_reducible assumption | with_reducible refine Ext.alloc ?_ _ | with_reducible refine Ext.drewN ?_ _ | with_reducible refine Ext.drew ?_ | (with_reducible refine Ext.setCell ?_ ?hp _; case hp => (simp <;> omega))))
set_option maxHeartbeats 1000000 in
theorem checks2  (w : World) (hc : checksOf 2 = [⟨1, 0⟩]) : Calls Tryd.prog 69 #[.int .u16 2] w (ChksPost 2 w) := by
  have Hc := Lib.hid hc
  clear hc
  go_enter Tryd.func69, Tryd.ntmps69
  go_wp2_with (first | (go_at_call 74; refine (mk_number _ _).mono ?_; rintro e w' ⟨rfl, rfl⟩) | (go_at_call 75; refine (mk_named _).mono ?_; rintro e w' ⟨rfl, rfl⟩) | (go_at_call 76; refine (mk_texts _).mono ?_; rintro e w' ⟨rfl, rfl⟩) | (go_at_call 77; refine (mk_rest _).mono ?_; rintro e w' ⟨rfl, rfl⟩))
  refine bodyPost_ret (v := .agg #[.func (.func 82) #[] #[], .nilFunc, .nilFunc]) (by simp [results, Tryd.results69, go_sem]) rfl ⟨_, rfl, ⟨_, _, _, rfl, ?_⟩, ?_⟩
  · rw [Hc.out]
    refine ⟨by decide, ?_, ?_, ?_⟩ <;> first | rfl | exact ⟨_, rfl, by simp [go_sem]⟩
  · (repeat (first | with_reducible exact Ext.refl _ | with_reducible assumption | with_reducible refine Ext.alloc ?_ _ | with_reducible refine Ext.drewN ?_ _ | with_reducible refine Ext.drew ?_ | (with_reducible refine Ext.setCell ?_ ?hp _; case hp => (simp <;> omega))))
set_option maxHeartbeats 1000000 in
theorem checks5  (w : World) (hc : checksOf 5 = [⟨1, 0⟩]) : Calls Tryd.prog 69 #[.int .u16 5] w (ChksPost 5 w) := by
  have Hc := Lib.hid hc
  clear hc
  go_enter Tryd.func69, Tryd.ntmps69
  go_wp2_with (first | (go_at_call 74; refine (mk_number _ _).mono ?_; rintro e w' ⟨rfl, rfl⟩) | (go_at_call 75; refine (mk_named _).mono ?_; rintro e w' ⟨rfl, rfl⟩) | (go_at_call 76; refine (mk_texts _).mono ?_; rintro e w' ⟨rfl, rfl⟩) | (go_at_call 77; refine (mk_rest _).mono ?_; rintro e w' ⟨rfl, rfl⟩))
  refine bodyPost_ret (v := .agg #[.func (.func 82) #[] #[], .nilFunc, .nilFunc]) (by simp [results, Tryd.results69, go_sem]) rfl ⟨_, rfl, ⟨_, _, _, rfl, ?_⟩, ?_⟩
  · rw [Hc.out]
    refine ⟨by decide, ?_, ?_, ?_⟩ <;> first | rfl | exact ⟨_, rfl, by simp [go_sem]⟩
  · (repeat (first | with_reducible exact Ext.refl _ | with_reducible assumption | with_reducible refine Ext.alloc ?_ _ | with_reducible refine Ext.drewN ?_ _ | with_reducible refine Ext.drew ?_ | (with_reducible refine Ext.setCell ?_ ?hp _; case hp => (simp <;> omega))))
set_option maxHeartbeats 1000000 in
theorem checks12  (w : World) (hc : checksOf 12 = [⟨1, 0⟩]) : Calls Tryd.prog 69 #[.int .u16 12] w (ChksPost 12 w) := by
  have Hc := Lib.hid hc
  clear hc
  go_enter Tryd.func69, Tryd.ntmps69
  go_wp2_with (first | (go_at_call 74; refine (mk_number _ _).mono ?_; rintro e w' ⟨rfl, rfl⟩) | (go_at_call 75; refine (mk_named _).mono ?_; rintro e w' ⟨rfl, rfl⟩) | (go_at_call 76; refine (mk_texts _).mono ?_; rintro e w' ⟨rfl, rfl⟩) | (go_at_call 77; refine (mk_rest _).mono ?_; rintro e w' ⟨rfl, rfl⟩))
  refine bodyPost_ret (v := .agg #[.func (.func 82) #[] #[], .nilFunc, .nilFunc]) (by simp [results, Tryd.results69, go_sem]) rfl ⟨_, rfl, ⟨_, _, _, rfl, ?_⟩, ?_⟩
  · rw [Hc.out]
    refine ⟨by decide, ?_, ?_, ?_⟩ <;> first | rfl | exact ⟨_, rfl, by simp [go_sem]⟩
  · (repeat (first | with_reducible exact Ext.refl _ | with_reducible assumption | with_reducible refine Ext.alloc ?_ _ | with_reducible refine Ext.drewN ?_ _ | with_reducible refine Ext.drew ?_ | (with_reducible refine Ext.setCell ?_ ?hp _; case hp => (simp <;> omega))))
set_option maxHeartbeats 1000000 in
theorem checks15  (w : World) (hc : checksOf 15 = [⟨0, 2⟩, ⟨1, 0⟩]) : Calls Tryd.prog 69 #[.int .u16 15] w (ChksPost 15 w) := by
  have Hc := Lib.hid hc
  clear hc
  go_enter Tryd.func69, Tryd.ntmps69
  go_wp2_with (first | (go_at_call 74; refine (mk_number _ _).mono ?_; rintro e w' ⟨rfl, rfl⟩) | (go_at_call 75; refine (mk_named _).mono ?_; rintro e w' ⟨rfl, rfl⟩) | (go_at_call 76; refine (mk_texts _).mono ?_; rintro e w' ⟨rfl, rfl⟩) | (go_at_call 77; refine (mk_rest _).mono ?_; rintro e w' ⟨rfl, rfl⟩))
  refine bodyPost_ret (v := .agg #[.func (.func 81) #[] #[.pointer (some ⟨w.heap.size + 1, 0, none⟩)], .func (.func 82) #[] #[], .nilFunc]) (by simp [results, Tryd.results69, go_sem]) rfl ⟨_, rfl, ⟨_, _, _, rfl, ?_⟩, ?_⟩
  · rw [Hc.out]
    refine ⟨by decide, ?_, ?_, ?_⟩ <;> first | rfl | exact ⟨_, rfl, by simp [go_sem]⟩
  · (repeat (first | with_reducible exact Ext.refl _ | with_reducible assumption | with_reducible refine Ext.alloc ?_ _ | with_reducible refine Ext.drewN ?_ _ | with_reducible refine Ext.drew ?_ | (with_reducible refine Ext.setCell ?_ ?hp _; case hp => (simp <;> omega))))
set_option maxHeartbeats 1000000 in
theorem checks6  (w : World) (hc : checksOf 6 = [⟨1, 0⟩, ⟨1, 0⟩, ⟨0, 20⟩]) : Calls Tryd.prog 69 #[.int .u16 6] w (ChksPost 6 w) := by
  have Hc := Lib.hid hc
  clear hc
  go_enter Tryd.func69, Tryd.ntmps69
  go_wp2_with (first | (go_at_call 74; refine (mk_number _ _).mono ?_; rintro e w' ⟨rfl, rfl⟩) | (go_at_call 75; refine (mk_named _).mono ?_; rintro e w' ⟨rfl, rfl⟩) | (go_at_call 76; refine (mk_texts _).mono ?_; rintro e w' ⟨rfl, rfl⟩) | (go_at_call 77; refine (mk_rest _).mono ?_; rintro e w' ⟨rfl, rfl⟩))
  refine bodyPost_ret (v := .agg #[.func (.func 82) #[] #[], .func (.func 82) #[] #[], .func (.func 81) #[] #[.pointer (some ⟨w.heap.size + 1, 0, none⟩)]]) (by simp [results, Tryd.results69, go_sem]) rfl ⟨_, rfl, ⟨_, _, _, rfl, ?_⟩, ?_⟩
  · rw [Hc.out]
    refine ⟨by decide, ?_, ?_, ?_⟩ <;> first | rfl | exact ⟨_, rfl, by simp [go_sem]⟩
  · (repeat (first | with_reducible exact Ext.refl _ | with_reducible assumption | with_reducible refine Ext.alloc ?_ _ | with_reducible refine Ext.drewN ?_ _ | with_reducible refine Ext.drew ?_ | (with_reducible refine Ext.setCell ?_ ?hp _; case hp => (simp <;> omega))))
set_option maxHeartbeats 1000000 in
theorem checks33  (w : World) (hc : checksOf 33 = [⟨0, 6⟩, ⟨1, 0⟩]) : Calls Tryd.prog 69 #[.int .u16 33] w (ChksPost 33 w) := by
  have Hc := Lib.hid hc
  clear hc
  go_enter Tryd.func69, Tryd.ntmps69
  go_wp2_with (first | (go_at_call 74; refine (mk_number _ _).mono ?_; rintro e w' ⟨rfl, rfl⟩) | (go_at_call 75; refine (mk_named _).mono ?_; rintro e w' ⟨rfl, rfl⟩) | (go_at_call 76; refine (mk_texts _).mono ?_; rintro e w' ⟨rfl, rfl⟩) | (go_at_call 77; refine (mk_rest _).mono ?_; rintro e w' ⟨rfl, rfl⟩))
  refine bodyPost_ret (v := .agg #[.func (.func 81) #[] #[.pointer (some ⟨w.heap.size + 1, 0, none⟩)], .func (.func 82) #[] #[], .nilFunc]) (by simp [results, Tryd.results69, go_sem]) rfl ⟨_, rfl, ⟨_, _, _, rfl, ?_⟩, ?_⟩
  · rw [Hc.out]
    refine ⟨by decide, ?_, ?_, ?_⟩ <;> first | rfl | exact ⟨_, rfl, by simp [go_sem]⟩
  · (repeat (first | with_reducible exact Ext.refl _ | with_reducible assumption | with_reducible refine Ext.alloc ?_ _ | with_reducible refine Ext.drewN ?_ _ | with_reducible refine Ext.drew ?_ | (with_reducible refine Ext.setCell ?_ ?hp _; case hp => (simp <;> omega))))
set_option maxHeartbeats 1000000 in
theorem checks16  (w : World) (hc : checksOf 16 = [⟨2, 0⟩]) : Calls Tryd.prog 69 #[.int .u16 16] w (ChksPost 16 w) := by
  have Hc := Lib.hid hc
  clear hc
  go_enter Tryd.func69, Tryd.ntmps69
  go_wp2_with (first | (go_at_call 74; refine (mk_number _ _).mono ?_; rintro e w' ⟨rfl, rfl⟩) | (go_at_call 75; refine (mk_named _).mono ?_; rintro e w' ⟨rfl, rfl⟩) | (go_at_call 76; refine (mk_texts _).mono ?_; rintro e w' ⟨rfl, rfl⟩) | (go_at_call 77; refine (mk_rest _).mono ?_; rintro e w' ⟨rfl, rfl⟩))
  refine bodyPost_ret (v := .agg #[.func (.func 83) #[] #[], .nilFunc, .nilFunc]) (by simp [results, Tryd.results69, go_sem]) rfl ⟨_, rfl, ⟨_, _, _, rfl, ?_⟩, ?_⟩
  · rw [Hc.out]
    refine ⟨by decide, ?_, ?_, ?_⟩ <;> first | rfl | exact ⟨_, rfl, by simp [go_sem]⟩
  · (repeat (first | with_reducible exact Ext.refl _ | with_reducible assumption | with_reducible refine Ext.alloc ?_ _ | with_reducible refine Ext.drewN ?_ _ | with_reducible refine Ext.drew ?_ | (with_reducible refine Ext.setCell ?_ ?hp _; case hp => (simp <;> omega))))
set_option maxHeartbeats 1000000 in
theorem checksElse (k : Int) (hne : k ≠ 1 ∧ k ≠ 28 ∧ k ≠ 2 ∧ k ≠ 5 ∧ k ≠ 12 ∧ k ≠ 15 ∧ k ≠ 6 ∧ k ≠ 33 ∧ k ≠ 16) (w : World) (hc : checksOf k = [⟨3, 0⟩]) : Calls Tryd.prog 69 #[.int .u16 k] w (ChksPost k w) := by
  have Hc := Lib.hid hc
  clear hc
  have g1 : (k == 1) = false := by rw [beq_eq_false_iff_ne]; omega
  have g28 : (k == 28) = false := by rw [beq_eq_false_iff_ne]; omega
  have g2 : (k == 2) = false := by rw [beq_eq_false_iff_ne]; omega
  have g5 : (k == 5) = false := by rw [beq_eq_false_iff_ne]; omega
  have g12 : (k == 12) = false := by rw [beq_eq_false_iff_ne]; omega
  have g15 : (k == 15) = false := by rw [beq_eq_false_iff_ne]; omega
  have g6 : (k == 6) = false := by rw [beq_eq_false_iff_ne]; omega
  have g33 : (k == 33) = false := by rw [beq_eq_false_iff_ne]; omega
  have g16 : (k == 16) = false := by rw [beq_eq_false_iff_ne]; omega
  clear hne
  go_enter Tryd.func69, Tryd.ntmps69
  go_wp2_with (first | (go_at_call 74; refine (mk_number _ _).mono ?_; rintro e w' ⟨rfl, rfl⟩) | (go_at_call 75; refine (mk_named _).mono ?_; rintro e w' ⟨rfl, rfl⟩) | (go_at_call 76; refine (mk_texts _).mono ?_; rintro e w' ⟨rfl, rfl⟩) | (go_at_call 77; refine (mk_rest _).mono ?_; rintro e w' ⟨rfl, rfl⟩))
  refine bodyPost_ret (v := .agg #[.func (.func 84) #[] #[], .nilFunc, .nilFunc]) (by simp [results, Tryd.results69, go_sem]) rfl ⟨_, rfl, ⟨_, _, _, rfl, ?_⟩, ?_⟩
  · rw [Hc.out]
    refine ⟨by decide, ?_, ?_, ?_⟩ <;> first | rfl | exact ⟨_, rfl, by simp [go_sem]⟩
  · (repeat (first | with_reducible exact Ext.refl _ | with_reducible assumption | with_reducible refine Ext.alloc ?_ _ | with_reducible refine Ext.drewN ?_ _ | with_reducible refine Ext.drew ?_ | (with_reducible refine Ext.setCell ?_ ?hp _; case hp => (simp <;> omega))))

theorem rdata_checks (k : Int) (w : World) : Calls Tryd.prog 69 #[.int .u16 k] w (ChksPost k w) := by
  by_cases h1 : k = 1
  · subst h1; exact checks1 w rfl
  by_cases h28 : k = 28
  · subst h28; exact checks28 w rfl
  by_cases h2 : k = 2
  · subst h2; exact checks2 w rfl
  by_cases h5 : k = 5
  · subst h5; exact checks5 w rfl
  by_cases h12 : k = 12
  · subst h12; exact checks12 w rfl
  by_cases h15 : k = 15
  · subst h15; exact checks15 w rfl
  by_cases h6 : k = 6
  · subst h6; exact checks6 w rfl
  by_cases h33 : k = 33
  · subst h33; exact checks33 w rfl
  by_cases h16 : k = 16
  · subst h16; exact checks16 w rfl
  exact checksElse k ⟨h1, h28, h2, h5, h12, h15, h6, h33, h16⟩ w (by simp [checksOf, h1, h28, h2, h5, h12, h15, h6, h33, h16])
end Go.Proofs.YtjmfpillnbnofaaDoor
namespace Go.Proofs.YtjmfpillnbnofaaDoor
set_option linter.unusedSimpArgs false
set_option linter.unusedVariables false
open Go.RowKit
set_option maxRecDepth 100000

/-! ### Plain: bounds of what a check reads -/
theorem readF_bd (msg : List UInt8) (n : Nat) : ∀ (s : RdSt), (∀ k, s.nx = some k → k ≤ msg.length) → s.out.length ≤ 254 → (readF msg n s).2.1 ≤ msg.length ∧ (readF msg n s).1.length ≤ 255 := by
  induction n with
  | zero => intro s _ _; simp [readF]
  | succ n ih =>
    intro s h1 h2
    simp only [readF]
    split
    · simp
    · rename_i b hb
      have hlt : s.pos < msg.length := (List.getElem?_eq_some_iff.1 hb).1
      split
      · rcases hn : s.nx with _ | k
        · simp; omega
        · have := h1 k hn; simp; omega
      · split
        · split
          · simp
          · split
            · simp
            · rename_i h0 hb64 hl h255
              have hlen : ((msg.drop (s.pos + 1)).take b.toNat).length = b.toNat := by simp; omega
              exact ih _ h1 (by simp only [List.length_append, List.length_cons, hlen]; omega)
        · split
          · simp
          · split
            · simp
            · rename_i c hc
              have hlt2 : s.pos + 1 < msg.length := (List.getElem?_eq_some_iff.1 hc).1
              split
              · simp
              · refine ih _ (fun k hk => ?_) h2
                rcases hn : s.nx with _ | k'
                · simp [hn] at hk; omega
                · have := h1 k' hn; simp [hn] at hk; omega
theorem readN_bd (msg : List UInt8) (pos : Nat) : (readN msg pos).2.1 ≤ msg.length ∧ (readN msg pos).1.length ≤ 255 := readF_bd msg _ _ (by simp) (by simp)
theorem runChk_bd (c : Chk) (msg : List UInt8) (pos : Nat) (hp : pos ≤ msg.length) (h : (runChk c msg pos).2 = 0) : (runChk c msg pos).1.next ≤ msg.length ∧ (runChk c msg pos).1.text.length ≤ msg.length + 255 := by
  have hr := readN_bd msg pos
  unfold runChk at h ⊢
  match hk : c.kind with
  | 0 =>
    simp only [hk] at h ⊢
    split
    · rename_i h'; simp [h'] at h
    · simp; omega
  | 1 =>
    simp only [hk] at h ⊢
    split
    · rename_i h'; simp [h'] at h
    · exact ⟨hr.1, Nat.le_trans hr.2 (Nat.le_add_left _ _)⟩
  | 2 =>
    simp only [hk] at h ⊢
    split
    · simp; omega
    · rename_i h'; simp [h'] at h
  | _ + 3 => simp; omega

/-- What the parts so far and the rest come to. -/
def comb (pcs : List Pc) (r : List Pc × Nat) : List Pc × Nat := if r.2 ≠ 0 then ([], r.2) else (pcs ++ r.1, 0)
theorem comb_nil (r : List Pc × Nat) (h : r.2 ≠ 0 → r.1 = []) : comb [] r = r := by
  unfold comb
  split
  · rename_i h'; rw [← h h']
  · rename_i h'; rw [List.nil_append]; have : r.2 = 0 := by omega
    rw [← this]
theorem splitL_err (cs : List Chk) (msg : List UInt8) (pos : Nat) (h : (splitL cs msg pos).2 ≠ 0) : (splitL cs msg pos).1 = [] := by
  rcases cs with _ | ⟨c, cs⟩
  · simp only [splitL]; split <;> rfl
  · simp only [splitL] at h ⊢
    split
    · rfl
    · split
      · rfl
      · rename_i h1 h2; rw [if_neg h1, if_neg h2] at h; exact absurd rfl h
theorem comb_bad (pcs : List Pc) (c : Chk) (cs : List Chk) (msg : List UInt8) (pos : Nat) (h : (runChk c msg pos).2 ≠ 0) : comb pcs (splitL (c :: cs) msg pos) = ([], (runChk c msg pos).2) := by
  simp only [splitL, if_pos h, comb]
theorem comb_good (pcs : List Pc) (c : Chk) (cs : List Chk) (msg : List UInt8) (pos : Nat) (h : (runChk c msg pos).2 = 0) :
    comb pcs (splitL (c :: cs) msg pos) = comb (pcs ++ [(runChk c msg pos).1]) (splitL cs msg (runChk c msg pos).1.next) := by
  simp only [splitL, h]
  rw [if_neg (by simp)]
  by_cases h2 : (splitL cs msg (runChk c msg pos).1.next).2 = 0
  · rw [if_neg (by simp [h2])]
    unfold comb
    rw [if_neg (by simp), if_neg (by simp [h2])]
    simp
  · rw [if_pos h2]
    unfold comb
    rw [if_pos h2, if_pos h2]

/-- A row of parts. -/
def Pcs (w : World) (lo : Nat) (v : Value) (l : List Pc) : Prop := ∃ A c, v = .slice A l.length c ∧ Own w lo 153 3 A l.length c (l.flatMap Pc.cells)

theorem info_pc : (Tryd.prog.info? 153).map (fun i => (i.zero, i.size, i.bytes)) = some (some (.agg #[.string ⟨#[]⟩, .bool false, .int .i64 0]), 3, 32) := by kernel_rfl

theorem chks_at {w : World} {v : Value} {l : List Chk} (h : ChksV w v l) (k : Nat) (hk : k < 3) :
    ∃ vk, (∀ W, (Instr.index 164 v (.int .i64 k)).run Tryd.prog W = .ok vk W) ∧ ChkV w vk l[k]? := by
  obtain ⟨v0, v1, v2, rfl, _, h0, h1, h2⟩ := h
  match k, hk with
  | 0, _ => exact ⟨v0, fun _ => by kernel_rfl, h0⟩
  | 1, _ => exact ⟨v1, fun _ => by kernel_rfl, h1⟩
  | 2, _ => exact ⟨v2, fun _ => by kernel_rfl, h2⟩

theorem eql_nilF (W : World) : (binOp BinOp.eql 163 .nilFunc .nilFunc).run Tryd.prog W = .ok (.bool true) W := by kernel_rfl
theorem eql_func (f : Fn) (a b : Array Value) (W : World) : (binOp BinOp.eql 163 (.func f a b) .nilFunc).run Tryd.prog W = .ok (.bool false) W := by kernel_rfl
theorem rd_new (w : World) (g : Nat) (hg : g = w.heap.size) (t : TypeId) (cs : List Value) (n sz : Nat) (hl : cs.length = n * sz) : Rd (w.alloc (.cells cs.toArray t)) 0 sz (some ⟨g, 0, none⟩) n cs := by
  subst hg
  refine ⟨hl, fun _ => ⟨w.heap.size, 0, rfl, Nat.zero_le _, by simp, fun j u hu => ?_⟩⟩
  rw [Nat.zero_add, World.cell?_alloc_mark]
  simpa using hu
theorem pc_one (p : Pc) : ∀ u ∈ p.cells, u.oneCell' = true := by
  intro u hu
  simp [Pc.cells] at hu
  rcases hu with rfl | rfl | rfl <;> rfl
theorem drop_at {α : Type} {l : List α} {k : Nat} {x : α} (h : l[k]? = some x) : l.drop k = x :: l.drop (k + 1) := by
  obtain ⟨h1, h2⟩ := List.getElem?_eq_some_iff.1 h
  rw [List.drop_eq_getElem_cons h1, h2]

theorem checksOf_n (k : Int) : ∀ c ∈ checksOf k, c.n ≤ 20 := by
  intro c hc
  unfold checksOf at hc
  repeat' split at hc
  all_goals (simp at hc; first | (subst hc; simp) | (rcases hc with rfl | rfl <;> simp))
theorem chk_call (msg : List UInt8) (pos : Nat) (hl : msg.length ≤ 140737488351232) (hp : pos ≤ msg.length) {w : World} {v : Value} {ck : Chk} (h : ChkV w v (some ck)) (hn : ck.n ≤ 20) (hg : Laid w) :
    ∃ f cap, v = .func (.func f) #[] cap ∧ (∀ args W, (callFunc f args).run Tryd.prog W = .ok (.enter f args) W) ∧ Calls Tryd.prog f (#[S msg, .int .i64 pos] ++ cap) w fun e w' => e = .returned (.tuple #[(runChk ck msg pos).1.val, .int .i64 (runChk ck msg pos).2]) ∧ Ext w w' := by
  obtain ⟨kd, n⟩ := ck
  match kd, h with
  | 0, ⟨b, e, hc⟩ =>
    refine ⟨_, _, e, fun args W => by kernel_rfl, ?_⟩
    by_cases hs : msg.length - pos < n
    · have := chk_num_short msg pos n b w hl hp (by dsimp only at hn; omega) hc hs
      simpa [runChk, hs] using this
    · have := chk_num msg pos n b w hl hp (by dsimp only at hn; omega) hc hs
      simpa [runChk, hs] using this
  | 1, e =>
    refine ⟨_, _, e, fun args W => by kernel_rfl, ?_⟩
    by_cases hs : (readN msg pos).2.2 = 0
    · have := chk_named msg pos w hg hl hp hs
      simpa [runChk, hs] using this
    · have := chk_named_bad msg pos w hg hl hp hs
      simpa [runChk, hs] using this
  | 2, e =>
    refine ⟨_, _, e, fun args W => by kernel_rfl, ?_⟩
    have := chk_texts msg pos w hl hp
    by_cases hs : textsOk (msg.drop pos) = true
    · simpa [runChk, hs] using this
    · simpa [runChk, hs] using this
  | m + 3, e =>
    refine ⟨_, _, e, fun args W => by kernel_rfl, ?_⟩
    have := chk_rest msg pos w hl hp
    simpa [runChk] using this

def SplitPost (R : List Pc × Nat) (w : World) (e : Ending) (w' : World) : Prop := ∃ v, e = .returned (.tuple #[v, .int .i64 R.2]) ∧ Pcs w' w.heap.size v R.1 ∧ Ext w w'

/-- What holds at a round's head of rdata.split. -/
structure SpInv (w1 : World) (msg : List UInt8) (cs : List Chk) (R : List Pc × Nat) (k p : Nat) (pcs : List Pc) (A : Option Addr) (c : Nat) (wr : World) : Prop where
  k3 : k ≤ 3
  pos : p ≤ msg.length
  len : pcs.length ≤ k
  own : Own wr w1.heap.size 153 3 A pcs.length c (pcs.flatMap Pc.cells)
  ext : Ext w1 wr
  eq : R = comb pcs (splitL (cs.drop k) msg p)

set_option maxHeartbeats 1000000 in
theorem rdata_split (msg : List UInt8) (pos : Nat) (kind : Int) (w : World) (hg : Laid w) (hl : msg.length ≤ 1048576) (hp : pos ≤ msg.length) :
    Calls Tryd.prog 62 #[S msg, .int .i64 pos, .int .u16 kind] w (SplitPost (splitOf msg pos kind) w) := by
  have hl' : msg.length ≤ 140737488351232 := by omega
  by_cases h41 : kind = 41
  · subst h41
    go_enter Tryd.func62, Tryd.ntmps62
    go_wp2
    go_ret2
    exact ⟨_, rfl, ⟨none, 0, rfl, Own.nil _ _ _ _⟩, Ext.refl _⟩
  have f41 : (kind == 41) = false := by rw [beq_eq_false_iff_ne]; exact h41
  have hR : splitOf msg pos kind = splitL (checksOf kind) msg pos := by unfold splitOf; rw [if_neg h41]
  rw [hR]
  clear hR h41
  obtain ⟨R, hR⟩ : ∃ R, R = splitL (checksOf kind) msg pos := ⟨_, rfl⟩
  rw [← hR]
  have HR := Lib.hid hR
  clear hR
  obtain ⟨i0, hi0, hz0, hz1, hz2⟩ := info_parts info_pc
  go_enter Tryd.func62, Tryd.ntmps62
  go_wp2_with fail
  refine (rdata_checks kind w).mono ?_; rintro e w1 ⟨V, rfl, hV, hE1⟩
  have hcn := checksOf_n kind
  generalize checksOf kind = cs at *
  have hcl : cs.length ≤ 3 := by obtain ⟨_, _, _, _, h, _⟩ := hV; exact h
  go_wp2_with fail
  go_loopw [1, 8, 17] (fun p o i wr => ∃ (k pos' : Nat) (pcs : List Pc) (A : Option Addr) (c : Nat), i = .int .i64 k ∧ p = .int .i64 pos' ∧ o = .slice A pcs.length c ∧ SpInv w1 msg cs R k pos' pcs A c wr) (fun _ _ i _ => 3 - (intOf i).toNat)
  case atStart => exact ⟨0, pos, [], none, 0, rfl, rfl, rfl, ⟨by omega, hp, by simp, Own.nil _ _ _ _, Ext.refl _, by rw [HR.out, List.drop_zero, comb_nil _ (splitL_err _ _ _)]⟩⟩
  case round =>
    obtain ⟨k, pos', pcs, A, c, rfl, rfl, rfl, hI⟩ := hrel
    obtain ⟨wo, rfl⟩ : ∃ wo : World, wo = wr := ⟨_, rfl⟩
    have hk3 := hI.k3
    have hpos := hI.pos
    by_cases hk : k < 3
    · obtain ⟨vk, hidx, hvk⟩ := chks_at hV k hk
      have hvk' := hvk.ext hI.ext
      rcases hck : cs[k]? with _ | ck
      · rw [hck] at hvk'
        obtain rfl : vk = .nilFunc := hvk'
        have hE := Lib.hid (show R = comb pcs (if pos' < msg.length then ([], 3) else ([], 0)) by rw [hI.eq, List.drop_of_length_le (List.getElem?_eq_none_iff.1 hck)]; rfl)
        have hn1 := eql_nilF
        clear hvk hck
        by_cases hlt : pos' < msg.length
        · go_wp2_with fail
          go_ret2
          refine ⟨_, by rw [hE.out, if_pos hlt]; rfl, by rw [hE.out, if_pos hlt]; exact ⟨none, 0, rfl, Own.nil _ _ _ _⟩, hE1.trans hI.ext⟩
        · go_wp2_with fail
          go_ret2
          refine ⟨_, by rw [hE.out, if_neg hlt]; rfl, ?_, hE1.trans hI.ext⟩
          rw [hE.out, if_neg hlt]
          refine ⟨A, c, ?_, ?_⟩
          · simp [comb]
          · simpa [comb] using hI.own.lower hE1.size
      · rw [hck] at hvk'
        have Hd := Lib.hid (drop_at hck)
        have hn2 := eql_func
        have hgo := (hg.ext hE1).ext hI.ext
        obtain ⟨f, cap, rfl, hcf, hcall⟩ := chk_call msg pos' hl' hpos hvk' (hcn ck (List.mem_of_getElem? hck)) hgo
        have hbd := runChk_bd ck msg pos' hpos
        have hcb := comb_bad pcs ck (cs.drop (k + 1)) msg pos'
        have hcg := comb_good pcs ck (cs.drop (k + 1)) msg pos'
        have hEq := hI.eq
        rw [Hd.out] at hEq
        generalize hX : runChk ck msg pos' = X at *
        have Hcall := Lib.hid hcall
        have HEq := Lib.hid hEq
        clear hcall hX hEq hvk hvk' hck
        obtain ⟨⟨pt, pn, px⟩, er⟩ := X
        dsimp only at *
        have hlen := hI.len
        by_cases her : er = 0
        · subst her
          have hb1 := (hbd rfl).1
          have Hg := Lib.hid (HEq.out.trans (hcg rfl))
          clear hbd hcb hcg HEq
          go_wp2_with fail
          refine Hcall.out.mono ?_; rintro e w2 ⟨rfl, hE2⟩
          have hw2 := hI.own.ext hE2
          have hz2' : w1.heap.size ≤ w2.heap.size := (hI.ext.trans hE2).size
          go_wp2_with (first
            | (at_builtin
               go_must (refine wpList_app _ rfl (.tmp 32) (.tmp 34) _ rfl w1.heap.size 153 i0 _ 3 32 Tryd.underlying121 hi0 hz0 hz1 hz2 rfl (by omega) A pcs.length c (pcs.flatMap Pc.cells) rfl ((hw2.ext ((Ext.refl _).alloc _)).ext ((Ext.refl _).alloc _)) 0 _ 1 1 (Pc.cells ⟨pt, pn, px⟩) rfl (rd_new _ _ (by simp) _ _ 1 3 rfl) (pc_one _) (by omega) (by omega) (by simp; omega) ?_)
               intro A3 c3 w3 hown3 hg3 hb3 _
               have hq3 : w3.cell? ⟨w2.heap.size, 2, none⟩ = some (.int .i64 px) := hg3.cell (by simp [go_sem]) (fun e => absurd (hw2.blk _ e.symm).2 (Nat.lt_irrefl _))))
          have hE3 : Ext w1 w3 := (((hI.ext.trans hE2).alloc _).alloc _).then hb3 (Nat.le_refl _)
          go_roundw
          case rel =>
            refine ⟨k + 1, px, pcs ++ [⟨pt, pn, px⟩], A3, c3, by go_num, rfl, by simp, ⟨by omega, hb1, by simp; omega, ?_, hE3, Hg.out⟩⟩
            simpa using hown3
          case measure => simp [intOf]; omega
        · have f1 : ((er : Int) == 0) = false := len_ne her
          have f2 : ((er : Int) != 0) = true := by rw [bne, f1]; rfl
          have Hb := Lib.hid (HEq.out.trans (hcb her))
          clear hbd hcb hcg HEq
          go_wp2_with fail
          refine Hcall.out.mono ?_; rintro e w2 ⟨rfl, hE2⟩
          go_wp2_with fail
          go_ret2
          refine ⟨_, by rw [Hb.out]; rfl, by rw [Hb.out]; exact ⟨none, 0, rfl, Own.nil _ _ _ _⟩, (hE1.trans (hI.ext.trans hE2)).alloc _⟩
    · obtain rfl : k = 3 := by omega
      have hE := Lib.hid (show R = comb pcs (if pos' < msg.length then ([], 3) else ([], 0)) by rw [hI.eq, List.drop_of_length_le hcl]; rfl)
      by_cases hlt : pos' < msg.length
      · go_wp2_with fail
        go_ret2
        refine ⟨_, by rw [hE.out, if_pos hlt]; rfl, by rw [hE.out, if_pos hlt]; exact ⟨none, 0, rfl, Own.nil _ _ _ _⟩, hE1.trans hI.ext⟩
      · go_wp2_with fail
        go_ret2
        refine ⟨_, by rw [hE.out, if_neg hlt]; rfl, ?_, hE1.trans hI.ext⟩
        rw [hE.out, if_neg hlt]
        refine ⟨A, c, ?_, ?_⟩
        · simp [comb]
        · simpa [comb] using hI.own.lower hE1.size
end Go.Proofs.YtjmfpillnbnofaaDoor
namespace Go.Proofs.YtjmfpillnbnofaaDoor
set_option linter.unusedSimpArgs false
set_option linter.unusedVariables false
open Go.RowKit
set_option maxRecDepth 100000

/-! ### Plain -/
theorem splitL_bd (msg : List UInt8) : ∀ (cs : List Chk) (pos : Nat), pos ≤ msg.length → (splitL cs msg pos).1.length ≤ cs.length ∧ ∀ p ∈ (splitL cs msg pos).1, p.text.length ≤ msg.length + 255
  | [], pos, _ => by simp only [splitL]; split <;> simp
  | c :: cs, pos, hp => by
    simp only [splitL]
    split
    · simp
    · rename_i h1
      have h1' : (runChk c msg pos).2 = 0 := by omega
      have hb := runChk_bd c msg pos hp h1'
      have ih := splitL_bd msg cs _ hb.1
      split
      · simp
      · refine ⟨by simp; exact ih.1, fun p hpm => ?_⟩
        rcases List.mem_cons.1 hpm with rfl | h
        · exact hb.2
        · exact ih.2 p h
theorem checksOf_len (k : Int) : (checksOf k).length ≤ 3 := by
  unfold checksOf
  repeat' split
  all_goals simp
theorem splitOf_bd (msg : List UInt8) (pos : Nat) (kind : Int) (hp : pos ≤ msg.length) : (splitOf msg pos kind).1.length ≤ 3 ∧ ∀ p ∈ (splitOf msg pos kind).1, p.text.length ≤ msg.length + 255 := by
  unfold splitOf
  split
  · simp
  · have h := splitL_bd msg (checksOf kind) pos hp
    exact ⟨Nat.le_trans h.1 (checksOf_len kind), h.2⟩
theorem textOf_take_le (l : List Pc) (n : Nat) (h : ∀ p ∈ l, p.text.length ≤ n) : (textOf l).length ≤ l.length * n := by
  induction l with
  | nil => simp [textOf]
  | cons p l ih =>
    have h1 := h p (by simp)
    have h2 := ih (fun q hq => h q (by simp [hq]))
    simp only [textOf, List.flatMap_cons, List.length_append, List.length_cons] at *
    rw [Nat.add_mul]; omega
theorem textOf_snoc (l : List Pc) (k : Nat) (h : k < l.length) : textOf (l.take (k + 1)) = textOf (l.take k) ++ l[k].text := by
  rw [take_snoc l k h]
  unfold textOf
  rw [List.flatMap_append, List.flatMap_cons, List.flatMap_nil, List.append_nil]
theorem flat_get {α β : Type} (f : α → List β) (sz : Nat) (hf : ∀ x, (f x).length = sz) : ∀ (l : List α) (k j : Nat) (x : α), l[k]? = some x → j < sz → (l.flatMap f)[k * sz + j]? = (f x)[j]?
  | [], k, j, x, h, _ => by simp at h
  | a :: l, 0, j, x, h, hj => by
    simp at h; subst h
    rw [List.flatMap_cons, Nat.zero_mul, Nat.zero_add, List.getElem?_append_left (by rw [hf]; exact hj)]
  | a :: l, k + 1, j, x, h, hj => by
    simp only [List.getElem?_cons_succ] at h
    rw [List.flatMap_cons, List.getElem?_append_right (by rw [hf, Nat.add_mul]; omega), hf]
    rw [← flat_get f sz hf l k j x h hj]
    congr 1; rw [Nat.add_mul]; omega

/-- The cells of part k. -/
theorem pcs_cells {w : World} {lo b off : Nat} {l : List Pc} {n : Nat} (hc : ∀ j u, (l.flatMap Pc.cells)[j]? = some u → w.cell? ⟨b, off + j, none⟩ = some u) (k : Nat) (p : Pc) (hp : l[k]? = some p) :
    w.cell? ⟨b, off + k * 3, none⟩ = some (S p.text) ∧ w.cell? ⟨b, off + k * 3 + 1, none⟩ = some (.bool p.nm) ∧ w.cell? ⟨b, off + k * 3 + 2, none⟩ = some (.int .i64 p.next) := by
  refine ⟨?_, ?_, ?_⟩
  · exact hc (k * 3 + 0) _ (flat_get Pc.cells 3 (fun _ => rfl) l k 0 p hp (by omega))
  · rw [Nat.add_assoc]; exact hc (k * 3 + 1) _ (flat_get Pc.cells 3 (fun _ => rfl) l k 1 p hp (by omega))
  · rw [Nat.add_assoc]; exact hc (k * 3 + 2) _ (flat_get Pc.cells 3 (fun _ => rfl) l k 2 p hp (by omega))

set_option maxHeartbeats 1000000 in
theorem rdata_text (lo : Nat) (v : Value) (l : List Pc) (w : World) (h : Pcs w lo v l) (hl : l.length ≤ 3) (hb : ∀ p ∈ l, p.text.length ≤ 2097152) :
    Calls Tryd.prog 63 #[v] w fun e w' => e = .returned (S (textOf l)) ∧ Ext w w' := by
  obtain ⟨A, c, rfl, hown⟩ := h
  have hrd := hown.rd
  clear hown
  by_cases h1 : l.length = 1
  · obtain ⟨p, rfl⟩ := List.length_eq_one_iff.1 h1
    obtain ⟨b, off, rfl, _, _, hc⟩ := hrd.2 (by simp)
    obtain ⟨h0, _⟩ := pcs_cells (lo := 0) (n := 0) hc 0 p rfl
    have e1 : textOf [p] = p.text := by simp [textOf]
    rw [e1]
    simp only [Nat.zero_mul, Nat.add_zero] at h0
    clear e1 hc hrd hb hl h1
    go_enter Tryd.func63, Tryd.ntmps63
    go_wp2
    go_ret
    exact ⟨rfl, Ext.refl _⟩
  · have f1 : ((l.length : Int) == 1) = false := by rw [beq_eq_false_iff_ne]; omega
    obtain ⟨i0, hi0, hz0, hz1, hz2⟩ := info_parts info_u8
    go_enter Tryd.func63, Tryd.ntmps63
    go_wp2
    go_loopw [3, 15] (fun o i wr => ∃ (k : Nat) (B : Option Addr) (d : Nat), k ≤ l.length ∧ i = .int .i64 k ∧ o = .slice B (textOf (l.take k)).length d ∧ Own wr w.heap.size 5 1 B (textOf (l.take k)).length d ((textOf (l.take k)).map U8) ∧ Ext w wr) (fun _ i _ => l.length - (intOf i).toNat)
    case atStart => exact ⟨0, none, 0, by omega, rfl, rfl, Own.nil _ _ _ _, Ext.refl _⟩
    case round =>
      obtain ⟨k, B, d, hk, rfl, rfl, hown, hE⟩ := hrel
      obtain ⟨wo, rfl⟩ : ∃ wo : World, wo = wr := ⟨_, rfl⟩
      by_cases hlt : k < l.length
      · have hp : l[k]? = some l[k] := List.getElem?_eq_getElem hlt
        have hpl : l[k].text.length ≤ 2097152 := hb _ (List.getElem_mem hlt)
        have hts : textOf (l.take (k + 1)) = textOf (l.take k) ++ l[k].text := textOf_snoc l k hlt
        have htb := textOf_take_le (l.take k) 2097152 (fun p hp => hb p (List.mem_of_mem_take hp))
        have htl : (l.take k).length ≤ 3 := Nat.le_trans (List.length_take_le _ _) (by omega)
        have htb2 : (textOf (l.take k)).length ≤ 6291456 := Nat.le_trans htb (Nat.mul_le_mul_right 2097152 htl)
        generalize l[k] = p at *
        have Hts := Lib.hid hts
        generalize textOf (l.take k) = T at *
        obtain ⟨b, off, rfl, _, hbz, hc⟩ := hrd.2 (by omega)
        obtain ⟨h0, h1', h2⟩ := pcs_cells (lo := 0) (n := 0) hc k p hp
        rw [← hE.cell (p := ⟨b, _, none⟩) hbz] at h0 h1' h2
        have hbz2 : b < wo.heap.size := Nat.lt_of_lt_of_le hbz hE.size
        clear hts htb htl hc hp hrd hb
        go_wp2_with (
             refine wpList_app_str _ rfl (.tmp 19) (.tmp 21) _ _ rfl w.heap.size 5 i0 Tryd.underlying63 Tryd.underlying9 hi0 hz0 hz1 hz2 B T.length d (T.map U8) rfl (hown.ext ((Ext.refl _).alloc _)) p.text rfl (by omega) (by have := hE.size; simp; omega) ?_
             intro A5 c5 w5 hown5 hg5 hb5)
        go_roundw
        case rel =>
          refine ⟨k + 1, A5, c5, by omega, by go_num, by rw [Hts.out, List.length_append], ?_, (hE.alloc _).then hb5 (Nat.le_refl _)⟩
          rw [Hts.out, List.length_append, List.map_append]
          exact hown5
        case measure => simp [intOf]; omega
      · have e1 : l.take k = l := List.take_of_length_le (by omega)
        rw [e1] at hown ⊢
        clear e1
        have hcv := conv_str d hown.rd
        go_wp2
        go_ret
        exact ⟨rfl, hE⟩

/-- What rdata.whole returns. -/
def WholePost (kind : Int) (data : List UInt8) (w : World) (e : Ending) (w' : World) : Prop := ∃ v, e = .returned (.tuple #[v, .bool (wholeOf kind data).isSome]) ∧ Pcs w' w.heap.size v (partsOf kind data) ∧ Ext w w'
theorem whole_bad {kind : Int} {data : List UInt8} (h : ¬ ((splitOf data 0 kind).2 = 0 ∧ textOf (splitOf data 0 kind).1 = data)) : wholeOf kind data = none := by unfold wholeOf; rw [if_neg h]
theorem whole_good {kind : Int} {data : List UInt8} (h : (splitOf data 0 kind).2 = 0 ∧ textOf (splitOf data 0 kind).1 = data) : wholeOf kind data = some (splitOf data 0 kind).1 := by unfold wholeOf; rw [if_pos h]

theorem str_ne {a b : List UInt8} (h : a ≠ b) : (a == b) = false := by rw [beq_eq_false_iff_ne]; exact h

set_option maxHeartbeats 1000000 in
theorem rdata_whole (kind : Int) (data : List UInt8) (w : World) (hg : Laid w) (hl : data.length ≤ 1048576) :
    Calls Tryd.prog 48 #[.int .u16 kind, S data] w (WholePost kind data w) := by
  have Hs := Lib.hid (rdata_split data 0 kind w hg hl (Nat.zero_le _))
  have hbd := splitOf_bd data 0 kind (Nat.zero_le _)
  have Hbad := Lib.hid (@whole_bad kind data)
  have Hgood := Lib.hid (@whole_good kind data)
  generalize splitOf data 0 kind = R at *
  obtain ⟨l, er⟩ := R
  dsimp only at *
  by_cases her : er = 0
  · subst her
    by_cases ht : textOf l = data
    · have hw := Hgood.out ⟨rfl, ht⟩
      have Hw := Lib.hid hw
      clear hw Hbad Hgood
      have Ht := Lib.hid ht
      clear ht
      go_enter Tryd.func48, Tryd.ntmps48
      go_wp2_with fail
      refine Hs.out.mono ?_; rintro e w1 ⟨v, rfl, hP, hE1⟩
      go_wp2_with fail
      refine (rdata_text _ v l w1 hP hbd.1 (fun p hp => by have := hbd.2 p hp; omega)).mono ?_; rintro e w2 ⟨rfl, hE2⟩
      rw [Ht.out]
      go_wp2_with fail
      go_ret2
      obtain ⟨A, c, rfl, hown⟩ := hP
      refine ⟨_, by rw [Hw.out]; rfl, ?_, hE1.trans hE2⟩
      unfold partsOf
      rw [Hw.out]
      exact ⟨A, c, rfl, hown.ext hE2⟩
    · have hw := Hbad.out (fun h => ht h.2)
      have Hw := Lib.hid hw
      have f1 := str_ne ht
      clear hw Hbad Hgood ht
      go_enter Tryd.func48, Tryd.ntmps48
      go_wp2_with fail
      refine Hs.out.mono ?_; rintro e w1 ⟨v, rfl, hP, hE1⟩
      go_wp2_with fail
      refine (rdata_text _ v l w1 hP hbd.1 (fun p hp => by have := hbd.2 p hp; omega)).mono ?_; rintro e w2 ⟨rfl, hE2⟩
      go_wp2_with fail
      go_ret2
      refine ⟨_, by rw [Hw.out]; rfl, ?_, hE1.trans hE2⟩
      unfold partsOf
      rw [Hw.out]
      exact ⟨none, 0, rfl, Own.nil _ _ _ _⟩
  · have hw := Hbad.out (fun h => her h.1)
    have Hw := Lib.hid hw
    have f1 : ((er : Int) == 0) = false := len_ne her
    have f2 : ((er : Int) != 0) = true := by rw [bne, f1]; rfl
    clear hw Hbad Hgood her
    go_enter Tryd.func48, Tryd.ntmps48
    go_wp2_with fail
    refine Hs.out.mono ?_; rintro e w1 ⟨v, rfl, hP, hE1⟩
    go_wp2_with fail
    go_ret2
    refine ⟨_, by rw [Hw.out]; rfl, ?_, hE1⟩
    unfold partsOf
    rw [Hw.out]
    exact ⟨none, 0, rfl, Own.nil _ _ _ _⟩

theorem info_str : (Tryd.prog.info? 9).map (fun i => (i.zero, i.size, i.bytes)) = some (some (.string ⟨#[]⟩), 1, 16) := by kernel_rfl
theorem str_one (l : List (List UInt8)) : ∀ u ∈ l.map S, u.oneCell' = true := by
  intro u hu
  obtain ⟨b, _, rfl⟩ := List.mem_map.1 hu
  rfl

/-- A []string of the call's own. -/
def OStrs (w : World) (lo : Nat) (v : Value) (l : List (List UInt8)) : Prop := ∃ A c, v = .slice A l.length c ∧ Own w lo 9 1 A l.length c (l.map S)
theorem OStrs.strs {w : World} {lo : Nat} {v : Value} {l : List (List UInt8)} (h : OStrs w lo v l) : Strs w lo v l := by
  obtain ⟨A, c, e, h⟩ := h
  exact ⟨A, c, e, h.cap.1, h.cap.2, h.rd⟩
theorem OStrs.ext {w w' : World} {lo : Nat} {v : Value} {l : List (List UInt8)} (h : OStrs w lo v l) (hE : Ext w w') : OStrs w' lo v l := by
  obtain ⟨A, c, e, h⟩ := h
  exact ⟨A, c, e, h.ext hE⟩
theorem OStrs.lower {w : World} {lo lo' : Nat} {v : Value} {l : List (List UInt8)} (h : OStrs w lo v l) (hl : lo' ≤ lo) : OStrs w lo' v l := by
  obtain ⟨A, c, e, h⟩ := h
  exact ⟨A, c, e, h.lower hl⟩

def NamesPost (l : List (List UInt8)) (w : World) (e : Ending) (w' : World) : Prop := ∃ v, e = .returned v ∧ OStrs w' w.heap.size v l ∧ Ext w w'
/-- The names of the first k parts. -/
def namesTo (l : List Pc) (k : Nat) : List (List UInt8) := ((l.take k).filter Pc.nm).map Pc.text
theorem namesTo_yes (l : List Pc) (k : Nat) (h : k < l.length) (p : Pc) (hp : l[k] = p) (hn : p.nm = true) : namesTo l (k + 1) = namesTo l k ++ [p.text] := by
  unfold namesTo; rw [take_snoc l k h, List.filter_append, hp]; simp [hn]
theorem namesTo_no (l : List Pc) (k : Nat) (h : k < l.length) (p : Pc) (hp : l[k] = p) (hn : p.nm = false) : namesTo l (k + 1) = namesTo l k := by
  unfold namesTo; rw [take_snoc l k h, List.filter_append, hp]; simp [hn]
theorem namesTo_len (l : List Pc) (k : Nat) : (namesTo l k).length ≤ l.length := by
  unfold namesTo
  rw [List.length_map]
  exact Nat.le_trans (List.length_filter_le _ _) (by simp; omega)

theorem partsOf_bd (kind : Int) (data : List UInt8) : (partsOf kind data).length ≤ 3 ∧ ∀ p ∈ partsOf kind data, p.text.length ≤ data.length + 255 := by
  have h := splitOf_bd data 0 kind (Nat.zero_le _)
  unfold partsOf wholeOf
  split
  · exact h
  · simp

end Go.Proofs.YtjmfpillnbnofaaDoor
