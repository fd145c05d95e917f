/- The walks of package rdata: number, named, texts, rest, checks. -/
import Derived.Test.YthdlgmfeicikpaaGreatDoorRdata1
import Derived.Laws.EntriesVeiled
namespace Go.Proofs.YthdlgmfeicikpaaGreatDoor
set_option linter.unusedSimpArgs false
set_option linter.unusedVariables false
open Go.RowKit
set_option maxRecDepth 100000

theorem mk_number (n : Int) (w : World) : Calls Tryz.prog 113 #[.int .i64 n] w fun e w' => e = .returned (.func (.func 122) #[] #[.pointer (some ⟨w.heap.size, 0, none⟩)]) ∧ w' = w.alloc (.cells #[.int .i64 n] 3) := by
  go_enter Tryz.func113, Tryz.ntmps113
  go_wp2
  go_ret
  exact ⟨rfl, rfl⟩
theorem mk_named (w : World) : Calls Tryz.prog 114 #[] w fun e w' => e = .returned (.func (.func 123) #[] #[]) ∧ w = w' := by
  go_enter Tryz.func114, Tryz.ntmps114
  go_wp2
  go_ret
  exact ⟨rfl, rfl⟩
theorem mk_texts (w : World) : Calls Tryz.prog 115 #[] w fun e w' => e = .returned (.func (.func 125) #[] #[]) ∧ w = w' := by
  go_enter Tryz.func115, Tryz.ntmps115
  go_wp2
  go_ret
  exact ⟨rfl, rfl⟩
theorem mk_rest (w : World) : Calls Tryz.prog 116 #[] w fun e w' => e = .returned (.func (.func 126) #[] #[]) ∧ w = w' := by
  go_enter Tryz.func116, Tryz.ntmps116
  go_wp2
  go_ret
  exact ⟨rfl, rfl⟩

/-- A check as a function value. -/
def ChkV (w : World) (v : Value) : Option Chk → Prop
  | none => v = .nilFunc
  | some c => match c.kind with
    | 0 => ∃ b, v = .func (.func 122) #[] #[.pointer (some ⟨b, 0, none⟩)] ∧ w.cell? ⟨b, 0, none⟩ = some (.int .i64 c.n)
    | 1 => v = .func (.func 123) #[] #[]
    | 2 => v = .func (.func 125) #[] #[]
    | _ => v = .func (.func 126) #[] #[]
theorem ChkV.ext {w w' : World} {v : Value} {o : Option Chk} (h : ChkV w v o) (hE : Ext w w') : ChkV w' v o := by
  rcases o with _ | ⟨k, n⟩
  · exact h
  · match k, h with
    | 0, ⟨b, e, hc⟩ => exact ⟨b, e, (hE.cell (p := ⟨b, 0, none⟩) (World.block_lt_of_cell? w _ hc)).trans hc⟩
    | 1, h => exact h
    | 2, h => exact h
    | _ + 3, h => exact h

/-- What rdata.checks returns. -/
def ChksV (w : World) (v : Value) (l : List Chk) : Prop := ∃ v0 v1 v2, v = .agg #[v0, v1, v2] ∧ l.length ≤ 3 ∧ ChkV w v0 l[0]? ∧ ChkV w v1 l[1]? ∧ ChkV w v2 l[2]?

def ChksPost (k : Int) (w : World) (e : Ending) (w' : World) : Prop := ∃ v, e = .returned v ∧ ChksV w' v (checksOf k) ∧ Ext w w'

set_option maxHeartbeats 1000000 in
theorem checks1  (w : World) (hc : checksOf 1 = [⟨0, 4⟩]) : Calls Tryz.prog 100 #[.int .u16 1] w (ChksPost 1 w) := by
  have Hc := Lib.hid hc
  clear hc
  go_enter Tryz.func100, Tryz.ntmps100
  go_wp2_with (first | (go_at_call 113; refine (mk_number _ _).mono ?_; rintro e w' ⟨rfl, rfl⟩) | (go_at_call 114; refine (mk_named _).mono ?_; rintro e w' ⟨rfl, rfl⟩) | (go_at_call 115; refine (mk_texts _).mono ?_; rintro e w' ⟨rfl, rfl⟩) | (go_at_call 116; refine (mk_rest _).mono ?_; rintro e w' ⟨rfl, rfl⟩))
  refine bodyPost_ret (v := .agg #[.func (.func 122) #[] #[.pointer (some ⟨w.heap.size + 1, 0, none⟩)], .nilFunc, .nilFunc]) (by simp [results, Tryz.results100, go_sem]) rfl ⟨_, rfl, ⟨_, _, _, rfl, ?_⟩, ?_⟩
  · rw [Hc.out]
    refine ⟨by decide, ?_, ?_, ?_⟩ <;> first | rfl | exact ⟨_, rfl, by simp [go_sem]⟩
  · (repeat (first | with_reducible exact Ext.refl _ | with_reducible assumption | with_reducible refine Ext.alloc ?_ _ | with_reducible refine Ext.drewN ?_ _ | with_reducible refine Ext.drew ?_ | (with_reducible refine Ext.setCell ?_ ?hp _; case hp => (simp <;> omega))))
set_option maxHeartbeats 1000000 in
theorem checks28  (w : World) (hc : checksOf 28 = [⟨0, 16⟩]) : Calls Tryz.prog 100 #[.int .u16 28] w (ChksPost 28 w) := by
  have Hc := Lib.hid hc
  clear hc
  go_enter Tryz.func100, Tryz.ntmps100
  go_wp2_with (first | (go_at_call 113; refine (mk_number _ _).mono ?_; rintro e w' ⟨rfl, rfl⟩) | (go_at_call 114; refine (mk_named _).mono ?_; rintro e w' ⟨rfl, rfl⟩) | (go_at_call 115; refine (mk_texts _).mono ?_; rintro e w' ⟨rfl, rfl⟩) | (go_at_call 116; refine (mk_rest _).mono ?_; rintro e w' ⟨rfl, rfl⟩))
  refine bodyPost_ret (v := .agg #[.func (.func 122) #[] #[.pointer (some ⟨w.heap.size + 1, 0, none⟩)], .nilFunc, .nilFunc]) (by simp [results, Tryz.results100, go_sem]) rfl ⟨_, rfl, ⟨_, _, _, rfl, ?_⟩, ?_⟩
  · rw [Hc.out]
    refine ⟨by decide, ?_, ?_, ?_⟩ <;> first | rfl | exact ⟨_, rfl, by simp [go_sem]⟩
  · (repeat (first | with_reducible exact Ext.refl _ | with_reducible assumption | with_reducible refine Ext.alloc ?_ _ | with_reducible refine Ext.drewN ?_ _ | with_reducible refine Ext.drew ?_ | (with_reducible refine Ext.setCell ?_ ?hp _; case hp => (simp <;> omega))))
set_option maxHeartbeats 1000000 in
theorem checks2  (w : World) (hc : checksOf 2 = [⟨1, 0⟩]) : Calls Tryz.prog 100 #[.int .u16 2] w (ChksPost 2 w) := by
  have Hc := Lib.hid hc
  clear hc
  go_enter Tryz.func100, Tryz.ntmps100
  go_wp2_with (first | (go_at_call 113; refine (mk_number _ _).mono ?_; rintro e w' ⟨rfl, rfl⟩) | (go_at_call 114; refine (mk_named _).mono ?_; rintro e w' ⟨rfl, rfl⟩) | (go_at_call 115; refine (mk_texts _).mono ?_; rintro e w' ⟨rfl, rfl⟩) | (go_at_call 116; refine (mk_rest _).mono ?_; rintro e w' ⟨rfl, rfl⟩))
  refine bodyPost_ret (v := .agg #[.func (.func 123) #[] #[], .nilFunc, .nilFunc]) (by simp [results, Tryz.results100, go_sem]) rfl ⟨_, rfl, ⟨_, _, _, rfl, ?_⟩, ?_⟩
  · rw [Hc.out]
    refine ⟨by decide, ?_, ?_, ?_⟩ <;> first | rfl | exact ⟨_, rfl, by simp [go_sem]⟩
  · (repeat (first | with_reducible exact Ext.refl _ | with_reducible assumption | with_reducible refine Ext.alloc ?_ _ | with_reducible refine Ext.drewN ?_ _ | with_reducible refine Ext.drew ?_ | (with_reducible refine Ext.setCell ?_ ?hp _; case hp => (simp <;> omega))))
set_option maxHeartbeats 1000000 in
theorem checks5  (w : World) (hc : checksOf 5 = [⟨1, 0⟩]) : Calls Tryz.prog 100 #[.int .u16 5] w (ChksPost 5 w) := by
  have Hc := Lib.hid hc
  clear hc
  go_enter Tryz.func100, Tryz.ntmps100
  go_wp2_with (first | (go_at_call 113; refine (mk_number _ _).mono ?_; rintro e w' ⟨rfl, rfl⟩) | (go_at_call 114; refine (mk_named _).mono ?_; rintro e w' ⟨rfl, rfl⟩) | (go_at_call 115; refine (mk_texts _).mono ?_; rintro e w' ⟨rfl, rfl⟩) | (go_at_call 116; refine (mk_rest _).mono ?_; rintro e w' ⟨rfl, rfl⟩))
  refine bodyPost_ret (v := .agg #[.func (.func 123) #[] #[], .nilFunc, .nilFunc]) (by simp [results, Tryz.results100, go_sem]) rfl ⟨_, rfl, ⟨_, _, _, rfl, ?_⟩, ?_⟩
  · rw [Hc.out]
    refine ⟨by decide, ?_, ?_, ?_⟩ <;> first | rfl | exact ⟨_, rfl, by simp [go_sem]⟩
  · (repeat (first | with_reducible exact Ext.refl _ | with_reducible assumption | with_reducible refine Ext.alloc ?_ _ | with_reducible refine Ext.drewN ?_ _ | with_reducible refine Ext.drew ?_ | (with_reducible refine Ext.setCell ?_ ?hp _; case hp => (simp <;> omega))))
set_option maxHeartbeats 1000000 in
theorem checks12  (w : World) (hc : checksOf 12 = [⟨1, 0⟩]) : Calls Tryz.prog 100 #[.int .u16 12] w (ChksPost 12 w) := by
  have Hc := Lib.hid hc
  clear hc
  go_enter Tryz.func100, Tryz.ntmps100
  go_wp2_with (first | (go_at_call 113; refine (mk_number _ _).mono ?_; rintro e w' ⟨rfl, rfl⟩) | (go_at_call 114; refine (mk_named _).mono ?_; rintro e w' ⟨rfl, rfl⟩) | (go_at_call 115; refine (mk_texts _).mono ?_; rintro e w' ⟨rfl, rfl⟩) | (go_at_call 116; refine (mk_rest _).mono ?_; rintro e w' ⟨rfl, rfl⟩))
  refine bodyPost_ret (v := .agg #[.func (.func 123) #[] #[], .nilFunc, .nilFunc]) (by simp [results, Tryz.results100, go_sem]) rfl ⟨_, rfl, ⟨_, _, _, rfl, ?_⟩, ?_⟩
  · rw [Hc.out]
    refine ⟨by decide, ?_, ?_, ?_⟩ <;> first | rfl | exact ⟨_, rfl, by simp [go_sem]⟩
  · (repeat (first | with_reducible exact Ext.refl _ | with_reducible assumption | with_reducible refine Ext.alloc ?_ _ | with_reducible refine Ext.drewN ?_ _ | with_reducible refine Ext.drew ?_ | (with_reducible refine Ext.setCell ?_ ?hp _; case hp => (simp <;> omega))))
set_option maxHeartbeats 1000000 in
theorem checks15  (w : World) (hc : checksOf 15 = [⟨0, 2⟩, ⟨1, 0⟩]) : Calls Tryz.prog 100 #[.int .u16 15] w (ChksPost 15 w) := by
  have Hc := Lib.hid hc
  clear hc
  go_enter Tryz.func100, Tryz.ntmps100
  go_wp2_with (first | (go_at_call 113; refine (mk_number _ _).mono ?_; rintro e w' ⟨rfl, rfl⟩) | (go_at_call 114; refine (mk_named _).mono ?_; rintro e w' ⟨rfl, rfl⟩) | (go_at_call 115; refine (mk_texts _).mono ?_; rintro e w' ⟨rfl, rfl⟩) | (go_at_call 116; refine (mk_rest _).mono ?_; rintro e w' ⟨rfl, rfl⟩))
  refine bodyPost_ret (v := .agg #[.func (.func 122) #[] #[.pointer (some ⟨w.heap.size + 1, 0, none⟩)], .func (.func 123) #[] #[], .nilFunc]) (by simp [results, Tryz.results100, go_sem]) rfl ⟨_, rfl, ⟨_, _, _, rfl, ?_⟩, ?_⟩
  · rw [Hc.out]
    refine ⟨by decide, ?_, ?_, ?_⟩ <;> first | rfl | exact ⟨_, rfl, by simp [go_sem]⟩
  · (repeat (first | with_reducible exact Ext.refl _ | with_reducible assumption | with_reducible refine Ext.alloc ?_ _ | with_reducible refine Ext.drewN ?_ _ | with_reducible refine Ext.drew ?_ | (with_reducible refine Ext.setCell ?_ ?hp _; case hp => (simp <;> omega))))
set_option maxHeartbeats 1000000 in
theorem checks6  (w : World) (hc : checksOf 6 = [⟨1, 0⟩, ⟨1, 0⟩, ⟨0, 20⟩]) : Calls Tryz.prog 100 #[.int .u16 6] w (ChksPost 6 w) := by
  have Hc := Lib.hid hc
  clear hc
  go_enter Tryz.func100, Tryz.ntmps100
  go_wp2_with (first | (go_at_call 113; refine (mk_number _ _).mono ?_; rintro e w' ⟨rfl, rfl⟩) | (go_at_call 114; refine (mk_named _).mono ?_; rintro e w' ⟨rfl, rfl⟩) | (go_at_call 115; refine (mk_texts _).mono ?_; rintro e w' ⟨rfl, rfl⟩) | (go_at_call 116; refine (mk_rest _).mono ?_; rintro e w' ⟨rfl, rfl⟩))
  refine bodyPost_ret (v := .agg #[.func (.func 123) #[] #[], .func (.func 123) #[] #[], .func (.func 122) #[] #[.pointer (some ⟨w.heap.size + 1, 0, none⟩)]]) (by simp [results, Tryz.results100, go_sem]) rfl ⟨_, rfl, ⟨_, _, _, rfl, ?_⟩, ?_⟩
  · rw [Hc.out]
    refine ⟨by decide, ?_, ?_, ?_⟩ <;> first | rfl | exact ⟨_, rfl, by simp [go_sem]⟩
  · (repeat (first | with_reducible exact Ext.refl _ | with_reducible assumption | with_reducible refine Ext.alloc ?_ _ | with_reducible refine Ext.drewN ?_ _ | with_reducible refine Ext.drew ?_ | (with_reducible refine Ext.setCell ?_ ?hp _; case hp => (simp <;> omega))))
set_option maxHeartbeats 1000000 in
theorem checks33  (w : World) (hc : checksOf 33 = [⟨0, 6⟩, ⟨1, 0⟩]) : Calls Tryz.prog 100 #[.int .u16 33] w (ChksPost 33 w) := by
  have Hc := Lib.hid hc
  clear hc
  go_enter Tryz.func100, Tryz.ntmps100
  go_wp2_with (first | (go_at_call 113; refine (mk_number _ _).mono ?_; rintro e w' ⟨rfl, rfl⟩) | (go_at_call 114; refine (mk_named _).mono ?_; rintro e w' ⟨rfl, rfl⟩) | (go_at_call 115; refine (mk_texts _).mono ?_; rintro e w' ⟨rfl, rfl⟩) | (go_at_call 116; refine (mk_rest _).mono ?_; rintro e w' ⟨rfl, rfl⟩))
  refine bodyPost_ret (v := .agg #[.func (.func 122) #[] #[.pointer (some ⟨w.heap.size + 1, 0, none⟩)], .func (.func 123) #[] #[], .nilFunc]) (by simp [results, Tryz.results100, go_sem]) rfl ⟨_, rfl, ⟨_, _, _, rfl, ?_⟩, ?_⟩
  · rw [Hc.out]
    refine ⟨by decide, ?_, ?_, ?_⟩ <;> first | rfl | exact ⟨_, rfl, by simp [go_sem]⟩
  · (repeat (first | with_reducible exact Ext.refl _ | with_reducible assumption | with_reducible refine Ext.alloc ?_ _ | with_reducible refine Ext.drewN ?_ _ | with_reducible refine Ext.drew ?_ | (with_reducible refine Ext.setCell ?_ ?hp _; case hp => (simp <;> omega))))
set_option maxHeartbeats 1000000 in
theorem checks16  (w : World) (hc : checksOf 16 = [⟨2, 0⟩]) : Calls Tryz.prog 100 #[.int .u16 16] w (ChksPost 16 w) := by
  have Hc := Lib.hid hc
  clear hc
  go_enter Tryz.func100, Tryz.ntmps100
  go_wp2_with (first | (go_at_call 113; refine (mk_number _ _).mono ?_; rintro e w' ⟨rfl, rfl⟩) | (go_at_call 114; refine (mk_named _).mono ?_; rintro e w' ⟨rfl, rfl⟩) | (go_at_call 115; refine (mk_texts _).mono ?_; rintro e w' ⟨rfl, rfl⟩) | (go_at_call 116; refine (mk_rest _).mono ?_; rintro e w' ⟨rfl, rfl⟩))
  refine bodyPost_ret (v := .agg #[.func (.func 125) #[] #[], .nilFunc, .nilFunc]) (by simp [results, Tryz.results100, go_sem]) rfl ⟨_, rfl, ⟨_, _, _, rfl, ?_⟩, ?_⟩
  · rw [Hc.out]
    refine ⟨by decide, ?_, ?_, ?_⟩ <;> first | rfl | exact ⟨_, rfl, by simp [go_sem]⟩
  · (repeat (first | with_reducible exact Ext.refl _ | with_reducible assumption | with_reducible refine Ext.alloc ?_ _ | with_reducible refine Ext.drewN ?_ _ | with_reducible refine Ext.drew ?_ | (with_reducible refine Ext.setCell ?_ ?hp _; case hp => (simp <;> omega))))
set_option maxHeartbeats 1000000 in
theorem checksElse (k : Int) (hne : k ≠ 1 ∧ k ≠ 28 ∧ k ≠ 2 ∧ k ≠ 5 ∧ k ≠ 12 ∧ k ≠ 15 ∧ k ≠ 6 ∧ k ≠ 33 ∧ k ≠ 16) (w : World) (hc : checksOf k = [⟨3, 0⟩]) : Calls Tryz.prog 100 #[.int .u16 k] w (ChksPost k w) := by
  have Hc := Lib.hid hc
  clear hc
  have g1 : (k == 1) = false := by rw [beq_eq_false_iff_ne]; omega
  have g28 : (k == 28) = false := by rw [beq_eq_false_iff_ne]; omega
  have g2 : (k == 2) = false := by rw [beq_eq_false_iff_ne]; omega
  have g5 : (k == 5) = false := by rw [beq_eq_false_iff_ne]; omega
  have g12 : (k == 12) = false := by rw [beq_eq_false_iff_ne]; omega
  have g15 : (k == 15) = false := by rw [beq_eq_false_iff_ne]; omega
  have g6 : (k == 6) = false := by rw [beq_eq_false_iff_ne]; omega
  have g33 : (k == 33) = false := by rw [beq_eq_false_iff_ne]; omega
  have g16 : (k == 16) = false := by rw [beq_eq_false_iff_ne]; omega
  clear hne
  go_enter Tryz.func100, Tryz.ntmps100
  go_wp2_with (first | (go_at_call 113; refine (mk_number _ _).mono ?_; rintro e w' ⟨rfl, rfl⟩) | (go_at_call 114; refine (mk_named _).mono ?_; rintro e w' ⟨rfl, rfl⟩) | (go_at_call 115; refine (mk_texts _).mono ?_; rintro e w' ⟨rfl, rfl⟩) | (go_at_call 116; refine (mk_rest _).mono ?_; rintro e w' ⟨rfl, rfl⟩))
  refine bodyPost_ret (v := .agg #[.func (.func 126) #[] #[], .nilFunc, .nilFunc]) (by simp [results, Tryz.results100, go_sem]) rfl ⟨_, rfl, ⟨_, _, _, rfl, ?_⟩, ?_⟩
  · rw [Hc.out]
    refine ⟨by decide, ?_, ?_, ?_⟩ <;> first | rfl | exact ⟨_, rfl, by simp [go_sem]⟩
  · (repeat (first | with_reducible exact Ext.refl _ | with_reducible assumption | with_reducible refine Ext.alloc ?_ _ | with_reducible refine Ext.drewN ?_ _ | with_reducible refine Ext.drew ?_ | (with_reducible refine Ext.setCell ?_ ?hp _; case hp => (simp <;> omega))))

theorem rdata_checks (k : Int) (w : World) : Calls Tryz.prog 100 #[.int .u16 k] w (ChksPost k w) := by
  by_cases h1 : k = 1
  · subst h1; exact checks1 w rfl
  by_cases h28 : k = 28
  · subst h28; exact checks28 w rfl
  by_cases h2 : k = 2
  · subst h2; exact checks2 w rfl
  by_cases h5 : k = 5
  · subst h5; exact checks5 w rfl
  by_cases h12 : k = 12
  · subst h12; exact checks12 w rfl
  by_cases h15 : k = 15
  · subst h15; exact checks15 w rfl
  by_cases h6 : k = 6
  · subst h6; exact checks6 w rfl
  by_cases h33 : k = 33
  · subst h33; exact checks33 w rfl
  by_cases h16 : k = 16
  · subst h16; exact checks16 w rfl
  exact checksElse k ⟨h1, h28, h2, h5, h12, h15, h6, h33, h16⟩ w (by simp [checksOf, h1, h28, h2, h5, h12, h15, h6, h33, h16])
end Go.Proofs.YthdlgmfeicikpaaGreatDoor
