/- The walk of hustingslaw09.awake: the examples. -/
import Derived.Test.YthdlgmfeicikpaaGreatDoorLaw9b
namespace Go.Proofs.YthdlgmfeicikpaaGreatDoor
set_option linter.unusedSimpArgs false
set_option linter.unusedVariables false
open Go.RowKit
set_option maxRecDepth 100000
instance (l : List RecD) : Decidable (RecsBd l) := by unfold RecsBd; infer_instance
theorem recs_lit (w : World) (g lo : Nat) (hg : g = w.heap.size) (hlo : lo ≤ 0) (l : List RecD) (hl : l.length ≤ 4096) : Recs (w.alloc (.cells (l.flatMap recCells).toArray 38)) lo (.slice (some ⟨g, 0, none⟩) l.length l.length) l := by
  obtain rfl : lo = 0 := by omega
  refine ⟨_, _, rfl, Nat.le_refl _, by unfold maxLen; omega, rd_new _ _ hg _ _ _ _ ?_⟩
  clear hl
  induction l with
  | nil => rfl
  | cons a l ih => rw [List.flatMap_cons, List.length_append, ih, List.length_cons]; show 5 + _ = _; omega
theorem told_at (a : Int) (h : List UInt8) (b er : Int) (lo : Nat) (n : List UInt8) (ty cls : Int) (v : Value) (l : List RecD) (w : World) (hg : Laid w) (hr : Recs w lo v l) (hbd : RecsBd l) (hn : n.length ≤ 1048576)
    (heq : (fun R : FolR => ((R.path.length : Int), R.here, (R.fin.length : Int), (R.err : Int))) (followOf n ty cls (groupR l)) = (a, h, b, er)) :
    Calls Tryz.prog 59 #[.agg #[S n, .int .u16 ty, .int .u16 cls], v] w fun e w' => e = .returned (.tuple #[.int .i64 a, S h, .int .i64 b, .int .i64 er]) ∧ Ext w w' := by
  refine (law_told lo n ty cls v l w hg hr hbd hn).mono ?_
  rintro e w' ⟨rfl, hE⟩
  injection heq with h1 h2
  injection h2 with h2 h3
  injection h3 with h3 h4
  exact ⟨by rw [h1, h2, h3, h4], hE⟩

set_option maxHeartbeats 8000000 in
theorem law_awake (w : World) (hg : Laid w) : Calls Tryz.prog 37 #[] w fun e w' => e = .returned (.bool true) ∧ Ext w w' := by
  have hE0 : Ext w w := Ext.refl w
  go_enter Tryz.func37, Tryz.ntmps37
  go_wp2_with fail
  refine (law_of 119 119 1 _ rfl).mono ?_; rintro e w1 ⟨rfl, hx⟩
  have hE1 : Ext w w1 := Ext.trans hE0 hx
  clear hx
  go_wp2_with fail
  refine (law_alias 119 97 119 97 _ rfl rfl).mono ?_; rintro e w2 ⟨rfl, hx⟩
  have hE2 : Ext w w2 := Ext.trans hE1 hx
  clear hx
  go_wp2_with fail
  refine (law_address 97 97 _ rfl).mono ?_; rintro e w3 ⟨rfl, hx⟩
  have hE3 : Ext w w3 := Ext.trans hE2 hx
  clear hx
  go_wp2_with fail
  refine (told_at 1 (letterL 97) 1 0 0 (letterL 119) 1 1 _ ([aliasR 119 97, addrR 97]) _ (hg.ext ((hE3).alloc _)) (recs_lit _ _ _ rfl (Nat.zero_le _) _ (by decide)) (by as_aux_lemma => decide) (by decide) (by as_aux_lemma => kernel_rfl)).mono ?_; rintro e w4 ⟨rfl, hx⟩
  have hE4 : Ext w w4 := Ext.trans ((hE3).alloc _) hx
  clear hx
  go_wp2_with fail
  refine (law_of 119 119 5 _ rfl).mono ?_; rintro e w5 ⟨rfl, hx⟩
  have hE5 : Ext w w5 := Ext.trans hE4 hx
  clear hx
  go_wp2_with fail
  refine (law_alias 119 97 119 97 _ rfl rfl).mono ?_; rintro e w6 ⟨rfl, hx⟩
  have hE6 : Ext w w6 := Ext.trans hE5 hx
  clear hx
  go_wp2_with fail
  refine (law_address 97 97 _ rfl).mono ?_; rintro e w7 ⟨rfl, hx⟩
  have hE7 : Ext w w7 := Ext.trans hE6 hx
  clear hx
  go_wp2_with fail
  refine (told_at 0 (letterL 119) 1 0 0 (letterL 119) 5 1 _ ([aliasR 119 97, addrR 97]) _ (hg.ext ((hE7).alloc _)) (recs_lit _ _ _ rfl (Nat.zero_le _) _ (by decide)) (by as_aux_lemma => decide) (by decide) (by as_aux_lemma => kernel_rfl)).mono ?_; rintro e w8 ⟨rfl, hx⟩
  have hE8 : Ext w w8 := Ext.trans ((hE7).alloc _) hx
  clear hx
  go_wp2_with fail
  refine (law_of 98 98 1 _ rfl).mono ?_; rintro e w9 ⟨rfl, hx⟩
  have hE9 : Ext w w9 := Ext.trans hE8 hx
  clear hx
  go_wp2_with fail
  refine (law_alias 119 97 119 97 _ rfl rfl).mono ?_; rintro e w10 ⟨rfl, hx⟩
  have hE10 : Ext w w10 := Ext.trans hE9 hx
  clear hx
  go_wp2_with fail
  refine (law_address 97 97 _ rfl).mono ?_; rintro e w11 ⟨rfl, hx⟩
  have hE11 : Ext w w11 := Ext.trans hE10 hx
  clear hx
  go_wp2_with fail
  refine (told_at 0 (letterL 98) 0 0 0 (letterL 98) 1 1 _ ([aliasR 119 97, addrR 97]) _ (hg.ext ((hE11).alloc _)) (recs_lit _ _ _ rfl (Nat.zero_le _) _ (by decide)) (by as_aux_lemma => decide) (by decide) (by as_aux_lemma => kernel_rfl)).mono ?_; rintro e w12 ⟨rfl, hx⟩
  have hE12 : Ext w w12 := Ext.trans ((hE11).alloc _) hx
  clear hx
  go_wp2_with fail
  refine (law_of 97 97 1 _ rfl).mono ?_; rintro e w13 ⟨rfl, hx⟩
  have hE13 : Ext w w13 := Ext.trans hE12 hx
  clear hx
  go_wp2_with fail
  refine (law_alias 97 98 97 98 _ rfl rfl).mono ?_; rintro e w14 ⟨rfl, hx⟩
  have hE14 : Ext w w14 := Ext.trans hE13 hx
  clear hx
  go_wp2_with fail
  refine (law_alias 98 97 98 97 _ rfl rfl).mono ?_; rintro e w15 ⟨rfl, hx⟩
  have hE15 : Ext w w15 := Ext.trans hE14 hx
  clear hx
  go_wp2_with fail
  refine (told_at 0 ([]) 0 8 0 (letterL 97) 1 1 _ ([aliasR 97 98, aliasR 98 97]) _ (hg.ext ((hE15).alloc _)) (recs_lit _ _ _ rfl (Nat.zero_le _) _ (by decide)) (by as_aux_lemma => decide) (by decide) (by as_aux_lemma => kernel_rfl)).mono ?_; rintro e w16 ⟨rfl, hx⟩
  have hE16 : Ext w w16 := Ext.trans ((hE15).alloc _) hx
  clear hx
  go_wp2_with fail
  refine (law_of 97 97 1 _ rfl).mono ?_; rintro e w17 ⟨rfl, hx⟩
  have hE17 : Ext w w17 := Ext.trans hE16 hx
  clear hx
  go_wp2_with fail
  refine (law_alias 97 97 97 97 _ rfl rfl).mono ?_; rintro e w18 ⟨rfl, hx⟩
  have hE18 : Ext w w18 := Ext.trans hE17 hx
  clear hx
  go_wp2_with fail
  refine (told_at 0 ([]) 0 8 0 (letterL 97) 1 1 _ ([aliasR 97 97]) _ (hg.ext ((hE18).alloc _)) (recs_lit _ _ _ rfl (Nat.zero_le _) _ (by decide)) (by as_aux_lemma => decide) (by decide) (by as_aux_lemma => kernel_rfl)).mono ?_; rintro e w19 ⟨rfl, hx⟩
  have hE19 : Ext w w19 := Ext.trans ((hE18).alloc _) hx
  clear hx
  go_wp2_with fail
  refine (law_of 97 97 1 _ rfl).mono ?_; rintro e w20 ⟨rfl, hx⟩
  have hE20 : Ext w w20 := Ext.trans hE19 hx
  clear hx
  go_wp2_with fail
  refine (law_alias 97 98 97 98 _ rfl rfl).mono ?_; rintro e w21 ⟨rfl, hx⟩
  have hE21 : Ext w w21 := Ext.trans hE20 hx
  clear hx
  go_wp2_with fail
  refine (law_address 97 97 _ rfl).mono ?_; rintro e w22 ⟨rfl, hx⟩
  have hE22 : Ext w w22 := Ext.trans hE21 hx
  clear hx
  go_wp2_with fail
  refine (told_at 0 ([]) 0 3 0 (letterL 97) 1 1 _ ([aliasR 97 98, addrR 97]) _ (hg.ext ((hE22).alloc _)) (recs_lit _ _ _ rfl (Nat.zero_le _) _ (by decide)) (by as_aux_lemma => decide) (by decide) (by as_aux_lemma => kernel_rfl)).mono ?_; rintro e w23 ⟨rfl, hx⟩
  have hE23 : Ext w w23 := Ext.trans ((hE22).alloc _) hx
  clear hx
  go_wp2_with fail
  refine (law_of 97 97 28 _ rfl).mono ?_; rintro e w24 ⟨rfl, hx⟩
  have hE24 : Ext w w24 := Ext.trans hE23 hx
  clear hx
  go_wp2_with fail
  refine (law_alias 97 98 97 98 _ rfl rfl).mono ?_; rintro e w25 ⟨rfl, hx⟩
  have hE25 : Ext w w25 := Ext.trans hE24 hx
  clear hx
  go_wp2_with fail
  refine (law_address 97 97 _ rfl).mono ?_; rintro e w26 ⟨rfl, hx⟩
  have hE26 : Ext w w26 := Ext.trans hE25 hx
  clear hx
  go_wp2_with fail
  refine (told_at 1 (letterL 98) 0 0 0 (letterL 97) 28 1 _ ([aliasR 97 98, addrR 97]) _ (hg.ext ((hE26).alloc _)) (recs_lit _ _ _ rfl (Nat.zero_le _) _ (by decide)) (by as_aux_lemma => decide) (by decide) (by as_aux_lemma => kernel_rfl)).mono ?_; rintro e w27 ⟨rfl, hx⟩
  have hE27 : Ext w w27 := Ext.trans ((hE26).alloc _) hx
  clear hx
  go_wp2_with fail
  refine (law_letter 97 97 _ rfl).mono ?_; rintro e w28 ⟨rfl, hx⟩
  have hE28 : Ext w w28 := Ext.trans hE27 hx
  clear hx
  go_wp2_with fail
  refine (law_letter 119 119 _ rfl).mono ?_; rintro e w29 ⟨rfl, hx⟩
  have hE29 : Ext w w29 := Ext.trans hE28 hx
  clear hx
  go_wp2_with fail
  refine (law_letter 98 98 _ rfl).mono ?_; rintro e w30 ⟨rfl, hx⟩
  have hE30 : Ext w w30 := Ext.trans hE29 hx
  clear hx
  go_wp2_with fail
  refine (law_letter 98 98 _ rfl).mono ?_; rintro e w31 ⟨rfl, hx⟩
  have hE31 : Ext w w31 := Ext.trans hE30 hx
  clear hx
  go_wp2_with fail
  go_ret
  exact ⟨rfl, hE31⟩
end Go.Proofs.YthdlgmfeicikpaaGreatDoor
