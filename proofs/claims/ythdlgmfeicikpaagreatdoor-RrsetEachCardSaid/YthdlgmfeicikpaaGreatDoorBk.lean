/- Contracts of functions and plain lemmas that the proofs of this seat share (joined texts). No condition. -/
import Derived.Test.YthdlgmfeicikpaaGreatDoorBg
import Derived.Test.YthdlgmfeicikpaaGreatDoorBd
import Derived.Deep.RegionHeld3
import Derived.Deep.DeepMust
namespace Go.Proofs.YthdlgmfeicikpaaGreatDoor
set_option linter.unusedSimpArgs false
set_option linter.unusedVariables false
open Go.RowKit
set_option maxRecDepth 100000

def letterL (c : UInt8) : List UInt8 := if c = 0 then [0] else [1, c, 0]
def aliasR (c d : UInt8) : RecD := ⟨letterL c, 5, 1, 0, letterL d⟩
def addrR (c : UInt8) : RecD := ⟨letterL c, 1, 1, 0, [10, 0, 0, 1]⟩

theorem law_letter (c : UInt8) (x : Int) (w : World) (hx : x = c.toNat) :
    Calls Tryz.prog 63 #[.int .u8 x] w fun e w' => e = .returned (S (letterL c)) ∧ Ext w w' := by
  by_cases h0 : c = 0
  · subst h0
    obtain rfl : x = 0 := hx
    go_enter Tryz.func63, Tryz.ntmps63
    go_wp2
    go_ret
    exact ⟨rfl, Ext.refl _⟩
  · have hne : c.toNat ≠ 0 := fun h => h0 (UInt8.toNat_inj.1 (by simpa using h))
    have f1 : (x == 0) = false := by rw [beq_eq_false_iff_ne]; omega
    have hL : letterL c = [1, c, 0] := if_neg h0
    rw [hL]
    have hconv := conv_str (w := w.alloc (.cells #[.int .u8 1, .int .u8 x, .int .u8 0] 5)) (lo := w.heap.size) (n := 3) (A := some ⟨w.heap.size, 0, none⟩) 3 (l := [1, c, 0]) (by
      refine ⟨rfl, fun _ => ⟨w.heap.size, 0, rfl, Nat.le_refl _, by simp, fun j u hu => ?_⟩⟩
      subst hx
      rcases j with _ | _ | _ | j
      · simp at hu; subst hu; simp
      · simp at hu; subst hu; simp
      · simp at hu; subst hu; simp
      · simp at hu)
    clear hx h0 hne hL
    go_enter Tryz.func63, Tryz.ntmps63
    go_wp2
    go_ret
    exact ⟨rfl, (Ext.refl _).alloc _⟩

theorem law_of (c : UInt8) (x k : Int) (w : World) (hx : x = c.toNat) :
    Calls Tryz.prog 60 #[.int .u8 x, .int .u16 k] w fun e w' => e = .returned (.agg #[S (letterL c), .int .u16 k, .int .u16 1]) ∧ Ext w w' := by
  have HL := Lib.hid (fun W => law_letter c x W hx)
  clear hx
  go_enter Tryz.func60, Tryz.ntmps60
  go_wp2_with fail
  refine (HL.out _).mono ?_; rintro e w1 ⟨rfl, hE1⟩
  obtain ⟨hq, hqf, hqz⟩ := ext_new hE1
  go_wp2_with fail
  refine bodyPost_ret (v := .agg #[S (letterL c), .int .u16 k, .int .u16 1]) ?_ rfl ⟨rfl, ?_⟩
  · simp [results, Tryz.results60, go_sem, hq, hqf, hqz]
  · have hEw : Ext w w1 := ((Ext.refl _).alloc _).trans hE1
    (repeat (first | with_reducible exact Ext.refl _ | with_reducible assumption | with_reducible refine Ext.alloc ?_ _ | with_reducible refine Ext.drewN ?_ _ | with_reducible refine Ext.drew ?_ | (with_reducible refine Ext.setCell ?_ ?hp _; case hp => (simp <;> omega))))

theorem law_alias (c d : UInt8) (x y : Int) (w : World) (hx : x = c.toNat) (hy : y = d.toNat) :
    Calls Tryz.prog 61 #[.int .u8 x, .int .u8 y] w fun e w' => e = .returned (recVal (aliasR c d)) ∧ Ext w w' := by
  have HL := Lib.hid (fun W => law_letter c x W hx)
  have HM := Lib.hid (fun W => law_letter d y W hy)
  clear hx hy
  go_enter Tryz.func61, Tryz.ntmps61
  go_wp2_with fail
  refine (HL.out _).mono ?_; rintro e w1 ⟨rfl, hE1⟩
  go_wp2_with fail
  refine (HM.out _).mono ?_; rintro e w2 ⟨rfl, hE2⟩
  obtain ⟨hq, hqf, hqz⟩ := ext_new (hE1.trans hE2)
  have hEw : Ext w w2 := ((Ext.refl _).alloc _).trans (hE1.trans hE2)
  clear hE1 hE2
  go_wp2_with fail
  refine bodyPost_ret (v := recVal (aliasR c d)) ?_ rfl ⟨rfl, ?_⟩
  · simp [results, Tryz.results61, go_sem, hq, hqf, hqz, aliasR]
  · (repeat (first | with_reducible exact Ext.refl _ | with_reducible assumption | with_reducible refine Ext.alloc ?_ _ | with_reducible refine Ext.drewN ?_ _ | with_reducible refine Ext.drew ?_ | (with_reducible refine Ext.setCell ?_ ?hp _; case hp => (simp <;> omega))))

theorem law_address (c : UInt8) (x : Int) (w : World) (hx : x = c.toNat) :
    Calls Tryz.prog 62 #[.int .u8 x] w fun e w' => e = .returned (recVal (addrR c)) ∧ Ext w w' := by
  have HL := Lib.hid (fun W => law_letter c x W hx)
  clear hx
  go_enter Tryz.func62, Tryz.ntmps62
  go_wp2_with fail
  refine (HL.out _).mono ?_; rintro e w2 ⟨rfl, hE2⟩
  obtain ⟨hq, hqf, hqz⟩ := ext_new hE2
  have hEw : Ext w w2 := ((Ext.refl _).alloc _).trans hE2
  clear hE2
  go_wp2_with fail
  refine bodyPost_ret (v := recVal (addrR c)) ?_ rfl ⟨rfl, ?_⟩
  · simp [results, Tryz.results62, go_sem, hq, hqf, hqz, addrR]
  · (repeat (first | with_reducible exact Ext.refl _ | with_reducible assumption | with_reducible refine Ext.alloc ?_ _ | with_reducible refine Ext.drewN ?_ _ | with_reducible refine Ext.drew ?_ | (with_reducible refine Ext.setCell ?_ ?hp _; case hp => (simp <;> omega))))
end Go.Proofs.YthdlgmfeicikpaaGreatDoor
namespace Go.Proofs.YthdlgmfeicikpaaGreatDoor
set_option linter.unusedSimpArgs false
set_option linter.unusedVariables false
open Go.RowKit
set_option maxRecDepth 100000

def ToldPost (R : FolR) (w : World) (e : Ending) (w' : World) : Prop := e = .returned (.tuple #[.int .i64 R.path.length, S R.here, .int .i64 R.fin.length, .int .i64 R.err]) ∧ Ext w w'
theorem OSets.shape {w : World} {lo : Nat} {v : Value} {l : List SetD} (h : OSets w lo v l) : ∃ A c, v = .slice A l.length c ∧ l.length ≤ c ∧ c ≤ maxLen := by
  obtain ⟨ps, A, c, h1, h2, h3, _⟩ := h
  have hl : ps.length = l.length := by rw [← h1]; simp
  exact ⟨A, c, by rw [h2, hl], by rw [← hl]; exact h3.cap.1, h3.cap.2⟩

set_option maxHeartbeats 2000000 in
theorem law_told (lo : Nat) (n : List UInt8) (ty cls : Int) (v : Value) (l : List RecD) (w : World) (hg : Laid w) (h : Recs w lo v l) (hbd : RecsBd l) (hn : n.length ≤ 1048576) :
    Calls Tryz.prog 59 #[.agg #[S n, .int .u16 ty, .int .u16 cls], v] w (ToldPost (followOf n ty cls (groupR l)) w) := by
  have HG := Lib.hid (fun W (hW : Ext w W) => ref_group lo v l W (h.ext hW) hbd)
  have HF := Lib.hid (fun W (hW : Ext w W) x g (hS : Sets W x g (groupR l)) => chain_follow x n ty cls g (groupR l) W (hg.ext hW) hS (groupR_bd hbd) hn)
  obtain ⟨A, c, rfl, h1, h2, h3⟩ := h
  clear h3 hg
  generalize groupR l = sets at *
  generalize followOf n ty cls sets = R at *
  go_enter Tryz.func59, Tryz.ntmps59
  go_wp2_with fail
  go_region_held3 (fun V => V.cell? ⟨w.heap.size, 0, none⟩ = some (S n) ∧ V.cell? ⟨w.heap.size, 1, none⟩ = some (.int .u16 ty) ∧ V.cell? ⟨w.heap.size, 2, none⟩ = some (.int .u16 cls))
    (first | go_keep | exact ⟨(ext_new (Ext.of_drewN 1 hE1)).1 0, (ext_new (Ext.of_drewN 1 hE1)).1 1, (ext_new (Ext.of_drewN 1 hE1)).1 2⟩ | exact ⟨(ext_new ((Ext.of_drewN 1 hE1).trans hE2)).1 0, (ext_new ((Ext.of_drewN 1 hE1).trans hE2)).1 1, (ext_new ((Ext.of_drewN 1 hE1).trans hE2)).1 2⟩)
    (first
      | (go_at_call 31; refine (HG.out _ (by (repeat (first | with_reducible exact Ext.refl _ | with_reducible assumption | with_reducible refine Ext.alloc ?_ _ | with_reducible refine Ext.drewN ?_ _ | with_reducible refine Ext.drew ?_ | (with_reducible refine Ext.setCell ?_ ?hp _; case hp => (simp <;> omega)))))).mono ?_; rintro e w1 ⟨g, rfl, hos, hE1⟩; obtain ⟨gA, gc, rfl, hg1, hg2⟩ := hos.shape)
      | (go_at_call 38; refine (HF.out _ ?hx _ _ hos.sets).mono ?_; (case hx => exact Ext.trans (by (repeat (first | with_reducible exact Ext.refl _ | with_reducible assumption | with_reducible refine Ext.alloc ?_ _ | with_reducible refine Ext.drewN ?_ _ | with_reducible refine Ext.drew ?_ | (with_reducible refine Ext.setCell ?_ ?hp _; case hp => (simp <;> omega))))) hE1); rintro e w2 ⟨v2, u2, wm, rfl, ho2, hEm, ho3, hEn⟩; have hE2 := hEm.trans hEn))
  obtain ⟨vA, vc, rfl, hv1, hv2⟩ := ho2.shape
  obtain ⟨uA, uc, rfl, hu1, hu2⟩ := ho3.shape
  go_wp2_with fail
  refine bodyPost_ret (results4 rfl _ _ _) rfl ?_
  exact ⟨rfl, (Ext.trans (by (repeat (first | with_reducible exact Ext.refl _ | with_reducible assumption | with_reducible refine Ext.alloc ?_ _ | with_reducible refine Ext.drewN ?_ _ | with_reducible refine Ext.drew ?_ | (with_reducible refine Ext.setCell ?_ ?hp _; case hp => (simp <;> omega))))) hE1).trans hE2⟩
end Go.Proofs.YthdlgmfeicikpaaGreatDoor
namespace Go.Proofs.YthdlgmfeicikpaaGreatDoor
set_option linter.unusedSimpArgs false
set_option linter.unusedVariables false
open Go.RowKit
set_option maxRecDepth 100000
instance (l : List RecD) : Decidable (RecsBd l) := by unfold RecsBd; infer_instance
theorem recs_lit (w : World) (g lo : Nat) (hg : g = w.heap.size) (hlo : lo ≤ 0) (l : List RecD) (hl : l.length ≤ 4096) : Recs (w.alloc (.cells (l.flatMap recCells).toArray 38)) lo (.slice (some ⟨g, 0, none⟩) l.length l.length) l := by
  obtain rfl : lo = 0 := by omega
  refine ⟨_, _, rfl, Nat.le_refl _, by unfold maxLen; omega, rd_new _ _ hg _ _ _ _ ?_⟩
  clear hl
  induction l with
  | nil => rfl
  | cons a l ih => rw [List.flatMap_cons, List.length_append, ih, List.length_cons]; show 5 + _ = _; omega
theorem told_at (a : Int) (h : List UInt8) (b er : Int) (lo : Nat) (n : List UInt8) (ty cls : Int) (v : Value) (l : List RecD) (w : World) (hg : Laid w) (hr : Recs w lo v l) (hbd : RecsBd l) (hn : n.length ≤ 1048576)
    (heq : (fun R : FolR => ((R.path.length : Int), R.here, (R.fin.length : Int), (R.err : Int))) (followOf n ty cls (groupR l)) = (a, h, b, er)) :
    Calls Tryz.prog 59 #[.agg #[S n, .int .u16 ty, .int .u16 cls], v] w fun e w' => e = .returned (.tuple #[.int .i64 a, S h, .int .i64 b, .int .i64 er]) ∧ Ext w w' := by
  refine (law_told lo n ty cls v l w hg hr hbd hn).mono ?_
  rintro e w' ⟨rfl, hE⟩
  injection heq with h1 h2
  injection h2 with h2 h3
  injection h3 with h3 h4
  exact ⟨by rw [h1, h2, h3, h4], hE⟩

set_option maxHeartbeats 8000000 in
theorem law_awake (w : World) (hg : Laid w) : Calls Tryz.prog 37 #[] w fun e w' => e = .returned (.bool true) ∧ Ext w w' := by
  have hE0 : Ext w w := Ext.refl w
  go_enter Tryz.func37, Tryz.ntmps37
  go_wp2_with fail
  refine (law_of 119 119 1 _ rfl).mono ?_; rintro e w1 ⟨rfl, hx⟩
  have hE1 : Ext w w1 := Ext.trans hE0 hx
  clear hx
  go_wp2_with fail
  refine (law_alias 119 97 119 97 _ rfl rfl).mono ?_; rintro e w2 ⟨rfl, hx⟩
  have hE2 : Ext w w2 := Ext.trans hE1 hx
  clear hx
  go_wp2_with fail
  refine (law_address 97 97 _ rfl).mono ?_; rintro e w3 ⟨rfl, hx⟩
  have hE3 : Ext w w3 := Ext.trans hE2 hx
  clear hx
  go_wp2_with fail
  refine (told_at 1 (letterL 97) 1 0 0 (letterL 119) 1 1 _ ([aliasR 119 97, addrR 97]) _ (hg.ext ((hE3).alloc _)) (recs_lit _ _ _ rfl (Nat.zero_le _) _ (by decide)) (by as_aux_lemma => decide) (by decide) (by as_aux_lemma => kernel_rfl)).mono ?_; rintro e w4 ⟨rfl, hx⟩
  have hE4 : Ext w w4 := Ext.trans ((hE3).alloc _) hx
  clear hx
  go_wp2_with fail
  refine (law_of 119 119 5 _ rfl).mono ?_; rintro e w5 ⟨rfl, hx⟩
  have hE5 : Ext w w5 := Ext.trans hE4 hx
  clear hx
  go_wp2_with fail
  refine (law_alias 119 97 119 97 _ rfl rfl).mono ?_; rintro e w6 ⟨rfl, hx⟩
  have hE6 : Ext w w6 := Ext.trans hE5 hx
  clear hx
  go_wp2_with fail
  refine (law_address 97 97 _ rfl).mono ?_; rintro e w7 ⟨rfl, hx⟩
  have hE7 : Ext w w7 := Ext.trans hE6 hx
  clear hx
  go_wp2_with fail
  refine (told_at 0 (letterL 119) 1 0 0 (letterL 119) 5 1 _ ([aliasR 119 97, addrR 97]) _ (hg.ext ((hE7).alloc _)) (recs_lit _ _ _ rfl (Nat.zero_le _) _ (by decide)) (by as_aux_lemma => decide) (by decide) (by as_aux_lemma => kernel_rfl)).mono ?_; rintro e w8 ⟨rfl, hx⟩
  have hE8 : Ext w w8 := Ext.trans ((hE7).alloc _) hx
  clear hx
  go_wp2_with fail
  refine (law_of 98 98 1 _ rfl).mono ?_; rintro e w9 ⟨rfl, hx⟩
  have hE9 : Ext w w9 := Ext.trans hE8 hx
  clear hx
  go_wp2_with fail
  refine (law_alias 119 97 119 97 _ rfl rfl).mono ?_; rintro e w10 ⟨rfl, hx⟩
  have hE10 : Ext w w10 := Ext.trans hE9 hx
  clear hx
  go_wp2_with fail
  refine (law_address 97 97 _ rfl).mono ?_; rintro e w11 ⟨rfl, hx⟩
  have hE11 : Ext w w11 := Ext.trans hE10 hx
  clear hx
  go_wp2_with fail
  refine (told_at 0 (letterL 98) 0 0 0 (letterL 98) 1 1 _ ([aliasR 119 97, addrR 97]) _ (hg.ext ((hE11).alloc _)) (recs_lit _ _ _ rfl (Nat.zero_le _) _ (by decide)) (by as_aux_lemma => decide) (by decide) (by as_aux_lemma => kernel_rfl)).mono ?_; rintro e w12 ⟨rfl, hx⟩
  have hE12 : Ext w w12 := Ext.trans ((hE11).alloc _) hx
  clear hx
  go_wp2_with fail
  refine (law_of 97 97 1 _ rfl).mono ?_; rintro e w13 ⟨rfl, hx⟩
  have hE13 : Ext w w13 := Ext.trans hE12 hx
  clear hx
  go_wp2_with fail
  refine (law_alias 97 98 97 98 _ rfl rfl).mono ?_; rintro e w14 ⟨rfl, hx⟩
  have hE14 : Ext w w14 := Ext.trans hE13 hx
  clear hx
  go_wp2_with fail
  refine (law_alias 98 97 98 97 _ rfl rfl).mono ?_; rintro e w15 ⟨rfl, hx⟩
  have hE15 : Ext w w15 := Ext.trans hE14 hx
  clear hx
  go_wp2_with fail
  refine (told_at 0 ([]) 0 8 0 (letterL 97) 1 1 _ ([aliasR 97 98, aliasR 98 97]) _ (hg.ext ((hE15).alloc _)) (recs_lit _ _ _ rfl (Nat.zero_le _) _ (by decide)) (by as_aux_lemma => decide) (by decide) (by as_aux_lemma => kernel_rfl)).mono ?_; rintro e w16 ⟨rfl, hx⟩
  have hE16 : Ext w w16 := Ext.trans ((hE15).alloc _) hx
  clear hx
  go_wp2_with fail
  refine (law_of 97 97 1 _ rfl).mono ?_; rintro e w17 ⟨rfl, hx⟩
  have hE17 : Ext w w17 := Ext.trans hE16 hx
  clear hx
  go_wp2_with fail
  refine (law_alias 97 97 97 97 _ rfl rfl).mono ?_; rintro e w18 ⟨rfl, hx⟩
  have hE18 : Ext w w18 := Ext.trans hE17 hx
  clear hx
  go_wp2_with fail
  refine (told_at 0 ([]) 0 8 0 (letterL 97) 1 1 _ ([aliasR 97 97]) _ (hg.ext ((hE18).alloc _)) (recs_lit _ _ _ rfl (Nat.zero_le _) _ (by decide)) (by as_aux_lemma => decide) (by decide) (by as_aux_lemma => kernel_rfl)).mono ?_; rintro e w19 ⟨rfl, hx⟩
  have hE19 : Ext w w19 := Ext.trans ((hE18).alloc _) hx
  clear hx
  go_wp2_with fail
  refine (law_of 97 97 1 _ rfl).mono ?_; rintro e w20 ⟨rfl, hx⟩
  have hE20 : Ext w w20 := Ext.trans hE19 hx
  clear hx
  go_wp2_with fail
  refine (law_alias 97 98 97 98 _ rfl rfl).mono ?_; rintro e w21 ⟨rfl, hx⟩
  have hE21 : Ext w w21 := Ext.trans hE20 hx
  clear hx
  go_wp2_with fail
  refine (law_address 97 97 _ rfl).mono ?_; rintro e w22 ⟨rfl, hx⟩
  have hE22 : Ext w w22 := Ext.trans hE21 hx
  clear hx
  go_wp2_with fail
  refine (told_at 0 ([]) 0 3 0 (letterL 97) 1 1 _ ([aliasR 97 98, addrR 97]) _ (hg.ext ((hE22).alloc _)) (recs_lit _ _ _ rfl (Nat.zero_le _) _ (by decide)) (by as_aux_lemma => decide) (by decide) (by as_aux_lemma => kernel_rfl)).mono ?_; rintro e w23 ⟨rfl, hx⟩
  have hE23 : Ext w w23 := Ext.trans ((hE22).alloc _) hx
  clear hx
  go_wp2_with fail
  refine (law_of 97 97 28 _ rfl).mono ?_; rintro e w24 ⟨rfl, hx⟩
  have hE24 : Ext w w24 := Ext.trans hE23 hx
  clear hx
  go_wp2_with fail
  refine (law_alias 97 98 97 98 _ rfl rfl).mono ?_; rintro e w25 ⟨rfl, hx⟩
  have hE25 : Ext w w25 := Ext.trans hE24 hx
  clear hx
  go_wp2_with fail
  refine (law_address 97 97 _ rfl).mono ?_; rintro e w26 ⟨rfl, hx⟩
  have hE26 : Ext w w26 := Ext.trans hE25 hx
  clear hx
  go_wp2_with fail
  refine (told_at 1 (letterL 98) 0 0 0 (letterL 97) 28 1 _ ([aliasR 97 98, addrR 97]) _ (hg.ext ((hE26).alloc _)) (recs_lit _ _ _ rfl (Nat.zero_le _) _ (by decide)) (by as_aux_lemma => decide) (by decide) (by as_aux_lemma => kernel_rfl)).mono ?_; rintro e w27 ⟨rfl, hx⟩
  have hE27 : Ext w w27 := Ext.trans ((hE26).alloc _) hx
  clear hx
  go_wp2_with fail
  refine (law_letter 97 97 _ rfl).mono ?_; rintro e w28 ⟨rfl, hx⟩
  have hE28 : Ext w w28 := Ext.trans hE27 hx
  clear hx
  go_wp2_with fail
  refine (law_letter 119 119 _ rfl).mono ?_; rintro e w29 ⟨rfl, hx⟩
  have hE29 : Ext w w29 := Ext.trans hE28 hx
  clear hx
  go_wp2_with fail
  refine (law_letter 98 98 _ rfl).mono ?_; rintro e w30 ⟨rfl, hx⟩
  have hE30 : Ext w w30 := Ext.trans hE29 hx
  clear hx
  go_wp2_with fail
  refine (law_letter 98 98 _ rfl).mono ?_; rintro e w31 ⟨rfl, hx⟩
  have hE31 : Ext w w31 := Ext.trans hE30 hx
  clear hx
  go_wp2_with fail
  go_ret
  exact ⟨rfl, hE31⟩
end Go.Proofs.YthdlgmfeicikpaaGreatDoor
