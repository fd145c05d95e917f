/- hustingslaw09.ChainMore returns true for every input, and every argument reads behind the call as it read before; the listed variable (errors.errorType) is tied to the program's text. No condition of ours. -/
import Derived.Test.YthdlgmfeicikpaaGreatDoorBj
import Derived.Test.YthdlgmfeicikpaaGreatDoorBl
import Derived.Test.YthdlgmfeicikpaaGreatDoorBq
import Derived.Test.YthdlgmfeicikpaaGreatDoorBp
import Derived.Test.YthdlgmfeicikpaaGreatDoorBk
import Derived.Test.YthdlgmfeicikpaaGreatDoorBg
import Derived.Test.YthdlgmfeicikpaaGreatDoorBn
namespace Go.Proofs.YthdlgmfeicikpaaGreatDoor
set_option linter.unusedSimpArgs false
set_option linter.unusedVariables false
open Go.RowKit
set_option maxRecDepth 100000

theorem recsOk_ofm {l : List RecD} (h : ∀ r ∈ l, RecOk r) : RecsOk l := fun r hr => ⟨(h r hr).2.2.1, (h r hr).2.2.2.1⟩
theorem way_mem {l : List SetD} {cls : Int} : ∀ {path : List SetD} {here : List UInt8} {seen : List (List UInt8)} {at_ : List UInt8}, Way l cls here seen path at_ → ∀ s ∈ path, s ∈ l
  | [], _, _, _, _, s, hs => by simp at hs
  | a :: rest, here, seen, at_, h, s, hs => by
    obtain ⟨h1, _, d, _, _, h4⟩ := h
    rcases List.mem_cons.1 hs with rfl | hs
    · exact findS_mem h1
    · exact way_mem h4 s hs
theorem large_len {l : List RecD} (h : largeB l = false) : l.length ≤ 340 := by
  have h1 := wsum_len l
  have h2 : ¬ 4000 ≤ wsum l := by unfold largeB at h; simpa using h
  omega
theorem bd_more {l m : List RecD} (f : RecD → Bool) (hl : largeB l = false) (hm : largeB m = false) : RecsBd (l ++ m.filter f) := by
  have h1 := large_len hl
  have h2 := large_len hm
  have h3 := List.length_filter_le f m
  refine ⟨by simp; omega, fun r hr => ?_⟩
  rcases List.mem_append.1 hr with h | h
  · exact (recsBd_of hl).2 r h
  · exact (recsBd_of hm).2 r (List.mem_filter.1 h).1
theorem ok_more {l m : List RecD} (f : RecD → Bool) (hl : RecsOk l) (hm : RecsOk m) : RecsOk (l ++ m.filter f) := fun r hr => by
  rcases List.mem_append.1 hr with h | h
  · exact hl r h
  · exact hm r (List.mem_filter.1 h).1
theorem filter_snoc (f : RecD → Bool) (m : List RecD) (k : Nat) (h : k < m.length) (x : RecD) (hx : m[k] = x) : (m.take (k + 1)).filter f = (m.take k).filter f ++ (if f x then [x] else []) := by
  rw [take_snoc m k h, List.filter_append, hx]
  congr 1
  by_cases hf : f x = true
  · rw [if_pos hf, List.filter_cons_of_pos hf]; rfl
  · rw [if_neg hf, List.filter_cons_of_neg hf]; rfl
theorem all_snoc (f : List UInt8 → Bool) (l : List (List UInt8)) (k : Nat) (h : k < l.length) (y : List UInt8) (hy : l[k] = y) : (l.take (k + 1)).all f = ((l.take k).all f && f y) := by
  rw [take_snoc l k h, List.all_append, hy]; simp

set_option maxHeartbeats 8000000 in
theorem law_chainMore (n : List UInt8) (ty cl : Int) (v : Value) (l : List RecD) (v2 : Value) (m : List RecD) (w : World) (hg : Laid w) (h : Recs w 0 v l) (hok : ∀ r ∈ l, RecOk r) (hm : Recs w 0 v2 m) (hmok : ∀ r ∈ m, RecOk r) (hn : n.length ≤ maxLen) :
    Calls Tryz.prog 12 #[.agg #[S n, .int .u16 ty, .int .u16 cl], v, v2] w fun e w' => e = .returned (.bool true) ∧ Ext w w' := by
  have HL := Lib.hid (fun W (hW : Ext w W) => law_large 0 v l W (h.ext hW) hok)
  have HM := Lib.hid (fun W (hW : Ext w W) => law_large 0 v2 m W (hm.ext hW) hmok)
  have HA := Lib.hid (fun W (hW : Ext w W) => law_awake W (hg.ext hW))
  obtain ⟨A, c, rfl, h1, h2, hrd⟩ := h
  have h : Recs w 0 (.slice A l.length c) l := ⟨A, c, rfl, h1, h2, hrd⟩
  obtain ⟨B, c2, rfl, m1, m2, mrd⟩ := hm
  have Hh := Lib.hid h
  clear h
  unfold maxLen at hn h2 m2
  rcases hlg : largeB l with _ | _
  rotate_left
  · rw [hlg] at HL
    clear hlg
    go_enter Tryz.func12, Tryz.ntmps12
    go_wp2_with fail
    refine (HL.out _ ((Ext.refl _).alloc _)).mono ?_; rintro e w1 ⟨rfl, hE1⟩
    go_wp2_with fail
    refine (HA.out _ (((Ext.refl _).alloc _).trans hE1)).mono ?_; rintro e w2 ⟨rfl, hE2⟩
    go_wp2_with fail
    go_ret
    exact ⟨rfl, (((Ext.refl _).alloc _).trans hE1).trans hE2⟩
  rw [hlg] at HL
  rcases hmg : largeB m with _ | _
  rotate_left
  · rw [hmg] at HM
    clear hlg hmg
    go_enter Tryz.func12, Tryz.ntmps12
    go_wp2_with fail
    refine (HL.out _ ((Ext.refl _).alloc _)).mono ?_; rintro e w1 ⟨rfl, hE1⟩
    go_wp2_with fail
    refine (HM.out _ (((Ext.refl _).alloc _).trans hE1)).mono ?_; rintro e w1b ⟨rfl, hE1b⟩
    go_wp2_with fail
    refine (HA.out _ ((((Ext.refl _).alloc _).trans hE1).trans hE1b)).mono ?_; rintro e w2 ⟨rfl, hE2⟩
    go_wp2_with fail
    go_ret
    exact ⟨rfl, ((((Ext.refl _).alloc _).trans hE1).trans hE1b).trans hE2⟩
  rw [hmg] at HM
  by_cases hq : n.length ≤ 1000
  rotate_left
  · have hqi : (1000 : Int) < (n.length : Int) := by omega
    clear hlg hmg
    go_enter Tryz.func12, Tryz.ntmps12
    go_wp2_with fail
    refine (HL.out _ ((Ext.refl _).alloc _)).mono ?_; rintro e w1 ⟨rfl, hE1⟩
    go_wp2_with fail
    refine (HM.out _ (((Ext.refl _).alloc _).trans hE1)).mono ?_; rintro e w1b ⟨rfl, hE1b⟩
    obtain ⟨b1, _, bz1⟩ := ext_new (hE1.trans hE1b)
    have b10 : w1b.cell? ⟨w.heap.size, 0, none⟩ = some (S n) := b1 0
    clear b1
    go_wp2_with fail
    refine (HA.out _ ((((Ext.refl _).alloc _).trans hE1).trans hE1b)).mono ?_; rintro e w2 ⟨rfl, hE2⟩
    go_wp2_with fail
    go_ret
    exact ⟨rfl, ((((Ext.refl _).alloc _).trans hE1).trans hE1b).trans hE2⟩
  have hqi : ¬ (1000 : Int) < (n.length : Int) := by omega
  have hqd : decide ((1000 : Int) < (n.length : Int)) = false := by simpa using hqi
  have hbd := recsBd_of hlg
  have HG := Lib.hid (fun W (hW : Ext w W) => rrset_groupR 0 _ l W (hg.ext hW) (Hh.out.ext hW) hbd (recsOk_ofm hok))
  have HG2 := Lib.hid (fun f W lo v' (hW : Ext w W) (hr : Recs W lo v' (l ++ m.filter f)) => rrset_groupR lo v' (l ++ m.filter f) W (hg.ext hW) hr (bd_more f hlg hmg) (ok_more f (recsOk_ofm hok) (recsOk_ofm hmok)))
  have hsb := groupR_bd hbd
  have HF := Lib.hid (fun W (hW : Ext w W) x g (hS : Sets W x g (groupR l)) => chain_follow x n ty cl g (groupR l) W (hg.ext hW) hS hsb (by omega))
  have HF2 := Lib.hid (fun f W (hW : Ext w W) x g (hS : Sets W x g (groupR (l ++ m.filter f))) => chain_follow x n ty cl g (groupR (l ++ m.filter f)) W (hg.ext hW) hS (groupR_bd (bd_more f hlg hmg)) (by omega))
  have hhl := follow_here n ty cl (groupR l)
  have hwy := follow_way n ty cl l (recsOk_ofm hok)
  have HCM := Lib.hid (chain_more n ty cl l m)
  have hl340 := large_len hlg
  have hm340 := large_len hmg
  have Hmok := Lib.hid (recsBd_of hmg).2
  have HPm := Lib.hid (fun (hx : (followOf n ty cl (groupR l)).err = 0) => And.intro (hwy hx).1 (fun s (hs : s ∈ (followOf n ty cl (groupR l)).path) => (hsb s (way_mem (hwy hx).2 s hs)).1))
  obtain ⟨R, hR⟩ : ∃ R, followOf n ty cl (groupR l) = R := ⟨_, rfl⟩
  rw [hR] at HF hhl HPm
  have HCM2 := Lib.hid (HCM.out R hR)
  obtain ⟨path, here, fin, err⟩ := R
  dsimp only at *
  have Hrd := Lib.hid hrd
  have Mrd := Lib.hid mrd
  clear hlg hmg hbd hsb hwy hR HCM hrd mrd
  obtain ⟨i0, hi0, hz0, hz1, hz2⟩ := info_parts info_str
  obtain ⟨r0, hr0, hs0, hs1, hs2⟩ := info_parts info_rec8
  go_enter Tryz.func12, Tryz.ntmps12
  go_wp2_with fail
  obtain ⟨WB, hWB⟩ : ∃ WB, WB = w.alloc (.cells #[S n, .int .u16 ty, .int .u16 cl] 54) := ⟨_, rfl⟩
  have hEB0 : Ext w WB := by rw [hWB]; exact (Ext.refl _).alloc _
  obtain ⟨xcc, _, hxz⟩ := ext_new_at w.heap.size rfl (show Ext (w.alloc _) WB by rw [hWB]; exact Ext.refl _)
  have HX := Lib.hid (show ∀ V, Ext WB V → V.cell? ⟨w.heap.size, 0, none⟩ = some (S n) ∧ V.cell? ⟨w.heap.size, 1, none⟩ = some (.int .u16 ty) ∧ V.cell? ⟨w.heap.size, 2, none⟩ = some (.int .u16 cl) from fun V hV => ⟨(hV.cell (p := ⟨w.heap.size, 0, none⟩) hxz).trans (xcc 0), (hV.cell (p := ⟨w.heap.size, 1, none⟩) hxz).trans (xcc 1), (hV.cell (p := ⟨w.heap.size, 2, none⟩) hxz).trans (xcc 2)⟩)
  rw [← hWB]
  clear hWB xcc
  refine (HL.out _ hEB0).mono ?_; rintro e w1 ⟨rfl, hE1⟩
  go_wp2_with fail
  refine (HM.out _ (hEB0.trans hE1)).mono ?_; rintro e w1b ⟨rfl, hE1b⟩
  have b10 := (HX.out _ (hE1.trans hE1b)).1
  go_wp2_with fail
  refine (HA.out _ ((hEB0.trans hE1).trans hE1b)).mono ?_; rintro e w2 ⟨rfl, hx2⟩
  have hE2 : Ext WB w2 := (hE1.trans hE1b).trans hx2
  clear hE1 hE1b hx2 b10
  go_wp2_with fail
  refine wp_region_noPanic ?_
  refine wp_region_seq (S := (fun V => V.cell? ⟨w.heap.size, 0, none⟩ = some (S n) ∧ V.cell? ⟨w.heap.size, 1, none⟩ = some (.int .u16 ty) ∧ V.cell? ⟨w.heap.size, 2, none⟩ = some (.int .u16 cl))) [(0, true), (1, true), (2, false), (3, false), (4, true), (5, true), (6, true), (7, true), (8, true), (9, true), (10, true), (11, true), (12, true)] (by kernel_rfl) (by kernel_rfl) (fun _ _ _ _ _ h => h) (HX.out _ (hE2.drew)) ?_
  repeat ((with_reducible refine heldIs ?_); first
    | (refine heldTake (v := ?_) (by rfl) (by rfl) ?_ ?_; rotate_left; (focus (intro V hV; (try dsimp only at hV); (go_simp <;> with_reducible rfl))); (try simp only [Act.put, List.setIfInBounds_toArray, List.set_cons_zero, List.set_cons_succ]))
    | (refine heldSkip (by rfl) (by rfl) ?_; (try simp only [Act.put, List.setIfInBounds_toArray, List.set_cons_zero, List.set_cons_succ])))
  refine heldRun (by rfl) (fun K hK => ?_)
  go_simp
  refine (HG.out _ ((hEB0.trans hE2).drew)).mono ?_; rintro e w3 ⟨g3, rfl, ho3, hE3⟩; obtain ⟨gA3, gc3, rfl, _, _⟩ := ho3.shape
  refine hK.out _ _ ?_ ?_
  · exact HX.out _ ((hE2.drew).trans hE3)
  clear hK K
  (try simp only [Act.put, List.setIfInBounds_toArray, List.set_cons_zero, List.set_cons_succ])
  repeat ((with_reducible refine heldIs ?_); first
    | (refine heldTake (v := ?_) (by rfl) (by rfl) ?_ ?_; rotate_left; (focus (intro V hV; (try dsimp only at hV); (go_simp <;> with_reducible rfl))); (try simp only [Act.put, List.setIfInBounds_toArray, List.set_cons_zero, List.set_cons_succ]))
    | (refine heldSkip (by rfl) (by rfl) ?_; (try simp only [Act.put, List.setIfInBounds_toArray, List.set_cons_zero, List.set_cons_succ])))
  refine heldRun (by rfl) (fun K hK => ?_)
  go_simp
  refine (HF.out _ (((hEB0.trans hE2).drew).trans hE3) _ _ ho3.sets).mono ?_; rintro e w4 ⟨v4, u4, wm, rfl, hv4, hEm, hu4, hEn⟩; dsimp only at hv4 hu4 ⊢; obtain ⟨uA, uc, rfl, hu1, hu2⟩ := hu4.shape; obtain ⟨pq, qA, qc, hq1, rfl, hq3, hq4⟩ := hv4
  refine hK.out _ _ ?_ ?_
  · exact HX.out _ (((hE2.drew).trans hE3).trans (hEm.trans hEn))
  clear hK K
  (try simp only [Act.put, List.setIfInBounds_toArray, List.set_cons_zero, List.set_cons_succ])
  repeat ((with_reducible refine heldIs ?_); first
    | (refine heldTake (v := ?_) (by rfl) (by rfl) ?_ ?_; rotate_left; (focus (intro V hV; (try dsimp only at hV); (go_simp <;> with_reducible rfl))); (try simp only [Act.put, List.setIfInBounds_toArray, List.set_cons_zero, List.set_cons_succ]))
    | (refine heldSkip (by rfl) (by rfl) ?_; (try simp only [Act.put, List.setIfInBounds_toArray, List.set_cons_zero, List.set_cons_succ])))
  refine heldDone ?_
  refine NoPanic.normal ?_
  have hEB4 : Ext WB w4 := ((hE2.drew).trans hE3).trans (hEm.trans hEn)
  have hEw4 : Ext w w4 := hEB0.trans hEB4
  by_cases he : err = 0
  rotate_left
  · have f1 : ((err : Int) == 0) = false := by rw [beq_eq_false_iff_ne]; omega
    have f2 : ((err : Int) != 0) = true := by rw [bne, f1]; rfl
    clear he
    go_wp2_with fail
    go_ret
    exact ⟨rfl, hEw4⟩
  subst he
  obtain ⟨hp8, hnl⟩ := HPm.out rfl
  have hpql : pq.length = path.length := by rw [← hq1]; simp
  have hpq8 : pq.length ≤ 8 := by rw [hpql]; exact hp8
  have Hpql := Lib.hid hpql
  clear hpql
  have hq3' := hq3.ext hEn
  have hqcap := hq3.cap
  unfold maxLen at hqcap
  have Hq4 := Lib.hid (fun p (hp : p ∈ pq) => (hq4 p hp).ext hEn)
  have Hpath := Lib.hid (show OSets w4 _ (.slice qA pq.length qc) path from ⟨pq, qA, qc, hq1, rfl, hq3', Hq4.out⟩)
  have Hfin := Lib.hid hu4
  have Hq1 := Lib.hid hq1
  have Hnl := Lib.hid hnl
  clear hq4 hq3 hu4 hq1 hnl HPm HG HF
  go_wp2_with fail
  go_loopw [11, 12] (fun mv i wr => ∃ (k : Nat) (mA : Option Addr) (mc : Nat) (met : List (List UInt8)), k ≤ pq.length ∧ i = .int .i64 k ∧ mv = .slice mA met.length mc ∧ met = here :: (path.take k).map SetD.name ∧ Own wr w4.heap.size 9 1 mA met.length mc (met.map S) ∧ Ext w4 wr) (fun _ i _ => pq.length - (intOf i).toNat)
  case atStart => exact ⟨0, _, 1, [here], by omega, rfl, rfl, rfl, own_lit w4 _ _ rfl (Nat.le_refl _) _ _ 1 1 rfl (by unfold maxLen; omega), (Ext.refl _).alloc _⟩
  case round =>
    obtain ⟨k, mA, mc, met, hk, rfl, rfl, hmet, hown, hE⟩ := hrel
    obtain ⟨wo, rfl⟩ : ∃ wo : World, wo = wr := ⟨_, rfl⟩
    have hml : met.length ≤ 9 := by rw [hmet]; simp; omega
    have Hmet := Lib.hid hmet
    clear hmet
    by_cases hlt : k < pq.length
    · have hpk : pq[k]? = some pq[k] := List.getElem?_eq_getElem hlt
      have hpe : path[k]? = some pq[k].1 := by rw [← Hq1.out, List.getElem?_map, hpk]; rfl
      have HT := Lib.hid (show here :: (path.take (k + 1)).map SetD.name = met ++ [pq[k].1.name] by rw [List.take_add_one, hpe, Hmet.out]; simp)
      generalize pq[k] = p at *
      obtain ⟨⟨nm, pt, pc, ptt, pda⟩, pv⟩ := p
      obtain ⟨gq, rfl, _, hqz, _, hqc⟩ := hq3'.addr (by omega)
      have hcs := sets_cells (off := 0) (fun j u hu => by rw [Nat.zero_add]; exact hqc j u hu) k _ hpk
      simp only [Nat.zero_add] at hcs
      obtain ⟨z0, _⟩ := hcs
      have y0 := (hE.cell (p := ⟨gq, k * 5, none⟩) hqz).trans z0
      have hki : (k : Int) < (pq.length : Int) := by omega
      have hk0 : (0 : Int) ≤ (k : Int) := by omega
      clear hqc hpk hpe z0
      go_wp2_with (first
        | (at_builtin
           refine wpList_app _ rfl (.tmp 57) (.tmp 63) _ rfl w4.heap.size 9 i0 _ 1 16 Tryz.underlying25 hi0 hz0 hz1 hz2 rfl (by omega) mA met.length mc (met.map S) rfl (hown.ext ((Ext.refl _).alloc _)) 0 _ 1 1 ([nm].map S) rfl (rd_new _ _ rfl _ _ 1 1 rfl) (str_one _) (by omega) (by omega) (by have := hE.size; simp; omega) ?_
           intro A8 c8 w8 hown8 hg8 hb8 hat8))
      go_roundw
      case rel =>
        refine ⟨k + 1, A8, c8, met ++ [nm], by omega, by go_num, by simp, HT.out.symm, ?_, (hE.alloc _).then hb8 (Nat.le_refl _)⟩
        rw [List.length_append, List.map_append]; exact hown8
      case measure => simp [intOf]; omega
    · obtain rfl : k = pq.length := by omega
      have hmete : met = here :: path.map SetD.name := by rw [Hmet.out, Hpql.out, List.take_length]
      have HC3 := Lib.hid (HCM2.out (by trivial) met hmete)
      have hmy : ∀ y ∈ met, y.length ≤ 1048576 := fun y hy => by
        rw [hmete] at hy
        rcases List.mem_cons.1 hy with rfl | hy
        · omega
        · obtain ⟨s, hs, rfl⟩ := List.mem_map.1 hy
          exact Hnl.out s hs
      have Hmy := Lib.hid hmy
      have hEwo : Ext w wo := hEw4.trans hE
      clear hmete hmy Hmet HCM2
      go_wp2_with (first
        | (at_builtin
           refine wpList_app _ rfl (.tmp 65) (.tmp 66) _ rfl wo.heap.size 38 r0 _ 5 40 Tryz.underlying34 hr0 hs0 hs1 hs2 rfl (by omega) (some ⟨wo.heap.size, 0, none⟩) 0 0 [] rfl (own_zero wo 38 5) 0 A l.length c (l.flatMap recCells) rfl (Hrd.out.ext (hEwo.alloc _)) (recs_one8 l) (by omega) (by omega) (by simp) ?_
           intro A8 c8 w8' hown8 hg8 hb8 hat8))
      obtain ⟨w8, hw8⟩ : ∃ w8 : World, w8 = wo := ⟨_, rfl⟩
      rw [← hw8] at hown8 hb8 hown hEwo hE
      rw [Nat.zero_add, List.nil_append] at hown8
      have hE88 : Ext w8 w8' := by rw [hw8]; exact ((Ext.refl wo).alloc _).then (by rw [hw8] at hb8; exact hb8) (Nat.le_refl _)
      clear hw8 hg8 hb8 hat8
      go_loopw [13, 14] (fun av i wr => ∃ (k : Nat) (aA : Option Addr) (ac : Nat) (acc : List RecD), k ≤ m.length ∧ i = .int .i64 k ∧ av = .slice aA acc.length ac ∧ acc = l ++ (m.take k).filter (keepM met cl) ∧ Own wr w8.heap.size 38 5 aA acc.length ac (acc.flatMap recCells) ∧ Ext w8 wr) (fun _ i _ => m.length - (intOf i).toNat)
      case atStart => exact ⟨0, A8, c8, l, by omega, rfl, rfl, by simp, hown8, hE88⟩
      case round =>
        obtain ⟨k, aA, ac, acc, hk, rfl, rfl, hacc, hown2, hE8k⟩ := hrel
        obtain ⟨wk, rfl⟩ : ∃ wk : World, wk = wr := ⟨_, rfl⟩
        have hal : acc.length ≤ 680 := by
          have h1 := List.length_filter_le (keepM met cl) (m.take k)
          have h2 := List.length_take_le k m
          rw [hacc]; simp; omega
        have Hacc := Lib.hid hacc
        clear hacc
        have hEwk : Ext w wk := hEwo.trans hE8k
        have hEBk : Ext WB wk := (hEB4.trans hE).trans hE8k
        by_cases hlt : k < m.length
        · obtain ⟨b, bo, rfl, _, hbz, hc⟩ := Mrd.out.2 (by omega)
          have hcs := recs_cells hc k m[k] (List.getElem?_eq_getElem hlt)
          have hxs := Hmok.out m[k] (List.getElem_mem hlt)
          have HT0 := Lib.hid (filter_snoc (keepM met cl) m k hlt)
          obtain ⟨x, hx⟩ : ∃ x, m[k] = x := ⟨_, rfl⟩
          have HT := Lib.hid (show l ++ (m.take (k + 1)).filter (keepM met cl) = acc ++ (if keepM met cl x then [x] else []) by rw [HT0.out x hx, Hacc.out, List.append_assoc])
          rw [hx] at hcs hxs
          clear hx HT0 hc
          obtain ⟨xn, xt, xc, xl, xd⟩ := x
          dsimp only at *
          obtain ⟨x0, x1, x2, x3, x4⟩ := hcs
          have hki : (k : Int) < (m.length : Int) := by omega
          have hk0 : (0 : Int) ≤ (k : Int) := by omega
          have hownM := hown.ext hE8k
          have hown := hown2
          clear hown2
          go_wp2_with fail
          go_loopw [15, 16] (fun a i wr => ∃ j : Nat, j ≤ met.length ∧ i = .int .i64 j ∧ a = .bool ((met.take j).all fun y => !sameN y xn) ∧ Ext wk wr) (fun _ i _ => met.length - (intOf i).toNat)
          case atStart => exact ⟨0, by omega, rfl, rfl, Ext.refl _⟩
          case round =>
            obtain ⟨j, hj, rfl, rfl, hEr⟩ := hrel
            obtain ⟨wj, rfl⟩ : ∃ wj : World, wj = wr := ⟨_, rfl⟩
            by_cases hjl : j < met.length
            · obtain ⟨y, hy⟩ : ∃ y, met[j] = y := ⟨_, rfl⟩
              have HJ := Lib.hid (all_snoc (fun y => !sameN y xn) met j hjl y hy)
              have hyl : y.length ≤ 1048576 := by rw [← hy]; exact Hmy.out _ (List.getElem_mem hjl)
              obtain ⟨gm, rfl, _, hgz, _, hgc⟩ := hownM.addr (by omega)
              have cy := hgc j (S y) (by rw [← hy]; simp [hjl])
              have H19 := Lib.hid (show ∀ V, Ext wj V → V.cell? ⟨gm, j, none⟩ = some (S y) ∧ V.cell? ⟨b, bo + k * 5, none⟩ = some (S xn) from fun V hV => ⟨((hEr.trans hV).cell (p := ⟨gm, j, none⟩) hgz).trans cy, (((hEwk.trans hEr).trans hV).cell (p := ⟨b, bo + k * 5, none⟩) hbz).trans x0⟩)
              have hji : (j : Int) < (met.length : Int) := by omega
              have hj0 : (0 : Int) ≤ (j : Int) := by omega
              clear hgc hy cy
              rcases ha : (met.take j).all (fun y => !sameN y xn) with _ | _
              · have Ha := Lib.hid ha
                clear ha
                go_wp2_with fail
                refine wp_region_noPanic ?_
                refine wp_region_seq (S := (fun V => True)) [(0, true), (1, true), (2, true), (3, true), (4, true), (5, true), (6, true), (7, true), (8, true), (9, true), (10, true), (11, true), (12, true), (13, true), (14, true)] (by kernel_rfl) (by kernel_rfl) (fun _ _ _ _ _ h => h) (trivial) ?_
                repeat ((with_reducible refine heldIs ?_); first
                  | (refine heldTake (v := ?_) (by rfl) (by rfl) ?_ ?_; rotate_left; (focus (intro V hV; (try dsimp only at hV); (go_simp <;> with_reducible rfl))); (try simp only [Act.put, List.setIfInBounds_toArray, List.set_cons_zero, List.set_cons_succ]))
                  | (refine heldSkip (by rfl) (by rfl) ?_; (try simp only [Act.put, List.setIfInBounds_toArray, List.set_cons_zero, List.set_cons_succ])))
                refine heldDone ?_
                refine NoPanic.normal ?_
                go_wp2_with fail
                go_roundw
                case rel => exact ⟨j + 1, by omega, by go_num, by rw [HJ.out, Ha.out]; rfl, hEr.drew⟩
                case measure => simp [intOf]; omega
              · have Ha := Lib.hid ha
                clear ha
                go_wp2_with fail
                refine wp_region_noPanic ?_
                refine wp_region_seq (S := (fun V => V.cell? ⟨gm, j, none⟩ = some (S y) ∧ V.cell? ⟨b, bo + k * 5, none⟩ = some (S xn))) [(0, true), (1, true), (2, true), (3, true), (4, true), (5, true), (6, true), (7, true), (8, true), (9, true), (10, true), (11, false), (12, true), (13, true), (14, true)] (by kernel_rfl) (by kernel_rfl) (fun _ _ _ _ _ h => h) (H19.out _ ((Ext.refl wj).drew)) ?_
                repeat ((with_reducible refine heldIs ?_); first
                  | (refine heldTake (v := ?_) (by rfl) (by rfl) ?_ ?_; rotate_left; (focus (intro V hV; (try dsimp only at hV); (go_simp <;> with_reducible rfl))); (try simp only [Act.put, List.setIfInBounds_toArray, List.set_cons_zero, List.set_cons_succ]))
                  | (refine heldSkip (by rfl) (by rfl) ?_; (try simp only [Act.put, List.setIfInBounds_toArray, List.set_cons_zero, List.set_cons_succ])))
                refine heldRun (by rfl) (fun K hK => ?_)
                go_simp
                refine (name_same y xn _ (by unfold maxLen; omega) (by unfold maxLen; omega)).mono ?_; rintro e w9 ⟨rfl, hE9⟩
                refine hK.out _ _ ?_ ?_
                · exact H19.out _ (Ext.trans ((Ext.refl wj).drew) hE9)
                clear hK K
                (try simp only [Act.put, List.setIfInBounds_toArray, List.set_cons_zero, List.set_cons_succ])
                repeat ((with_reducible refine heldIs ?_); first
                  | (refine heldTake (v := ?_) (by rfl) (by rfl) ?_ ?_; rotate_left; (focus (intro V hV; (try dsimp only at hV); (go_simp <;> with_reducible rfl))); (try simp only [Act.put, List.setIfInBounds_toArray, List.set_cons_zero, List.set_cons_succ]))
                  | (refine heldSkip (by rfl) (by rfl) ?_; (try simp only [Act.put, List.setIfInBounds_toArray, List.set_cons_zero, List.set_cons_succ])))
                refine heldDone ?_
                refine NoPanic.normal ?_
                go_wp2_with fail
                go_roundw
                case rel => exact ⟨j + 1, by omega, by go_num, by rw [HJ.out, Ha.out]; rfl, hEr.trans (Ext.trans ((Ext.refl wj).drew) hE9)⟩
                case measure => simp [intOf]; omega
            · obtain rfl : j = met.length := by omega
              rw [List.take_length]
              have H20 := Lib.hid (show ∀ V, Ext wj V → V.cell? ⟨b, bo + k * 5 + 2, none⟩ = some (.int .u16 xc) ∧ V.cell? ⟨w.heap.size, 2, none⟩ = some (.int .u16 cl) from fun V hV => ⟨(((hEwk.trans hEr).trans hV).cell (p := ⟨b, bo + k * 5 + 2, none⟩) hbz).trans x2, (HX.out V ((hEBk.trans hEr).trans hV)).2.2⟩)
              rcases ha : met.all (fun y => !sameN y xn) with _ | _
              · by_cases hxc : xc = cl
                · have HK := Lib.hid (show keepM met cl ⟨xn, xt, xc, xl, xd⟩ = false by unfold keepM apartM; dsimp only; rw [ha, hxc]; simp)
                  have g1 : (xc != cl) = false := by rw [hxc]; simp
                  clear ha hxc
                  go_wp2_with fail
                  refine wp_region_noPanic ?_
                  refine wp_region_seq (S := (fun V => V.cell? ⟨b, bo + k * 5 + 2, none⟩ = some (.int .u16 xc) ∧ V.cell? ⟨w.heap.size, 2, none⟩ = some (.int .u16 cl))) [(0, true), (1, true), (2, true), (3, true), (4, true), (5, true), (6, true), (7, true), (8, true), (9, true), (10, true)] (by kernel_rfl) (by kernel_rfl) (fun _ _ _ _ _ h => h) (H20.out _ ((Ext.refl wj).drew)) ?_
                  repeat ((with_reducible refine heldIs ?_); first
                    | (refine heldTake (v := ?_) (by rfl) (by rfl) ?_ ?_; rotate_left; (focus (intro V hV; (try dsimp only at hV); (go_simp <;> with_reducible rfl))); (try simp only [Act.put, List.setIfInBounds_toArray, List.set_cons_zero, List.set_cons_succ]))
                    | (refine heldSkip (by rfl) (by rfl) ?_; (try simp only [Act.put, List.setIfInBounds_toArray, List.set_cons_zero, List.set_cons_succ])))
                  refine heldDone ?_
                  refine NoPanic.normal ?_
                  go_wp2_with fail
                  go_roundw
                  case rel => exact ⟨k + 1, aA, ac, acc, by omega, by go_num, rfl, by rw [HT.out, HK.out]; simp, hown.ext hEr.drew, (hE8k.trans hEr).drew⟩
                  case measure => simp [intOf]; omega
                · have HK := Lib.hid (show keepM met cl ⟨xn, xt, xc, xl, xd⟩ = true by unfold keepM; simp [hxc])
                  have g1 : (xc != cl) = true := by simpa using hxc
                  clear ha hxc
                  go_wp2_with fail
                  refine wp_region_noPanic ?_
                  refine wp_region_seq (S := (fun V => V.cell? ⟨b, bo + k * 5 + 2, none⟩ = some (.int .u16 xc) ∧ V.cell? ⟨w.heap.size, 2, none⟩ = some (.int .u16 cl))) [(0, true), (1, true), (2, true), (3, true), (4, true), (5, true), (6, true), (7, true), (8, true), (9, true), (10, true)] (by kernel_rfl) (by kernel_rfl) (fun _ _ _ _ _ h => h) (H20.out _ ((Ext.refl wj).drew)) ?_
                  repeat ((with_reducible refine heldIs ?_); first
                    | (refine heldTake (v := ?_) (by rfl) (by rfl) ?_ ?_; rotate_left; (focus (intro V hV; (try dsimp only at hV); (go_simp <;> with_reducible rfl))); (try simp only [Act.put, List.setIfInBounds_toArray, List.set_cons_zero, List.set_cons_succ]))
                    | (refine heldSkip (by rfl) (by rfl) ?_; (try simp only [Act.put, List.setIfInBounds_toArray, List.set_cons_zero, List.set_cons_succ])))
                  refine heldDone ?_
                  refine NoPanic.normal ?_
                  have u0 := (((hEwk.trans hEr).drew).cell (p := ⟨b, bo + k * 5, none⟩) hbz).trans x0
                  have u1 := (((hEwk.trans hEr).drew).cell (p := ⟨b, bo + k * 5 + 1, none⟩) hbz).trans x1
                  have u2 := (((hEwk.trans hEr).drew).cell (p := ⟨b, bo + k * 5 + 2, none⟩) hbz).trans x2
                  have u3 := (((hEwk.trans hEr).drew).cell (p := ⟨b, bo + k * 5 + 3, none⟩) hbz).trans x3
                  have u4 := (((hEwk.trans hEr).drew).cell (p := ⟨b, bo + k * 5 + 4, none⟩) hbz).trans x4
                  go_wp2_with (first
                    | (at_builtin
                       refine wpList_app _ rfl (.tmp 105) (.tmp 110) _ rfl w8.heap.size 38 r0 _ 5 40 Tryz.underlying34 hr0 hs0 hs1 hs2 rfl (by omega) aA acc.length ac (acc.flatMap recCells) rfl (hown.ext (Ext.trans (Ext.trans hEr ((Ext.refl wj).drew)) ((Ext.refl _).alloc _))) 0 _ 1 1 (recCells ⟨xn, xt, xc, xl, xd⟩) rfl (rd_new _ _ rfl _ _ 1 5 rfl) (rec_one8 _) (by omega) (by omega) (by have := hE8k.size; have := hEr.size; simp; omega) ?_
                       intro A9 c9 w9 hown9 hg9 hb9 hat9))
                  go_roundw
                  case rel =>
                    refine ⟨k + 1, A9, c9, acc ++ [⟨xn, xt, xc, xl, xd⟩], by omega, by go_num, by simp, by rw [HT.out, HK.out, if_pos rfl], ?_, (((hE8k.trans hEr).drew).alloc _).then hb9 (Nat.le_refl _)⟩
                    rw [List.length_append, List.flatMap_append]; simpa using hown9
                  case measure => simp [intOf]; omega
              · have HK := Lib.hid (show keepM met cl ⟨xn, xt, xc, xl, xd⟩ = true by unfold keepM apartM; dsimp only; rw [ha]; rfl)
                clear ha
                go_wp2_with fail
                refine wp_region_noPanic ?_
                refine wp_region_seq (S := (fun V => True)) [(0, true), (1, true), (2, true), (3, true), (4, true), (5, true), (6, true), (7, true), (8, true), (9, true), (10, true)] (by kernel_rfl) (by kernel_rfl) (fun _ _ _ _ _ h => h) (trivial) ?_
                repeat ((with_reducible refine heldIs ?_); first
                  | (refine heldTake (v := ?_) (by rfl) (by rfl) ?_ ?_; rotate_left; (focus (intro V hV; (try dsimp only at hV); (go_simp <;> with_reducible rfl))); (try simp only [Act.put, List.setIfInBounds_toArray, List.set_cons_zero, List.set_cons_succ]))
                  | (refine heldSkip (by rfl) (by rfl) ?_; (try simp only [Act.put, List.setIfInBounds_toArray, List.set_cons_zero, List.set_cons_succ])))
                refine heldDone ?_
                refine NoPanic.normal ?_
                have u0 := (((hEwk.trans hEr).drew).cell (p := ⟨b, bo + k * 5, none⟩) hbz).trans x0
                have u1 := (((hEwk.trans hEr).drew).cell (p := ⟨b, bo + k * 5 + 1, none⟩) hbz).trans x1
                have u2 := (((hEwk.trans hEr).drew).cell (p := ⟨b, bo + k * 5 + 2, none⟩) hbz).trans x2
                have u3 := (((hEwk.trans hEr).drew).cell (p := ⟨b, bo + k * 5 + 3, none⟩) hbz).trans x3
                have u4 := (((hEwk.trans hEr).drew).cell (p := ⟨b, bo + k * 5 + 4, none⟩) hbz).trans x4
                go_wp2_with (first
                  | (at_builtin
                     refine wpList_app _ rfl (.tmp 105) (.tmp 110) _ rfl w8.heap.size 38 r0 _ 5 40 Tryz.underlying34 hr0 hs0 hs1 hs2 rfl (by omega) aA acc.length ac (acc.flatMap recCells) rfl (hown.ext (Ext.trans (Ext.trans hEr ((Ext.refl wj).drew)) ((Ext.refl _).alloc _))) 0 _ 1 1 (recCells ⟨xn, xt, xc, xl, xd⟩) rfl (rd_new _ _ rfl _ _ 1 5 rfl) (rec_one8 _) (by omega) (by omega) (by have := hE8k.size; have := hEr.size; simp; omega) ?_
                     intro A9 c9 w9 hown9 hg9 hb9 hat9))
                go_roundw
                case rel =>
                  refine ⟨k + 1, A9, c9, acc ++ [⟨xn, xt, xc, xl, xd⟩], by omega, by go_num, by simp, by rw [HT.out, HK.out, if_pos rfl], ?_, (((hE8k.trans hEr).drew).alloc _).then hb9 (Nat.le_refl _)⟩
                  rw [List.length_append, List.flatMap_append]; simpa using hown9
                case measure => simp [intOf]; omega
        · obtain rfl : k = m.length := by omega
          have hac : acc = l ++ m.filter (keepM met cl) := by rw [Hacc.out, List.take_length]
          have hrall : Recs wk w8.heap.size (.slice aA acc.length ac) (l ++ m.filter (keepM met cl)) := by rw [← hac]; exact ⟨aA, ac, rfl, hown2.cap.1, hown2.cap.2, hown2.rd⟩
          have HG2 := Lib.hid (HG2.out (keepM met cl))
          have HF2 := Lib.hid (HF2.out (keepM met cl))
          rw [HC3.out] at HF2
          clear hac hown2
          go_wp2_with fail
          refine wp_region_noPanic ?_
          refine wp_region_seq (S := (fun V => V.cell? ⟨w.heap.size, 0, none⟩ = some (S n) ∧ V.cell? ⟨w.heap.size, 1, none⟩ = some (.int .u16 ty) ∧ V.cell? ⟨w.heap.size, 2, none⟩ = some (.int .u16 cl))) [(0, true), (1, true), (2, false), (3, false), (4, true), (5, true), (6, true), (7, true), (8, true), (9, true), (10, true), (11, true), (12, true)] (by kernel_rfl) (by kernel_rfl) (fun _ _ _ _ _ h => h) (HX.out _ (hEBk.drew)) ?_
          repeat ((with_reducible refine heldIs ?_); first
            | (refine heldTake (v := ?_) (by rfl) (by rfl) ?_ ?_; rotate_left; (focus (intro V hV; (try dsimp only at hV); (go_simp <;> with_reducible rfl))); (try simp only [Act.put, List.setIfInBounds_toArray, List.set_cons_zero, List.set_cons_succ]))
            | (refine heldSkip (by rfl) (by rfl) ?_; (try simp only [Act.put, List.setIfInBounds_toArray, List.set_cons_zero, List.set_cons_succ])))
          refine heldRun (by rfl) (fun K hK => ?_)
          go_simp
          refine (HG2.out _ _ _ (hEwk.drew) (hrall.ext ((Ext.refl wk).drew))).mono ?_; rintro e w13 ⟨g13, rfl, ho13, hE13⟩; obtain ⟨gA13, gc13, rfl, _, _⟩ := ho13.shape
          refine hK.out _ _ ?_ ?_
          · exact HX.out _ ((hEBk.drew).trans hE13)
          clear hK K
          (try simp only [Act.put, List.setIfInBounds_toArray, List.set_cons_zero, List.set_cons_succ])
          repeat ((with_reducible refine heldIs ?_); first
            | (refine heldTake (v := ?_) (by rfl) (by rfl) ?_ ?_; rotate_left; (focus (intro V hV; (try dsimp only at hV); (go_simp <;> with_reducible rfl))); (try simp only [Act.put, List.setIfInBounds_toArray, List.set_cons_zero, List.set_cons_succ]))
            | (refine heldSkip (by rfl) (by rfl) ?_; (try simp only [Act.put, List.setIfInBounds_toArray, List.set_cons_zero, List.set_cons_succ])))
          refine heldRun (by rfl) (fun K hK => ?_)
          go_simp
          refine (HF2.out _ ((hEwk.drew).trans hE13) _ _ ho13.sets).mono ?_; rintro e w14 ⟨v14, u14, wn, rfl, hv14, hEm4, hu14, hEn4⟩; dsimp only at hv14 hu14 ⊢; obtain ⟨uA14, uc14, rfl, _, _⟩ := hu14.shape; obtain ⟨vA14, vc14, rfl, _, _⟩ := hv14.shape
          refine hK.out _ _ ?_ ?_
          · exact HX.out _ (((hEBk.drew).trans hE13).trans (hEm4.trans hEn4))
          clear hK K
          (try simp only [Act.put, List.setIfInBounds_toArray, List.set_cons_zero, List.set_cons_succ])
          repeat ((with_reducible refine heldIs ?_); first
            | (refine heldTake (v := ?_) (by rfl) (by rfl) ?_ ?_; rotate_left; (focus (intro V hV; (try dsimp only at hV); (go_simp <;> with_reducible rfl))); (try simp only [Act.put, List.setIfInBounds_toArray, List.set_cons_zero, List.set_cons_succ]))
            | (refine heldSkip (by rfl) (by rfl) ?_; (try simp only [Act.put, List.setIfInBounds_toArray, List.set_cons_zero, List.set_cons_succ])))
          refine heldDone ?_
          refine NoPanic.normal ?_
          have hEk14 : Ext wk w14 := ((Ext.refl wk).drew.trans hE13).trans (hEm4.trans hEn4)
          have hp4 := (Hpath.out.sets.ext (hE.trans hE8k)).ext hEk14
          have hf4 := (Hfin.out.sets.ext (hE.trans hE8k)).ext hEk14
          go_wp2_with fail
          refine (ref_sameAll _ _ _ _ _ _ _ hp4 (hv14.sets.ext hEn4)).mono ?_; rintro e w15 ⟨rfl, hE15⟩
          rw [decide_eq_true rfl]
          go_wp2_with fail
          refine (ref_sameAll _ _ _ _ _ _ _ (hf4.ext hE15) (hu14.sets.ext hE15)).mono ?_; rintro e w16 ⟨rfl, hE16⟩
          rw [decide_eq_true rfl]
          go_wp2_with fail
          go_ret
          exact ⟨ret_bool (by simp), ((hEwk.trans hEk14).trans hE15).trans hE16⟩
end Go.Proofs.YthdlgmfeicikpaaGreatDoor
namespace Go.Proofs.YthdlgmfeicikpaaGreatDoor
set_option linter.unusedSimpArgs false
set_option linter.unusedVariables false
open Go.ChangeShapes Go.WideShapes Go.ChangeAt Go.RowKit
set_option maxRecDepth 100000

theorem chainMore_contract (H : Type) (enc : TypeId × Value → H) (W : World) (base : Nat) (args : Array Value) (ds gs : List (DataW H)) (before : List MemPlace)
    (hval : ∀ (j : Nat) t v, Tryz.f12.params[j]? = some t → args[j]? = some v → Value.okWide Tryz.prog W .any base t v)
    (hW : DataW.Whole enc Tryz.prog Tryz.f12.params.toList Rows.chainMoreSpec.vars false W args.toList ds gs before)
    (hsz : (DataW.weightsEach Tryz.prog (Tryz.f12.params.toList ++ (OpenSpec.ofChange Rows.chainMoreSpec).bare.plain.varTypes Tryz.prog) (ds ++ gs)).all (· ≤ reachBytes) = true)
    (hL : laidMetH Tryz.prog laidL W) :
    Calls Tryz.prog 12 args W fun e W' => ∃ v, e = .returned v ∧ Rows.chainMoreSpec.post enc Tryz.prog Tryz.f12 false true false false W args v W' := by
  have hW' := hW
  have hp : ∀ t ∈ Tryz.f12.params.toList, Tryz.prog.readableRec t = true ∧ t < Tryz.prog.types.size := by
    have h : (Tryz.f12.params.toList.all fun t => Tryz.prog.readableRec t && decide (t < Tryz.prog.types.size)) = true := by kernel_rfl
    simpa only [List.all_eq_true, Bool.and_eq_true, decide_eq_true_eq] using h
  have hg := laid_of hL
  obtain ⟨p, q, hA0, hV, rfl, _, _⟩ := hW
  have hA : DataW.TrodAll enc Tryz.prog W 0 (fun _ => true) true Tryz.f12.params.toList args.toList ds p := hA0
  clear hA0
  rw [Tryz.params12] at hA hval hsz
  obtain ⟨rfl, rfl⟩ := trodVars_none hV
  obtain ⟨v0, v1, v2, d0, d1, d2, p0, p1, p2, rfl, rfl, rfl, h0, h1, h2⟩ := trodAll_three hA
  obtain ⟨n, ty, cl, rfl, hn, _, _⟩ := open_question (hval 0 _ _ rfl rfl) h0
  obtain ⟨l, hr, hok⟩ := open_recs (hval 1 _ _ rfl rfl) h1
  obtain ⟨m, hmr, hmok⟩ := open_recs (hval 2 _ _ rfl rfl) h2
  refine (law_chainMore n ty cl v1 l v2 m W hg hr hok hmr hmok hn).mono ?_
  rintro e W' ⟨rfl, hE⟩
  exact ⟨_, rfl, post_true laid_out rfl (by kernel_rfl) Tryz.underlying4 hp hW' rfl hE⟩

theorem chainMore_reads (os : Os) {H : Type} (enc : TypeId × Value → H) : ∃ places, DataW.whole enc Tryz.prog ((laidWorld os).forCall (fun _ _ => 0) ⟨#[], #[.agg #[.string ⟨#[]⟩, .int .u16 0, .int .u16 0], .slice none 0 0, .slice none 0 0], []⟩).memory Tryz.f12.params.toList Rows.chainMoreSpec.vars false (#[.agg #[.string ⟨#[]⟩, .int .u16 0, .int .u16 0], .slice none 0 0, .slice none 0 0] : Array Value).toList 8 = some ([.agg [.lit (.string []), .lit (.int .u16 0), .lit (.int .u16 0)], .nil, .nil], [], places) :=
  ⟨[], by kernel_rfl⟩
theorem chainMore_lifted (os : Os) (started : os.Started) (H : Type) (enc : TypeId × Value → H) (F : Stop.Interp) :
    ReturnsInHanded {} Tryz.checked os 12 .any ((OpenSpec.ofChange Rows.chainMoreSpec).preRow enc Tryz.prog Tryz.f12 Rows.chainMoreRow.domain false Rows.chainMoreRow.laid) (((OpenSpec.ofChange Rows.chainMoreSpec).at F).post enc Tryz.prog Tryz.f12 false true false false) := by
  obtain ⟨places, hx⟩ := chainMore_reads os enc
  refine returnsInHanded_of_row (C := Tryz.checked) (s := OpenSpec.ofChange Rows.chainMoreSpec) own_knob started (by kernel_rfl) Tryz.func12
    (witness_row_at (enc := enc) (C := Tryz.checked) false (laidWorld os) #[.agg #[.string ⟨#[]⟩, .int .u16 0, .int .u16 0], .slice none 0 0, .slice none 0 0] rfl (by kernel_rfl) (by kernel_rfl) (by kernel_rfl)
      (OpenSpec.preRow_of_cond 8 hx (by kernel_rfl) (fun k hk => by cases hk) (by kernel_rfl) (laid_met os _))) ?_
  intro W base args ds gs before hval hW _ _ hsz hL _ _
  exact chainMore_contract H enc W base args ds gs before hval hW hsz hL
theorem chainMore_said : Rows.ChainMoreSaid :=
  OpenClaim.holds_of_cond 12 Tryz.f12 rfl rfl rfl rfl rfl rfl rfl ⟨rfl, rfl, rfl, rfl, rfl⟩ rfl rfl rfl rfl rfl (by kernel_rfl) Tryz.func12 (by kernel_rfl)
    (of_decide_eq_true (by kernel_rfl)) (by unfold Func.isWrapper; first | (rw [if_pos (by decide +kernel)]; kernel_rfl) | (rw [if_neg (by decide +kernel)]; exact ⟨rfl, rfl⟩))
    (fun os started H enc _ F => by rw [OpenClaim.pre_eq_preRow]; exact chainMore_lifted os started H enc F)
/-- THE CARD. -/
theorem chainMore_card : Rows.ChainMoreCardSaid :=
  Claim7.holds_tied_plain_at .later [] _ _ _ _ chainMore_said (fun _ h => by cases h) (by kernel_rfl) (fun _ h => by cases h) chainMore_row_tie rfl ⟨rfl, rfl⟩ (by kernel_rfl) rfl
    (fun f fn hf hfn => by
      obtain rfl : f = 12 := Option.some.inj ((show Tryz.prog.funcNamed Rows.chainMoreRow.func = some 12 by kernel_rfl).symm.trans hf) |>.symm
      obtain rfl : fn = Tryz.f12 := (Option.some.inj (Tryz.func12.symm.trans hfn)).symm
      refine ⟨by kernel_rfl, fun j t ht => ?_⟩
      have h : (Tryz.f12.params.toList.all fun t => !Tryz.prog.wantsStandIn t) = true := by kernel_rfl
      have h2 := List.all_eq_true.1 h t (by simpa using Array.mem_of_getElem? ht)
      exact (by simpa using h2 : Tryz.prog.wantsStandIn t = false))
    (by kernel_rfl)
#print axioms chainMore_card
end Go.Proofs.YthdlgmfeicikpaaGreatDoor
