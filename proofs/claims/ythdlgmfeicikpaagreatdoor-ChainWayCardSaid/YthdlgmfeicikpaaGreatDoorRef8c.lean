/- The walks of hustingsref08: Same, SameAll. -/
import Derived.Test.YthdlgmfeicikpaaGreatDoorRef8b
import Derived.StillTailTactics
namespace Go.Proofs.YthdlgmfeicikpaaGreatDoor
set_option linter.unusedSimpArgs false
set_option linter.unusedVariables false
open Go.RowKit
set_option maxRecDepth 100000

theorem str_eq {a b : List UInt8} (h : a = b) : (a == b) = true := by rw [h]; simp
theorem ne_nats {x y : Nat} (h : x ≠ y) : ((x : Int) == (y : Int)) = false ∧ ((x : Int) != (y : Int)) = true := ne_ints (by omega)
theorem eq_nats {x y : Nat} (h : x = y) : ((x : Int) == (y : Int)) = true ∧ ((x : Int) != (y : Int)) = false := eq_ints (by omega)

set_option maxHeartbeats 2000000 in
theorem ref_sameSet (a b : SetD) (d e' : Value) (lo lo' : Nat) (w : World) (hd : Strs w lo d a.data) (he : Strs w lo' e' b.data) :
    Calls Tryz.prog 19 #[setVal a d, setVal b e'] w fun e w' => e = .returned (.bool (decide (a = b))) ∧ Ext w w' := by
  obtain ⟨an, at_, ac, atl, ad⟩ := a
  obtain ⟨bn, bt, bc, btl, bd⟩ := b
  dsimp only at *
  obtain ⟨dA, dc, rfl, hd1, hd2, hrd⟩ := hd
  obtain ⟨eA, ec, rfl, he1, he2, hre⟩ := he
  unfold maxLen at hd2 he2
  obtain ⟨R, hR⟩ : ∃ R, R = decide ((⟨an, at_, ac, atl, ad⟩ : SetD) = ⟨bn, bt, bc, btl, bd⟩) := ⟨_, rfl⟩
  rw [← hR]
  have HR := Lib.hid hR
  clear hR
  by_cases h1 : an ≠ bn
  · have HF := Lib.hid (show R = false by rw [HR.out]; simp [h1])
    have f1 := str_ne h1
    clear h1
    go_enter Tryz.func19, Tryz.ntmps19
    go_wp2_with fail
    go_ret
    exact ⟨ret_bool HF.out.symm, ((Ext.refl _).alloc _).alloc _⟩
  replace h1 := Decidable.not_not.1 h1
  subst h1
  by_cases h2 : at_ ≠ bt
  · have HF := Lib.hid (show R = false by rw [HR.out]; simp [h2])
    obtain ⟨f1, f2⟩ := ne_ints h2
    clear h2
    go_enter Tryz.func19, Tryz.ntmps19
    go_wp2_with fail
    go_ret
    exact ⟨ret_bool HF.out.symm, ((Ext.refl _).alloc _).alloc _⟩
  replace h2 := Decidable.not_not.1 h2
  subst h2
  by_cases h3 : ac ≠ bc
  · have HF := Lib.hid (show R = false by rw [HR.out]; simp [h3])
    obtain ⟨f1, f2⟩ := ne_ints h3
    clear h3
    go_enter Tryz.func19, Tryz.ntmps19
    go_wp2_with fail
    go_ret
    exact ⟨ret_bool HF.out.symm, ((Ext.refl _).alloc _).alloc _⟩
  replace h3 := Decidable.not_not.1 h3
  subst h3
  by_cases h4 : atl ≠ btl
  · have HF := Lib.hid (show R = false by rw [HR.out]; simp [h4])
    obtain ⟨f1, f2⟩ := ne_ints h4
    clear h4
    go_enter Tryz.func19, Tryz.ntmps19
    go_wp2_with fail
    go_ret
    exact ⟨ret_bool HF.out.symm, ((Ext.refl _).alloc _).alloc _⟩
  replace h4 := Decidable.not_not.1 h4
  subst h4
  by_cases h5 : ad.length ≠ bd.length
  · have HF := Lib.hid (show R = false by rw [HR.out, decide_eq_false_iff_not]; intro e; injection e with _ _ _ _ e; exact h5 (by rw [e]))
    obtain ⟨f1, f2⟩ := ne_nats h5
    clear h5
    go_enter Tryz.func19, Tryz.ntmps19
    go_wp2_with fail
    go_ret
    exact ⟨ret_bool HF.out.symm, ((Ext.refl _).alloc _).alloc _⟩
  replace h5 := Decidable.not_not.1 h5
  have HR2 := Lib.hid (show R = decide (ad = bd) by rw [HR.out]; simp)
  rw [← h5] at hre ⊢
  have H5 := Lib.hid h5
  clear h5 HR
  go_enter Tryz.func19, Tryz.ntmps19
  go_wp2_with fail
  go_loopw [5] (fun i wr => ∃ k : Nat, k ≤ ad.length ∧ i = .int .i64 k ∧ ad.take k = bd.take k ∧ Ext ((w.alloc (.cells #[S an, .int .u16 at_, .int .u16 ac, .int .u32 atl, .slice dA ad.length dc] 27)).alloc (.cells #[S an, .int .u16 at_, .int .u16 ac, .int .u32 atl, .slice eA ad.length ec] 27)) wr) (fun i _ => ad.length - (intOf i).toNat)
  case atStart => exact ⟨0, by omega, rfl, rfl, Ext.refl _⟩
  case round =>
    obtain ⟨k, hk, rfl, hrel, hE⟩ := hrel
    obtain ⟨wo, rfl⟩ : ∃ wo : World, wo = wr := ⟨_, rfl⟩
    have HK := Lib.hid hrel
    clear hrel
    have hEw : Ext w wo := (((Ext.refl w).alloc _).alloc _).trans hE
    obtain ⟨hq, hqf, hqz⟩ := ext_new_at (w.heap.size + 1) (by simp) hE
    obtain ⟨hp, hpf, hpz⟩ := ext_new_at w.heap.size rfl (((Ext.refl _).alloc _).trans hE)
    by_cases hlt : k < ad.length
    · have hlt2 : k < bd.length := by rw [← H5.out]; exact hlt
      obtain ⟨b1, o1, rfl, _, hz1, hc1⟩ := hrd.2 (by omega)
      obtain ⟨b2, o2, rfl, _, hz2, hc2⟩ := hre.2 (by omega)
      have c1 := hc1 k (S ad[k]) (by simp [List.getElem?_eq_getElem hlt])
      have c2 := hc2 k (S bd[k]) (by simp [List.getElem?_eq_getElem hlt2])
      rw [← hEw.cell (p := ⟨b1, _, none⟩) hz1] at c1
      rw [← hEw.cell (p := ⟨b2, _, none⟩) hz2] at c2
      obtain ⟨x, hx⟩ : ∃ x, x = ad[k] := ⟨_, rfl⟩
      obtain ⟨y, hy⟩ : ∃ y, y = bd[k] := ⟨_, rfl⟩
      rw [← hx] at c1
      rw [← hy] at c2
      have Hx := Lib.hid hx
      have Hy := Lib.hid hy
      have hki : (k : Int) < (ad.length : Int) := by omega
      have hk0 : (0 : Int) ≤ (k : Int) := by omega
      clear hx hy hc1 hc2 hrd hre
      by_cases hxy : x = y
      · have f1 := str_eq hxy
        have Hxy := Lib.hid hxy
        clear hxy
        go_wp2_with fail
        go_quiet (fail)
        go_wp2_with fail
        go_roundw
        case rel =>
          refine ⟨k + 1, by omega, by go_num, ?_, hE.drewN _⟩
          rw [take_snoc ad k hlt, take_snoc bd k hlt2, HK.out, ← Hx.out, ← Hy.out, Hxy.out]
        case measure => simp [intOf]; omega
      · have f1 := str_ne hxy
        have HF := Lib.hid (show R = false by
          rw [HR2.out, decide_eq_false_iff_not]; intro e; subst e; exact hxy (Hx.out.trans Hy.out.symm))
        clear hxy
        go_wp2_with fail
        go_quiet (fail)
        go_wp2_with fail
        go_ret
        exact ⟨ret_bool HF.out.symm, hEw.drewN _⟩
    · have HF := Lib.hid (show R = true by
        rw [HR2.out, decide_eq_true_eq]
        have := HK.out
        rw [List.take_of_length_le (by omega), List.take_of_length_le (by rw [← H5.out]; omega)] at this
        exact this)
      go_wp2_with fail
      go_ret
      exact ⟨ret_bool HF.out.symm, hEw⟩

theorem pair_get {ps : List (SetD × Value)} {l : List SetD} (h : ps.map Prod.fst = l) {k : Nat} (hk : k < ps.length) (hk' : k < l.length) : l[k] = ps[k].1 := by
  subst h; simp

set_option maxHeartbeats 2000000 in
theorem ref_sameAll (l1 l2 : List SetD) (v1 v2 : Value) (lo1 lo2 : Nat) (w : World) (h1 : Sets w lo1 v1 l1) (h2 : Sets w lo2 v2 l2) :
    Calls Tryz.prog 23 #[v1, v2] w fun e w' => e = .returned (.bool (decide (l1 = l2))) ∧ Ext w w' := by
  obtain ⟨ps, A, c, hl, rfl, h3, h4, hrd, hst⟩ := h1
  obtain ⟨qs, B, d, hm, rfl, h5, h6, hre, hsu⟩ := h2
  unfold maxLen at h4 h6
  have hlen1 : ps.length = l1.length := by rw [← hl]; simp
  have hlen2 : qs.length = l2.length := by rw [← hm]; simp
  obtain ⟨R, hR⟩ : ∃ R, R = decide (l1 = l2) := ⟨_, rfl⟩
  rw [← hR]
  have HR := Lib.hid hR
  clear hR
  by_cases hll : ps.length ≠ qs.length
  · have HF := Lib.hid (show R = false by rw [HR.out, decide_eq_false_iff_not]; intro e; subst e; exact hll (hlen1.trans hlen2.symm))
    obtain ⟨f1, f2⟩ := ne_nats hll
    clear hll hlen1 hlen2 hl hm
    go_enter Tryz.func23, Tryz.ntmps23
    go_wp2_with fail
    go_ret
    exact ⟨ret_bool HF.out.symm, Ext.refl _⟩
  replace hll := Decidable.not_not.1 hll
  rw [← hll] at hre ⊢
  have Hll := Lib.hid hll
  have Hl1 := Lib.hid hlen1
  have Hl2 := Lib.hid hlen2
  have Hl := Lib.hid hl
  have Hm := Lib.hid hm
  clear hll hlen1 hlen2 hl hm
  go_enter Tryz.func23, Tryz.ntmps23
  go_wp2_with fail
  go_loopw [5] (fun i wr => ∃ k : Nat, k ≤ ps.length ∧ i = .int .i64 k ∧ l1.take k = l2.take k ∧ Ext w wr) (fun i _ => ps.length - (intOf i).toNat)
  case atStart => exact ⟨0, by omega, rfl, rfl, Ext.refl _⟩
  case round =>
    obtain ⟨k, hk, rfl, hrel, hE⟩ := hrel
    obtain ⟨wo, rfl⟩ : ∃ wo : World, wo = wr := ⟨_, rfl⟩
    have HK := Lib.hid hrel
    clear hrel
    by_cases hlt : k < ps.length
    · have hltq : k < qs.length := by rw [← Hll.out]; exact hlt
      have hlt1 : k < l1.length := by rw [← Hl1.out]; exact hlt
      have hlt2 : k < l2.length := by rw [← Hl2.out]; exact hltq
      obtain ⟨b1, o1, rfl, _, hz1, hc1⟩ := hrd.2 (by omega)
      obtain ⟨b2, o2, rfl, _, hz2, hc2⟩ := hre.2 (by omega)
      have g1 := sets_cells hc1 k ps[k] (List.getElem?_eq_getElem hlt)
      have g2 := sets_cells hc2 k qs[k] (List.getElem?_eq_getElem hltq)
      have s1 := (hst ps[k] (List.getElem_mem hlt)).ext hE
      have s2 := (hsu qs[k] (List.getElem_mem hltq)).ext hE
      have E1 := Lib.hid (pair_get Hl.out hlt hlt1)
      have E2 := Lib.hid (pair_get Hm.out hltq hlt2)
      generalize ps[k] = p at *
      generalize qs[k] = q at *
      obtain ⟨⟨pn, pt, pc, ptl, pd⟩, pv⟩ := p
      obtain ⟨⟨qn, qt, qc, qtl, qd⟩, qv⟩ := q
      dsimp only at *
      obtain ⟨pA, pcc, rfl⟩ := s1.shape
      obtain ⟨qA, qcc, rfl⟩ := s2.shape
      obtain ⟨x0, x1, x2, x3, x4⟩ := g1
      obtain ⟨y0, y1, y2, y3, y4⟩ := g2
      rw [← hE.cell (p := ⟨b1, _, none⟩) hz1] at x0 x1 x2 x3 x4
      rw [← hE.cell (p := ⟨b2, _, none⟩) hz2] at y0 y1 y2 y3 y4
      have hki : (k : Int) < (ps.length : Int) := by omega
      have hk0 : (0 : Int) ≤ (k : Int) := by omega
      have HC := Lib.hid (fun W (hW : Ext wo W) => ref_sameSet ⟨pn, pt, pc, ptl, pd⟩ ⟨qn, qt, qc, qtl, qd⟩ (.slice pA pd.length pcc) (.slice qA qd.length qcc) lo1 lo2 W (s1.ext hW) (s2.ext hW))
      clear hc1 hc2 hrd hre
      by_cases hxy : (⟨pn, pt, pc, ptl, pd⟩ : SetD) = ⟨qn, qt, qc, qtl, qd⟩
      · have hd : decide ((⟨pn, pt, pc, ptl, pd⟩ : SetD) = ⟨qn, qt, qc, qtl, qd⟩) = true := decide_eq_true hxy
        rw [hd] at HC
        have Hxy := Lib.hid hxy
        clear hxy hd
        go_wp2_with fail
        go_still_tail 8, (by kernel_rfl)
        go_wp2_with fail
        refine (HC.out _ ?hW).mono ?_
        case hW => exact (Ext.refl wo).drew
        rintro e w2 ⟨rfl, hE2⟩
        go_wp2_with fail
        go_roundw
        case rel =>
          refine ⟨k + 1, by omega, by go_num, ?_, hE.trans (((Ext.refl wo).drew).trans hE2)⟩
          rw [take_snoc l1 k hlt1, take_snoc l2 k hlt2, HK.out, E1.out, E2.out, Hxy.out]
        case measure => simp [intOf]; omega
      · have hd : decide ((⟨pn, pt, pc, ptl, pd⟩ : SetD) = ⟨qn, qt, qc, qtl, qd⟩) = false := decide_eq_false hxy
        rw [hd] at HC
        have HF := Lib.hid (show R = false by
          rw [HR.out, decide_eq_false_iff_not]; intro e; subst e; exact hxy (E1.out.symm.trans E2.out))
        clear hxy hd
        go_wp2_with fail
        go_still_tail 8, (by kernel_rfl)
        go_wp2_with fail
        refine (HC.out _ ?hW).mono ?_
        case hW => exact (Ext.refl wo).drew
        rintro e w2 ⟨rfl, hE2⟩
        go_wp2_with fail
        go_ret
        exact ⟨ret_bool HF.out.symm, hE.trans (((Ext.refl wo).drew).trans hE2)⟩
    · have HF := Lib.hid (show R = true by
        rw [HR.out, decide_eq_true_eq]
        have := HK.out
        rw [List.take_of_length_le (by rw [← Hl1.out]; omega), List.take_of_length_le (by rw [← Hl2.out, ← Hll.out]; omega)] at this
        exact this)
      go_wp2_with fail
      go_ret
      exact ⟨ret_bool HF.out.symm, hE⟩
end Go.Proofs.YthdlgmfeicikpaaGreatDoor
