/- hustingslaw08.RrsetGroups returns true for every input, and every argument reads behind the call as it read before; the listed variable (errors.errorType) is tied to the program's text. No condition of ours. -/
import Derived.Test.YthdlgmfeicikpaaGreatDoorBm
import Derived.Test.YthdlgmfeicikpaaGreatDoorBo
import Derived.Test.YthdlgmfeicikpaaGreatDoorBq
import Derived.Test.YthdlgmfeicikpaaGreatDoorBr
import Derived.Test.YthdlgmfeicikpaaGreatDoorBn
import Derived.Test.YthdlgmfeicikpaaGreatDoorBg
namespace Go.Proofs.YthdlgmfeicikpaaGreatDoor
set_option linter.unusedSimpArgs false
set_option linter.unusedVariables false
open Go.RowKit
set_option maxRecDepth 100000

theorem recsOk8f {l : List RecD} (h : ∀ r ∈ l, RecOk r) : RecsOk l := fun r hr => ⟨(h r hr).2.2.1, (h r hr).2.2.2.1⟩

set_option maxHeartbeats 8000000 in
theorem law_rrsetGroups (v : Value) (l : List RecD) (s : SetD) (dv : Value) (w : World) (hg : Laid w) (h : Recs w 0 v l) (hre : ∀ r ∈ l, RecRe r) (hok : ∀ r ∈ l, RecOk r) (hdv : Strs w 0 dv s.data) (hsr : SetRe s) :
    Calls Tryz.prog 9 #[v, setVal s dv] w fun e w' => e = .returned (.bool true) ∧ Ext w w' := by
  have HL := Lib.hid (fun W (hW : Ext w W) => law_long 0 v l W (h.ext hW) hre)
  have HL2 := Lib.hid (fun W g (hS : Sets W 0 g [s]) => law_longSets 0 g [s] W hS (fun x hx => by rw [List.mem_singleton] at hx; subst hx; exact hsr))
  have HA := Lib.hid (fun W (hW : Ext w W) => law8_awake W (hg.ext hW))
  have HLt := Lib.hid (fun W g (hg : g = W.heap.size) (hW : Ext w W) => sets_lit1 W g hg s dv (hdv.ext hW))
  obtain ⟨A, c, rfl, h1, h2, hrd⟩ := h
  have h : Recs w 0 (.slice A l.length c) l := ⟨A, c, rfl, h1, h2, hrd⟩
  have Hh := Lib.hid h
  clear h
  unfold maxLen at h2
  rcases hb : longB l with _ | _
  · have hsm := recs8 hb
    rw [hb] at HL
    rcases hb2 : longSB [s] with _ | _
    · rw [hb2] at HL2
      have hs8 := (sets8 hb2).2 s (by simp)
      have HG := Lib.hid (fun W lo v' (hW : Ext w W) (hr : Recs W lo v' l) => rrset_groupR lo v' l W (hg.ext hW) hr (recsBd8 hb) (recsOk8f hok))
      have HGr := Lib.hid (fun W lo v' (hW : Ext w W) (hr : Recs W lo v' l) => ref_group lo v' l W hr (recsBd8 hb))
      have HR1 := Lib.hid (fun W (hW : Ext w W) => rrset_records s dv 0 W (hdv.ext hW) (by omega))
      have HR2 := Lib.hid (fun W (hW : Ext w W) => ref_records s dv 0 W (hdv.ext hW) (by omega))
      have hl200 : l.length < 200 := hsm.1
      generalize groupR l = sets at *
      obtain ⟨dA, dc, rfl⟩ := hdv.shape
      obtain ⟨sn, st, sc, sl, sd⟩ := s
      dsimp only at *
      obtain ⟨i0, hi0, hz0, hz1, hz2⟩ := info_parts info_rec8
      have Hrd := Lib.hid hrd
      clear hb hb2 hsm hrd hdv hsr hs8
      go_enter Tryz.func9, Tryz.ntmps9
      go_wp2_with fail
      obtain ⟨WB, hWB⟩ : ∃ WB, WB = w.alloc (.cells #[S sn, .int .u16 st, .int .u16 sc, .int .u32 sl, .slice dA sd.length dc] 27) := ⟨_, rfl⟩
      have hEB0 : Ext w WB := by rw [hWB]; exact (Ext.refl _).alloc _
      obtain ⟨xc, _, hxz⟩ := ext_new_at w.heap.size rfl (show Ext (w.alloc _) WB by rw [hWB]; exact Ext.refl _)
      have HX := Lib.hid (show ∀ V, Ext WB V → V.cell? ⟨w.heap.size, 0, none⟩ = some (S sn) ∧ V.cell? ⟨w.heap.size, 1, none⟩ = some (.int .u16 st) ∧ V.cell? ⟨w.heap.size, 2, none⟩ = some (.int .u16 sc) ∧ V.cell? ⟨w.heap.size, 3, none⟩ = some (.int .u32 sl) ∧ V.cell? ⟨w.heap.size, 4, none⟩ = some (.slice dA sd.length dc) from fun V hV => ⟨(hV.cell (p := ⟨w.heap.size, 0, none⟩) hxz).trans (xc 0), (hV.cell (p := ⟨w.heap.size, 1, none⟩) hxz).trans (xc 1), (hV.cell (p := ⟨w.heap.size, 2, none⟩) hxz).trans (xc 2), (hV.cell (p := ⟨w.heap.size, 3, none⟩) hxz).trans (xc 3), (hV.cell (p := ⟨w.heap.size, 4, none⟩) hxz).trans (xc 4)⟩)
      rw [← hWB]
      clear hWB xc
      refine (HL.out _ hEB0).mono ?_; rintro e w1 ⟨rfl, hE1⟩
      obtain ⟨c0, c1, c2, c3, c4⟩ := HX.out _ hE1
      go_wp2_with fail
      refine (HL2.out _ _ (HLt.out _ _ rfl (hEB0.trans hE1))).mono ?_; rintro e w2 ⟨rfl, rfl⟩
      have hE2 : Ext WB (w1.alloc (.cells (setCells (⟨sn, st, sc, sl, sd⟩, .slice dA sd.length dc)).toArray 27)) := hE1.alloc _
      clear c0 c1 c2 c3 c4
      go_wp2_with fail
      refine (HGr.out _ 0 _ (hEB0.trans hE2) (Hh.out.ext (hEB0.trans hE2))).mono ?_; rintro e w3 ⟨g3, rfl, ho3, hE3⟩
      obtain ⟨gA, gc, rfl, _, _⟩ := ho3.shape
      have hEB3 := hE2.trans hE3
      have hEw3 := hEB0.trans hEB3
      go_wp2_with (first
        | (at_builtin
           refine wpList_app _ rfl (.tmp 21) (.tmp 22) _ rfl w3.heap.size 38 i0 _ 5 40 Tryz.underlying34 hi0 hz0 hz1 hz2 rfl (by omega) (some ⟨w3.heap.size, 0, none⟩) 0 0 [] rfl (own_zero w3 38 5) 0 A l.length c (l.flatMap recCells) rfl (Hrd.out.ext (hEw3.alloc _)) (recs_one8 l) (by omega) (by omega) (by simp) ?_
           intro A5 c5 w5 hown5 hg5 hb5 hat5))
      rw [Nat.zero_add, List.nil_append] at hown5
      have hE35 : Ext w3 w5 := ((Ext.refl w3).alloc _).then hb5 (Nat.le_refl _)
      have hrin : Recs w5 w3.heap.size (.slice A5 l.length c5) l := ⟨A5, c5, rfl, hown5.cap.1, hown5.cap.2, hown5.rd⟩
      have hEB5 := hEB3.trans hE35
      have hEw5 := hEB0.trans hEB5
      have Ho3 := Lib.hid (ho3.sets.ext hE35)
      clear hown5 hg5 hb5 hat5 ho3
      go_loopw [7] (fun i wr => ∃ k : Nat, k ≤ 2 ∧ i = .int .i64 k ∧ Ext w5 wr) (fun i _ => 2 - (intOf i).toNat)
      case atStart => exact ⟨0, by omega, rfl, Ext.refl _⟩
      case round =>
        obtain ⟨k, hk, rfl, hE⟩ := hrel
        obtain ⟨wo, rfl⟩ : ∃ wo : World, wo = wr := ⟨_, rfl⟩
        have hEwo : Ext w wo := hEw5.trans hE
        have hEB : Ext WB wo := hEB5.trans hE
        by_cases hlt : k < 2
        · have hki : (k : Int) < 2 := by omega
          go_wp2_with fail
          refine (HG.out _ _ _ hEwo (hrin.ext hE)).mono ?_; rintro e w8 ⟨g8, rfl, ho8, hE8⟩
          obtain ⟨ps, aA, ac, hps, rfl, how, hdw⟩ := ho8
          have ho8 : OSets w8 wo.heap.size (.slice aA ps.length ac) sets := ⟨ps, aA, ac, hps, rfl, how, hdw⟩
          go_wp2_with fail
          refine (ref_sameAll _ _ _ _ _ _ _ ho8.sets ((Ho3.out.ext hE).ext hE8)).mono ?_; rintro e w9 ⟨rfl, hE9⟩
          rw [decide_eq_true rfl]
          go_wp2_with fail
          refine (ref_sameRecords _ _ _ _ _ _ _ ((hrin.ext hE).ext (hE8.trans hE9)) (Hh.out.ext ((hEwo.trans hE8).trans hE9))).mono ?_; rintro e w10 ⟨rfl, hE10⟩
          rw [decide_eq_true rfl]
          have hE810 := hE9.trans hE10
          have hab : ∀ k, (Value.slice aA ps.length ac).ownBlock = some k → wo.heap.size ≤ k ∧ k < w8.heap.size := how.blk
          have hcap := how.cap
          have hac2 := hcap.2
          unfold maxLen at hac2
          have hI0 : SpoInv w10 wo.heap.size w8.heap.size ps.length aA ac ps w10 :=
            ⟨rfl, how.ext hE810, fun p hp => ⟨_, (hdw p hp).ext hE810, fun k hk => ((hdw p hp).blk k hk).2⟩, Betw.refl _ _ _⟩
          have hEo10 : Ext wo w10 := hE8.trans hE810
          clear how hdw hps ho8
          generalize hlo : wo.heap.size = lo at *
          generalize w8.heap.size = hi at *
          generalize hn : ps.length = n at *
          have hn9 : n ≤ 9223372036854775807 := by have := hcap.1; omega
          have Hlo := Lib.hid hlo
          clear hn hlo hcap
          go_wp2_with fail
          go_loopw [9] (fun i wr => ∃ (k : Nat) (qs : List (SetD × Value)), k ≤ n ∧ i = .int .i64 k ∧ SpoInv w10 lo hi n aA ac qs wr) (fun i _ => n - (intOf i).toNat)
          case atStart => exact ⟨0, ps, by omega, rfl, hI0⟩
          case round =>
            obtain ⟨q, qs, hq, rfl, hI⟩ := hrel
            obtain ⟨wq, rfl⟩ : ∃ wq : World, wq = wr := ⟨_, rfl⟩
            clear hI0
            by_cases hql0 : q < n
            · obtain ⟨g, rfl, hgw, hgz, hgf, hgc⟩ := hI.own.addr (by omega)
              have hgh : g < hi := (hab g rfl).2
              have hql : q < qs.length := by rw [hI.len]; exact hql0
              have hmem : qs[q] ∈ qs := List.getElem_mem hql
              have hqs : qs[q]? = some qs[q] := List.getElem?_eq_getElem hql
              generalize hpe : qs[q] = p at *
              obtain ⟨⟨pn, pt, pc, ptl, pd⟩, pv⟩ := p
              obtain ⟨l0, ⟨pA, pcc, rfl, ho0⟩, hpk⟩ := hI.datas _ hmem
              have hc0 := ho0.cap
              have hm2 := hc0.2
              unfold maxLen at hm2
              have hqi : (q : Int) < (n : Int) := by omega
              have hq0 : (0 : Int) ≤ (q : Int) := by omega
              generalize hm : l0.length = m at *
              have hm9 : m ≤ 9223372036854775807 := by have := hc0.1; omega
              have Hqs := Lib.hid hqs
              clear hm ho0 hgc hgf hc0 hqs hpe
              go_wp2_with fail
              go_loopw [10] (fun j wi => ∃ (i : Nat), i ≤ m ∧ j = .int .i64 i ∧ SpoInv w10 lo hi n (some ⟨g, 0, none⟩) ac qs wi) (fun j _ => m - (intOf j).toNat)
              case atStart => exact ⟨0, by omega, rfl, hI⟩
              case round =>
                obtain ⟨i, hi', rfl, hJ⟩ := hrel
                obtain ⟨wi, rfl⟩ : ∃ wi : World, wi = wr := ⟨_, rfl⟩
                obtain ⟨g2, e2, _, hgz2, hgf2, hgc2⟩ := hJ.own.addr (by omega)
                injection e2 with e2
                injection e2 with e2 _ _
                subst e2
                have hcs := sets_cells (off := 0) (fun j u hu => by rw [Nat.zero_add]; exact hgc2 j u hu) q _ Hqs.out
                simp only [Nat.zero_add] at hcs
                obtain ⟨y0, y1, y2, y3, y4⟩ := hcs
                by_cases hil : i < m
                · obtain ⟨l1, ⟨qA, qc, e1, ho1⟩, hqk⟩ := hJ.datas _ hmem
                  dsimp only at e1 ho1 hqk
                  injection e1 with e1 e3 e4
                  subst e1 e4
                  rw [← e3] at ho1
                  obtain ⟨gd, rfl, hdw, hdz, hdf, hdc⟩ := ho1.addr (by omega)
                  have hgd : gd < hi := hqk gd rfl
                  have hdx : ∃ x, wi.cell? ⟨gd, i, none⟩ = some (S x) := ⟨_, hdc i (S (l1[i]'(by omega))) (by simp [show i < l1.length by omega])⟩
                  obtain ⟨x, hx⟩ := hdx
                  have hfx := hdf i
                  have hii : (i : Int) < (m : Int) := by omega
                  have hii0 : (0 : Int) ≤ (i : Int) := by omega
                  have hne := own_ne (e := 27) (e' := 9) hJ.own ho1 (by decide)
                  have hJ' : SpoInv w10 lo hi n (some ⟨g, 0, none⟩) ac qs (wi.setCell ⟨gd, i, none⟩ (S spoilt)) := by
                    refine ⟨hJ.len, ?_, fun p hp => (hJ.datas p hp).stored gd i spoilt, hJ.betw.setCell hdw hgd _⟩
                    refine ⟨hJ.own.1, ?_⟩
                    rcases hJ.own.2 with h1 | ⟨g', cap, cur, h1, hg, hh, h4⟩
                    · exact .inl h1
                    · refine .inr ⟨g', cap, cur, h1, hg, (Below.heap_setCell wi ⟨gd, i, none⟩ _ g' (fun e => ?_)).trans hh, h4⟩
                      injection h1 with h1
                      injection h1 with h1
                      injection h1 with h1 _ _
                      rcases hne with hne | hne
                      · simp [Value.ownBlock] at hne
                      · exact hne (by simp [Value.ownBlock]; exact h1.trans e)
                  clear hne hdf hdc hqk e3 ho1 hgf2 hgc2
                  go_wp2_with fail
                  go_roundw
                  case rel => exact ⟨i + 1, by omega, by go_num, hJ'⟩
                  case measure => simp [intOf]; omega
                · obtain rfl : i = m := by omega
                  have hf0 := hgf2 (q * 5)
                  have hown0 := hJ.own.stored (q * 5 + 0) (S spoilt) (by omega)
                  rw [flat_set qs q _ (⟨spoilt, pt, pc, ptl, pd⟩, .slice pA i pcc) 0 (S spoilt) Hqs.out (by omega) rfl] at hown0
                  have hown0' : Own (wi.setCell ⟨g, q * 5, none⟩ (S spoilt)) lo 27 5 (some ⟨g, 0, none⟩) n ac ((qs.set q (⟨spoilt, pt, pc, ptl, pd⟩, .slice pA i pcc)).flatMap setCells) := hown0
                  clear hgf2 hgc2 hown0
                  go_wp2_with fail
                  go_roundw
                  case rel =>
                    refine ⟨q + 1, qs.set q (⟨spoilt, pt, pc, ptl, pd⟩, .slice pA i pcc), by omega, by go_num, ⟨by simp [hJ.len], hown0', fun p hp => ?_, hJ.betw.setCell hgw hgh _⟩⟩
                    have hin : ∀ x : SetD × Value, x ∈ qs → AnyStrs (wi.setCell ⟨g, q * 5, none⟩ (S spoilt)) lo hi x.2 := fun x hx => by
                      have hne : x.2.ownBlock = none ∨ x.2.ownBlock ≠ some g := by
                        obtain ⟨l9, ho9, _⟩ := hJ.datas x hx
                        exact ostrs_ne ho9 hJ.own
                      exact AnyStrs.other (p := ⟨g, _, none⟩) (hJ.datas x hx) _ hne
                    rcases List.mem_or_eq_of_mem_set hp with h | h
                    · exact hin p h
                    · subst h
                      have h9 := hin _ hmem
                      exact h9
                  case measure => simp [intOf]; omega
            · go_wp2_with fail
              go_roundw
              case rel => exact ⟨k + 1, by omega, by go_num, hE.trans (hI.betw.ext hEo10 (by rw [Hlo.out]; exact Nat.le_refl _))⟩
              case measure => simp [intOf]; omega
        · go_wp2_with fail
          refine wp_region_noPanic ?_
          refine wp_region_seq (S := (fun V => V.cell? ⟨w.heap.size, 0, none⟩ = some (S sn) ∧ V.cell? ⟨w.heap.size, 1, none⟩ = some (.int .u16 st) ∧ V.cell? ⟨w.heap.size, 2, none⟩ = some (.int .u16 sc) ∧ V.cell? ⟨w.heap.size, 3, none⟩ = some (.int .u32 sl) ∧ V.cell? ⟨w.heap.size, 4, none⟩ = some (.slice dA sd.length dc))) [(0, true), (2, true), (1, false), (3, false), (4, false), (5, true), (6, false), (7, true), (8, true)] (by kernel_rfl) (by kernel_rfl) (fun _ _ _ _ _ h => h) (HX.out _ (hEB.drew)) ?_
          repeat ((with_reducible refine heldIs ?_); first
            | (refine heldTake (v := ?_) (by rfl) (by rfl) ?_ ?_; rotate_left; (focus (intro V hV; (try dsimp only at hV); (go_simp <;> with_reducible rfl))); (try simp only [Act.put, List.setIfInBounds_toArray, List.set_cons_zero, List.set_cons_succ]))
            | (refine heldSkip (by rfl) (by rfl) ?_; (try simp only [Act.put, List.setIfInBounds_toArray, List.set_cons_zero, List.set_cons_succ])))
          refine heldRun (by rfl) (fun K hK => ?_)
          go_simp
          refine (HR1.out _ (hEwo.drew)).mono ?_; rintro e wa ⟨va, rfl, hoa, hEa⟩; obtain ⟨aA, ac, rfl, hra⟩ := hoa
          refine hK.out _ _ ?_ ?_
          · exact HX.out _ ((hEB.drew).trans hEa)
          clear hK K
          (try simp only [Act.put, List.setIfInBounds_toArray, List.set_cons_zero, List.set_cons_succ])
          repeat ((with_reducible refine heldIs ?_); first
            | (refine heldTake (v := ?_) (by rfl) (by rfl) ?_ ?_; rotate_left; (focus (intro V hV; (try dsimp only at hV); (go_simp <;> with_reducible rfl))); (try simp only [Act.put, List.setIfInBounds_toArray, List.set_cons_zero, List.set_cons_succ]))
            | (refine heldSkip (by rfl) (by rfl) ?_; (try simp only [Act.put, List.setIfInBounds_toArray, List.set_cons_zero, List.set_cons_succ])))
          refine heldRun (by rfl) (fun K hK => ?_)
          go_simp
          refine (HR2.out _ ((hEwo.drew).trans hEa)).mono ?_; rintro e wb ⟨vb, rfl, hob, hEb⟩; obtain ⟨bA, bc, rfl, hrb⟩ := hob
          refine hK.out _ _ ?_ ?_
          · exact HX.out _ (((hEB.drew).trans hEa).trans hEb)
          clear hK K
          (try simp only [Act.put, List.setIfInBounds_toArray, List.set_cons_zero, List.set_cons_succ])
          repeat ((with_reducible refine heldIs ?_); first
            | (refine heldTake (v := ?_) (by rfl) (by rfl) ?_ ?_; rotate_left; (focus (intro V hV; (try dsimp only at hV); (go_simp <;> with_reducible rfl))); (try simp only [Act.put, List.setIfInBounds_toArray, List.set_cons_zero, List.set_cons_succ]))
            | (refine heldSkip (by rfl) (by rfl) ?_; (try simp only [Act.put, List.setIfInBounds_toArray, List.set_cons_zero, List.set_cons_succ])))
          refine heldRun (by rfl) (fun K hK => ?_)
          go_simp
          refine (ref_sameRecords _ _ _ _ _ _ _ ((ORecs.recs ⟨aA, ac, rfl, hra⟩).ext hEb) (ORecs.recs ⟨bA, bc, rfl, hrb⟩)).mono ?_; rintro e wc ⟨rfl, hEc⟩; rw [decide_eq_true rfl]
          refine hK.out _ _ ?_ ?_
          · exact HX.out _ ((((hEB.drew).trans hEa).trans hEb).trans hEc)
          clear hK K
          (try simp only [Act.put, List.setIfInBounds_toArray, List.set_cons_zero, List.set_cons_succ])
          repeat ((with_reducible refine heldIs ?_); first
            | (refine heldTake (v := ?_) (by rfl) (by rfl) ?_ ?_; rotate_left; (focus (intro V hV; (try dsimp only at hV); (go_simp <;> with_reducible rfl))); (try simp only [Act.put, List.setIfInBounds_toArray, List.set_cons_zero, List.set_cons_succ]))
            | (refine heldSkip (by rfl) (by rfl) ?_; (try simp only [Act.put, List.setIfInBounds_toArray, List.set_cons_zero, List.set_cons_succ])))
          refine heldRun (by rfl) (fun K hK => ?_)
          go_simp
          refine (HA.out _ ((((hEwo.drew).trans hEa).trans hEb).trans hEc)).mono ?_; rintro e wd ⟨rfl, hEd⟩
          refine hK.out _ _ ?_ ?_
          · exact HX.out _ (((((hEB.drew).trans hEa).trans hEb).trans hEc).trans hEd)
          clear hK K
          (try simp only [Act.put, List.setIfInBounds_toArray, List.set_cons_zero, List.set_cons_succ])
          repeat ((with_reducible refine heldIs ?_); first
            | (refine heldTake (v := ?_) (by rfl) (by rfl) ?_ ?_; rotate_left; (focus (intro V hV; (try dsimp only at hV); (go_simp <;> with_reducible rfl))); (try simp only [Act.put, List.setIfInBounds_toArray, List.set_cons_zero, List.set_cons_succ]))
            | (refine heldSkip (by rfl) (by rfl) ?_; (try simp only [Act.put, List.setIfInBounds_toArray, List.set_cons_zero, List.set_cons_succ])))
          refine heldDone ?_
          refine NoPanic.normal ?_
          go_wp2_with fail
          go_ret
          exact ⟨rfl, ((((hEwo.drew).trans hEa).trans hEb).trans hEc).trans hEd⟩
    · rw [hb2] at HL2
      obtain ⟨dA, dc, rfl⟩ := hdv.shape
      obtain ⟨sn, st, sc, sl, sd⟩ := s
      dsimp only at *
      clear hb hb2 hsm
      go_enter Tryz.func9, Tryz.ntmps9
      go_wp2_with fail
      refine (HL.out _ ((Ext.refl _).alloc _)).mono ?_; rintro e w1 ⟨rfl, hE1⟩
      obtain ⟨c, _, cz⟩ := ext_new hE1
      have c0 : w1.cell? ⟨w.heap.size, 0, none⟩ = some (S sn) := c 0
      have c1 : w1.cell? ⟨w.heap.size, 1, none⟩ = some (.int .u16 st) := c 1
      have c2 : w1.cell? ⟨w.heap.size, 2, none⟩ = some (.int .u16 sc) := c 2
      have c3 : w1.cell? ⟨w.heap.size, 3, none⟩ = some (.int .u32 sl) := c 3
      have c4 : w1.cell? ⟨w.heap.size, 4, none⟩ = some (.slice dA sd.length dc) := c 4
      clear c
      go_wp2_with fail
      refine (HL2.out _ _ (HLt.out _ _ rfl (((Ext.refl _).alloc _).trans hE1))).mono ?_; rintro e w2 ⟨rfl, rfl⟩
      go_wp2_with fail
      refine (HA.out _ ((((Ext.refl _).alloc _).trans hE1).alloc _)).mono ?_; rintro e w2 ⟨rfl, hE2⟩
      go_wp2_with fail
      go_ret
      exact ⟨rfl, ((((Ext.refl _).alloc _).trans hE1).alloc _).trans hE2⟩
  · rw [hb] at HL
    obtain ⟨dA, dc, rfl⟩ := hdv.shape
    clear hb
    go_enter Tryz.func9, Tryz.ntmps9
    go_wp2_with fail
    refine (HL.out _ ((Ext.refl _).alloc _)).mono ?_; rintro e w1 ⟨rfl, hE1⟩
    go_wp2_with fail
    refine (HA.out _ (((Ext.refl _).alloc _).trans hE1)).mono ?_; rintro e w2 ⟨rfl, hE2⟩
    go_wp2_with fail
    go_ret
    exact ⟨rfl, (((Ext.refl _).alloc _).trans hE1).trans hE2⟩
end Go.Proofs.YthdlgmfeicikpaaGreatDoor
namespace Go.Proofs.YthdlgmfeicikpaaGreatDoor
set_option linter.unusedSimpArgs false
set_option linter.unusedVariables false
open Go.ChangeShapes Go.WideShapes Go.ChangeAt Go.RowKit
set_option maxRecDepth 100000

theorem rrsetGroups_contract (H : Type) (enc : TypeId × Value → H) (W : World) (base : Nat) (args : Array Value) (ds gs : List (DataW H)) (before : List MemPlace)
    (hval : ∀ (j : Nat) t v, Tryz.f9.params[j]? = some t → args[j]? = some v → Value.okWide Tryz.prog W .any base t v)
    (hW : DataW.Whole enc Tryz.prog Tryz.f9.params.toList Rows.rrsetGroupsSpec.vars false W args.toList ds gs before)
    (hsz : (DataW.weightsEach Tryz.prog (Tryz.f9.params.toList ++ (OpenSpec.ofChange Rows.rrsetGroupsSpec).bare.plain.varTypes Tryz.prog) (ds ++ gs)).all (· ≤ reachBytes) = true)
    (hL : laidMetH Tryz.prog laidL W) :
    Calls Tryz.prog 9 args W fun e W' => ∃ v, e = .returned v ∧ Rows.rrsetGroupsSpec.post enc Tryz.prog Tryz.f9 false true false false W args v W' := by
  have hW' := hW
  have hp : ∀ t ∈ Tryz.f9.params.toList, Tryz.prog.readableRec t = true ∧ t < Tryz.prog.types.size := by
    have h : (Tryz.f9.params.toList.all fun t => Tryz.prog.readableRec t && decide (t < Tryz.prog.types.size)) = true := by kernel_rfl
    simpa only [List.all_eq_true, Bool.and_eq_true, decide_eq_true_eq] using h
  have hg := laid_of hL
  obtain ⟨p, q, hA0, hV, rfl, _, _⟩ := hW
  have hA : DataW.TrodAll enc Tryz.prog W 0 (fun _ => true) true Tryz.f9.params.toList args.toList ds p := hA0
  clear hA0
  rw [Tryz.params9] at hA hval hsz
  obtain ⟨rfl, rfl⟩ := trodVars_none hV
  obtain ⟨v0, v1, d0, d1, p0, p1, rfl, rfl, rfl, h0, h1⟩ := trodAll_two hA
  obtain ⟨l, hr, hlo⟩ := open_recsW (hval 0 _ _ rfl rfl) h0
  obtain ⟨sa, da, rfl, hda, _, na, xa⟩ := open_set (hval 1 _ _ rfl rfl) h1
  refine (law_rrsetGroups v0 l sa da W hg hr (fun r hr => ⟨reach_of hsz (j := 0) rfl rfl (hlo r hr).2.1, reach_of hsz (j := 0) rfl rfl (hlo r hr).2.2⟩) (fun r hr => (hlo r hr).1) hda ⟨reach_of hsz (j := 1) rfl rfl na, fun x hx => reach_of hsz (j := 1) rfl rfl (xa x hx)⟩).mono ?_
  rintro e W' ⟨rfl, hE⟩
  exact ⟨_, rfl, post_true laid_out rfl (by kernel_rfl) Tryz.underlying4 hp hW' rfl hE⟩

theorem rrsetGroups_reads (os : Os) {H : Type} (enc : TypeId × Value → H) : ∃ places, DataW.whole enc Tryz.prog ((laidWorld os).forCall (fun _ _ => 0) ⟨#[], #[.slice none 0 0, .agg #[.string ⟨#[]⟩, .int .u16 0, .int .u16 0, .int .u32 0, .slice none 0 0]], []⟩).memory Tryz.f9.params.toList Rows.rrsetGroupsSpec.vars false (#[.slice none 0 0, .agg #[.string ⟨#[]⟩, .int .u16 0, .int .u16 0, .int .u32 0, .slice none 0 0]] : Array Value).toList 8 = some ([.nil, .agg [.lit (.string []), .lit (.int .u16 0), .lit (.int .u16 0), .lit (.int .u32 0), .nil]], [], places) :=
  ⟨[], by kernel_rfl⟩
theorem rrsetGroups_lifted (os : Os) (started : os.Started) (H : Type) (enc : TypeId × Value → H) (F : Stop.Interp) :
    ReturnsInHanded {} Tryz.checked os 9 .any ((OpenSpec.ofChange Rows.rrsetGroupsSpec).preRow enc Tryz.prog Tryz.f9 Rows.rrsetGroupsRow.domain false Rows.rrsetGroupsRow.laid) (((OpenSpec.ofChange Rows.rrsetGroupsSpec).at F).post enc Tryz.prog Tryz.f9 false true false false) := by
  obtain ⟨places, hx⟩ := rrsetGroups_reads os enc
  refine returnsInHanded_of_row (C := Tryz.checked) (s := OpenSpec.ofChange Rows.rrsetGroupsSpec) own_knob started (by kernel_rfl) Tryz.func9
    (witness_row_at (enc := enc) (C := Tryz.checked) false (laidWorld os) #[.slice none 0 0, .agg #[.string ⟨#[]⟩, .int .u16 0, .int .u16 0, .int .u32 0, .slice none 0 0]] rfl (by kernel_rfl) (by kernel_rfl) (by kernel_rfl)
      (OpenSpec.preRow_of_cond 8 hx (by kernel_rfl) (fun k hk => by cases hk) (by kernel_rfl) (laid_met os _))) ?_
  intro W base args ds gs before hval hW _ _ hsz hL _ _
  exact rrsetGroups_contract H enc W base args ds gs before hval hW hsz hL
theorem rrsetGroups_said : Rows.RrsetGroupsSaid :=
  OpenClaim.holds_of_cond 9 Tryz.f9 rfl rfl rfl rfl rfl rfl rfl ⟨rfl, rfl, rfl, rfl, rfl⟩ rfl rfl rfl rfl rfl (by kernel_rfl) Tryz.func9 (by kernel_rfl)
    (of_decide_eq_true (by kernel_rfl)) (by unfold Func.isWrapper; first | (rw [if_pos (by decide +kernel)]; kernel_rfl) | (rw [if_neg (by decide +kernel)]; exact ⟨rfl, rfl⟩))
    (fun os started H enc _ F => by rw [OpenClaim.pre_eq_preRow]; exact rrsetGroups_lifted os started H enc F)
/-- THE CARD. -/
theorem rrsetGroups_card : Rows.RrsetGroupsCardSaid :=
  Claim7.holds_tied_plain_at .later [] _ _ _ _ rrsetGroups_said (fun _ h => by cases h) (by kernel_rfl) (fun _ h => by cases h) rrsetGroups_row_tie rfl ⟨rfl, rfl⟩ (by kernel_rfl) rfl
    (fun f fn hf hfn => by
      obtain rfl : f = 9 := Option.some.inj ((show Tryz.prog.funcNamed Rows.rrsetGroupsRow.func = some 9 by kernel_rfl).symm.trans hf) |>.symm
      obtain rfl : fn = Tryz.f9 := (Option.some.inj (Tryz.func9.symm.trans hfn)).symm
      refine ⟨by kernel_rfl, fun j t ht => ?_⟩
      have h : (Tryz.f9.params.toList.all fun t => !Tryz.prog.wantsStandIn t) = true := by kernel_rfl
      have h2 := List.all_eq_true.1 h t (by simpa using Array.mem_of_getElem? ht)
      exact (by simpa using h2 : Tryz.prog.wantsStandIn t = false))
    (by kernel_rfl)
#print axioms rrsetGroups_card
end Go.Proofs.YthdlgmfeicikpaaGreatDoor
