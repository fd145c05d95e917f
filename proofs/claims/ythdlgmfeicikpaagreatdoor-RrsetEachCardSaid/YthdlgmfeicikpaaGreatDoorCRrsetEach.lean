/- hustingslaw08.RrsetEach returns true for every input, and every argument reads behind the call as it read before; the listed variable (errors.errorType) is tied to the program's text. No condition of ours. -/
import Derived.Test.YthdlgmfeicikpaaGreatDoorBm
import Derived.Test.YthdlgmfeicikpaaGreatDoorBo
import Derived.Test.YthdlgmfeicikpaaGreatDoorBq
import Derived.Test.YthdlgmfeicikpaaGreatDoorBn
import Derived.Test.YthdlgmfeicikpaaGreatDoorBg
namespace Go.Proofs.YthdlgmfeicikpaaGreatDoor
set_option linter.unusedSimpArgs false
set_option linter.unusedVariables false
open Go.RowKit
set_option maxRecDepth 100000

theorem ostrs_set {w : World} {lo : Nat} {v : Value} {l : List (List UInt8)} {p : Addr} (h : OStrs w lo v l) (hp : p.block < lo) (u : Value) : OStrs (w.setCell p u) lo v l := by
  obtain ⟨A, c, e, ho⟩ := h
  exact ⟨A, c, e, ho.set_other hp u⟩
theorem recsOk8d {l : List RecD} (h : ∀ r ∈ l, RecOk r) : RecsOk l := fun r hr => ⟨(h r hr).2.2.1, (h r hr).2.2.2.1⟩

set_option maxHeartbeats 16000000 in
theorem law_rrsetEach (v : Value) (l : List RecD) (w : World) (hg : Laid w) (h : Recs w 0 v l) (hre : ∀ r ∈ l, RecRe r) (hok : ∀ r ∈ l, RecOk r) :
    Calls Tryz.prog 8 #[v] w fun e w' => e = .returned (.bool true) ∧ Ext w w' := by
  have HL := Lib.hid (fun W (hW : Ext w W) => law_long 0 v l W (h.ext hW) hre)
  have HA := Lib.hid (fun W (hW : Ext w W) => law8_awake W (hg.ext hW))
  obtain ⟨A, c, rfl, h1, h2, hrd⟩ := h
  have h : Recs w 0 (.slice A l.length c) l := ⟨A, c, rfl, h1, h2, hrd⟩
  have Hh := Lib.hid h
  clear h
  unfold maxLen at h2
  rcases hb : longB l with _ | _
  · have hsm := recs8 hb
    rw [hb] at HL
    have HG := Lib.hid (fun W (hW : Ext w W) => rrset_groupR 0 _ l W (hg.ext hW) (Hh.out.ext hW) (recsBd8 hb) (recsOk8d hok))
    have HP := Lib.hid (fun s (hs : s ∈ groupR l) => group_small hsm hs)
    have HEa := Lib.hid (fun r (hr : r ∈ l) (ho : okRec r = true) => each_find hr ho)
    have HHe := Lib.hid (fun s (hs : s ∈ groupR l) d (hd : d ∈ s.data) => each_here hs hd)
    have hsb := groupR_bd (recsBd8 hb)
    generalize groupR l = sets at *
    have HFi := Lib.hid (fun n k cc (hn : n.length ≤ 1048576) W x g (hS : Sets W x g sets) => rrset_find x g sets n k cc W hS hsb hn)
    have Hsm := Lib.hid hsm.2
    have Hrd := Lib.hid hrd
    have hl200 : l.length < 200 := hsm.1
    clear hb hsm hrd hsb
    go_enter Tryz.func8, Tryz.ntmps8
    go_wp2_with fail
    refine (HL.out _ (Ext.refl _)).mono ?_; rintro e w1 ⟨rfl, hE1⟩
    go_wp2_with fail
    refine (HA.out _ hE1).mono ?_; rintro e w2 ⟨rfl, hx2⟩
    have hE2 : Ext w w2 := hE1.trans hx2
    clear hx2 hE1
    go_wp2_with fail
    refine (HG.out _ hE2).mono ?_; rintro e w3 ⟨g3, rfl, ho3, hE3⟩
    have hEw3 := hE2.trans hE3
    have Ho3 := Lib.hid ho3
    obtain ⟨ps, gA, gc, hps, rfl, hgo, hgd⟩ := ho3
    have ho3 := Ho3.out
    have hpl : ps.length = sets.length := by rw [← hps]; simp
    have hgcap := hgo.cap
    unfold maxLen at hgcap
    have Hps := Lib.hid hps
    have Hpl := Lib.hid hpl
    have Hgo := Lib.hid hgo
    have Hgd := Lib.hid hgd
    clear hps hpl hgo hgd
    go_wp2_with fail
    go_loopw [4] (fun i wr => ∃ k : Nat, k ≤ l.length ∧ i = .int .i64 k ∧ Ext w3 wr) (fun i _ => l.length - (intOf i).toNat)
    case atStart => exact ⟨0, by omega, rfl, Ext.refl _⟩
    case round =>
      obtain ⟨i, hk, rfl, hE⟩ := hrel
      obtain ⟨wo, rfl⟩ : ∃ wo : World, wo = wr := ⟨_, rfl⟩
      by_cases hlt : i < l.length
      · obtain ⟨b, bo, rfl, _, hbz, hc⟩ := Hrd.out.2 (by omega)
        have hcs := recs_cells hc i l[i] (List.getElem?_eq_getElem hlt)
        have hxs := Hsm.out l[i] (List.getElem_mem hlt)
        have hef := HEa.out l[i] (List.getElem_mem hlt)
        generalize l[i] = x at *
        obtain ⟨xn, xt, xc, xl, xd⟩ := x
        dsimp only at *
        obtain ⟨x0, x1, x2, x3, x4⟩ := hcs
        have hEwo : Ext w wo := hEw3.trans hE
        have y0 := (hEwo.cell (p := ⟨b, bo + i * 5, none⟩) hbz).trans x0
        have y1 := (hEwo.cell (p := ⟨b, bo + i * 5 + 1, none⟩) hbz).trans x1
        have y2 := (hEwo.cell (p := ⟨b, bo + i * 5 + 2, none⟩) hbz).trans x2
        have y3 := (hEwo.cell (p := ⟨b, bo + i * 5 + 3, none⟩) hbz).trans x3
        have y4 := (hEwo.cell (p := ⟨b, bo + i * 5 + 4, none⟩) hbz).trans x4
        have HR := Lib.hid (show ∀ V, Ext wo V → V.cell? ⟨b, bo + i * 5, none⟩ = some (S xn) ∧ V.cell? ⟨b, bo + i * 5 + 1, none⟩ = some (.int .u16 xt) ∧ V.cell? ⟨b, bo + i * 5 + 2, none⟩ = some (.int .u16 xc) ∧ V.cell? ⟨b, bo + i * 5 + 4, none⟩ = some (S xd) from fun V hV => ⟨((hEwo.trans hV).cell (p := ⟨b, bo + i * 5, none⟩) hbz).trans x0, ((hEwo.trans hV).cell (p := ⟨b, bo + i * 5 + 1, none⟩) hbz).trans x1, ((hEwo.trans hV).cell (p := ⟨b, bo + i * 5 + 2, none⟩) hbz).trans x2, ((hEwo.trans hV).cell (p := ⟨b, bo + i * 5 + 4, none⟩) hbz).trans x4⟩)
        have HR3 := Lib.hid (show ∀ V, Ext wo V → V.cell? ⟨b, bo + i * 5, none⟩ = some (S xn) ∧ V.cell? ⟨b, bo + i * 5 + 1, none⟩ = some (.int .u16 xt) ∧ V.cell? ⟨b, bo + i * 5 + 2, none⟩ = some (.int .u16 xc) from fun V hV => ⟨(HR.out V hV).1, (HR.out V hV).2.1, (HR.out V hV).2.2.1⟩)
        have hki : (i : Int) < (l.length : Int) := by omega
        have hk0 : (0 : Int) ≤ (i : Int) := by omega
        have HM := Lib.hid (law8_may ⟨xn, xt, xc, xl, xd⟩ wo (hg.ext hEwo) (by dsimp only; omega) (by dsimp only; omega))
        clear hc x0 x1 x2 x3 x4
        rcases hor : okRec ⟨xn, xt, xc, xl, xd⟩ with _ | _
        · rw [hor] at HM
          clear hor hef
          go_wp2_with fail
          refine HM.out.mono ?_; rintro e w5 ⟨rfl, hE5⟩
          go_wp2_with fail
          go_roundw
          case rel => exact ⟨i + 1, by omega, by go_num, hE.trans hE5⟩
          case measure => simp [intOf]; omega
        · rw [hor] at HM
          obtain ⟨sf, hfs, hsf, hct⟩ := hef hor
          clear hor hef
          have Hfs := Lib.hid hfs
          clear hfs
          go_wp2_with fail
          refine HM.out.mono ?_; rintro e w5 ⟨rfl, hE5⟩
          clear y0 y1 y2 y3 y4
          go_wp2_with fail
          go_upto_region 8 with fail
          obtain ⟨wa, hwa⟩ : ∃ wa : World, wa = w5 := ⟨_, rfl⟩
          subst hwa
          have hza : wo.heap.size ≤ wa.heap.size := hE5.size
          go_cut [5, 6] (fun s5 s6 wx => ∃ (g fc : Nat) (fA : Option Addr), s5 = .pointer (some ⟨g, 0, none⟩) ∧ s6 = .bool true ∧ wx.cell? ⟨g, 4, none⟩ = some (.slice fA sf.data.length fc) ∧ wo.heap.size ≤ g ∧ g < wx.heap.size ∧ Strs wx 0 (.slice fA sf.data.length fc) sf.data ∧ Ext wo wx)
          case first =>
            go_region_held3 (fun V => V.cell? ⟨b, bo + i * 5, none⟩ = some (S xn) ∧ V.cell? ⟨b, bo + i * 5 + 1, none⟩ = some (.int .u16 xt) ∧ V.cell? ⟨b, bo + i * 5 + 2, none⟩ = some (.int .u16 xc)) (exact HR3.out _ (by (repeat (first | with_reducible exact Ext.refl _ | with_reducible assumption | with_reducible refine Ext.alloc ?_ _ | with_reducible refine Ext.drewN ?_ _ | with_reducible refine Ext.drew ?_ | (with_reducible refine Ext.setCell ?_ ?hp _; case hp => (simp <;> omega))))))
              (first | (go_at_call 17; (with_reducible refine (HFi.out xn xt xc (by omega) wa.drew _ _ (ho3.sets.ext (by have := hE.trans hE5; (repeat (first | with_reducible exact Ext.refl _ | with_reducible assumption | with_reducible refine Ext.alloc ?_ _ | with_reducible refine Ext.drewN ?_ _ | with_reducible refine Ext.drew ?_ | (with_reducible refine Ext.setCell ?_ ?hp _; case hp => (simp <;> omega))))))).mono ?_); rintro e w6 ⟨d6, rfl, ho6, hE6⟩; rw [Hfs.out] at ho6 ⊢; dsimp only [Option.getD, Option.isSome] at ho6 ⊢; obtain ⟨fA, fc, rfl⟩ := ho6.strs.shape; have hEo6 : Ext wo w6 := Ext.trans (by (repeat (first | with_reducible exact Ext.refl _ | with_reducible assumption | with_reducible refine Ext.alloc ?_ _ | with_reducible refine Ext.drewN ?_ _ | with_reducible refine Ext.drew ?_ | (with_reducible refine Ext.setCell ?_ ?hp _; case hp => (simp <;> omega))))) hE6) | (go_at_call 17; (with_reducible refine (HFi.out xn xt xc (by omega) _ _ _ (ho3.sets.ext (by have := hE.trans hE5; (repeat (first | with_reducible exact Ext.refl _ | with_reducible assumption | with_reducible refine Ext.alloc ?_ _ | with_reducible refine Ext.drewN ?_ _ | with_reducible refine Ext.drew ?_ | (with_reducible refine Ext.setCell ?_ ?hp _; case hp => (simp <;> omega))))))).mono ?_); rintro e w6 ⟨d6, rfl, ho6, hE6⟩; rw [Hfs.out] at ho6 ⊢; dsimp only [Option.getD, Option.isSome] at ho6 ⊢; obtain ⟨fA, fc, rfl⟩ := ho6.strs.shape; have hEo6 : Ext wo w6 := Ext.trans (by (repeat (first | with_reducible exact Ext.refl _ | with_reducible assumption | with_reducible refine Ext.alloc ?_ _ | with_reducible refine Ext.drewN ?_ _ | with_reducible refine Ext.drew ?_ | (with_reducible refine Ext.setCell ?_ ?hp _; case hp => (simp <;> omega))))) hE6; obtain ⟨hbc, hbf, hbz2⟩ := ext_new (Ext.of_drewN 1 hE6)))
            all_goals
              go_wp2_with fail
              go_meet
            · exact ⟨w6.heap.size, fc, fA, rfl, rfl, (by rw [World.cell?_alloc_mark]; rfl), hEo6.size, by simp, (ho6.strs.lower (Nat.zero_le _)).ext ((Ext.refl _).alloc _), hEo6.alloc _⟩
            · have hb5 := box5 hbc (S sf.name) (.int .u16 sf.typ) (.int .u16 sf.cls) (.int .u32 sf.ttl) (.slice fA sf.data.length fc)
              have hs5 := (ostrs_set (ostrs_set (ostrs_set (ostrs_set (ostrs_set ho6 (p := ⟨wa.heap.size, 0, none⟩) (by simp) (S sf.name)) (p := ⟨wa.heap.size, 1, none⟩) (by simp) (.int .u16 sf.typ)) (p := ⟨wa.heap.size, 2, none⟩) (by simp) (.int .u16 sf.cls)) (p := ⟨wa.heap.size, 3, none⟩) (by simp) (.int .u32 sf.ttl)) (p := ⟨wa.heap.size, 4, none⟩) (by simp) (.slice fA sf.data.length fc)).strs.lower (Nat.zero_le _)
              exact ⟨wa.heap.size, fc, fA, rfl, rfl, hb5 4, hza, by simp; omega, hs5, by (repeat (first | with_reducible exact Ext.refl _ | with_reducible assumption | with_reducible refine Ext.alloc ?_ _ | with_reducible refine Ext.drewN ?_ _ | with_reducible refine Ext.drew ?_ | (with_reducible refine Ext.setCell ?_ ?hp _; case hp => (simp <;> omega))))⟩
          case rest =>
            obtain ⟨g, fc, fA, rfl, rfl, hgc, hgl, hgz, hst, hEoX⟩ := hcut
            obtain ⟨X, rfl⟩ : ∃ X : World, X = wc := ⟨_, rfl⟩
            have HX9 := Lib.hid (show ∀ V, Ext X V → V.cell? ⟨b, bo + i * 5 + 1, none⟩ = some (.int .u16 xt) ∧ V.cell? ⟨b, bo + i * 5 + 4, none⟩ = some (S xd) ∧ V.cell? ⟨g, 4, none⟩ = some (.slice fA sf.data.length fc) from fun V hV => ⟨(HR.out V (hEoX.trans hV)).2.1, (HR.out V (hEoX.trans hV)).2.2.2, (hV.cell (p := ⟨g, 4, none⟩) hgz).trans hgc⟩)
            have Hst := Lib.hid hst
            have HFo := Lib.hid (rdata_fold xt xd X.drew (hg.ext ((hEwo.trans hEoX).drew)) (by omega))
            generalize rfold xt xd = rf at *
            clear hst hgc
            go_wp2_with fail
            refine wp_region_noPanic ?_
            refine wp_region_seq (S := (fun V => V.cell? ⟨b, bo + i * 5 + 1, none⟩ = some (.int .u16 xt) ∧ V.cell? ⟨b, bo + i * 5 + 4, none⟩ = some (S xd) ∧ V.cell? ⟨g, 4, none⟩ = some (.slice fA sf.data.length fc))) [(0, true), (1, true), (2, true), (3, true), (4, true), (5, true), (6, true), (7, true), (8, true), (9, true), (10, true), (11, true), (12, true), (13, true), (14, true), (15, false), (16, false), (17, true), (18, true)] (by kernel_rfl) (by kernel_rfl) (fun _ _ _ _ _ h => h) (HX9.out _ ((Ext.refl X).drew)) ?_
            repeat ((with_reducible refine heldIs ?_); first
              | (refine heldTake (v := ?_) (by rfl) (by rfl) ?_ ?_; rotate_left; (focus (intro V hV; (try dsimp only at hV); (go_simp <;> with_reducible rfl))); (try simp only [Act.put, List.setIfInBounds_toArray, List.set_cons_zero, List.set_cons_succ]))
              | (refine heldSkip (by rfl) (by rfl) ?_; (try simp only [Act.put, List.setIfInBounds_toArray, List.set_cons_zero, List.set_cons_succ])))
            refine heldRun (by rfl) (fun K hK => ?_)
            go_simp
            refine HFo.out.mono ?_; rintro e w8 ⟨rfl, hE8⟩
            refine hK.out _ _ ?_ ?_
            · exact HX9.out _ (Ext.trans ((Ext.refl X).drew) hE8)
            clear hK K
            (try simp only [Act.put, List.setIfInBounds_toArray, List.set_cons_zero, List.set_cons_succ])
            repeat ((with_reducible refine heldIs ?_); first
              | (refine heldTake (v := ?_) (by rfl) (by rfl) ?_ ?_; rotate_left; (focus (intro V hV; (try dsimp only at hV); (go_simp <;> with_reducible rfl))); (try simp only [Act.put, List.setIfInBounds_toArray, List.set_cons_zero, List.set_cons_succ]))
              | (refine heldSkip (by rfl) (by rfl) ?_; (try simp only [Act.put, List.setIfInBounds_toArray, List.set_cons_zero, List.set_cons_succ])))
            refine heldRun (by rfl) (fun K hK => ?_)
            go_simp
            refine (law8_in _ _ _ _ _ (Hst.out.ext (Ext.trans ((Ext.refl X).drew) hE8))).mono ?_; rintro e w9 ⟨rfl, rfl⟩; rw [hct]
            refine hK.out _ _ ?_ ?_
            · exact HX9.out _ (Ext.trans ((Ext.refl X).drew) hE8)
            clear hK K
            (try simp only [Act.put, List.setIfInBounds_toArray, List.set_cons_zero, List.set_cons_succ])
            repeat ((with_reducible refine heldIs ?_); first
              | (refine heldTake (v := ?_) (by rfl) (by rfl) ?_ ?_; rotate_left; (focus (intro V hV; (try dsimp only at hV); (go_simp <;> with_reducible rfl))); (try simp only [Act.put, List.setIfInBounds_toArray, List.set_cons_zero, List.set_cons_succ]))
              | (refine heldSkip (by rfl) (by rfl) ?_; (try simp only [Act.put, List.setIfInBounds_toArray, List.set_cons_zero, List.set_cons_succ])))
            refine heldDone ?_
            refine NoPanic.normal ?_
            go_wp2_with fail
            go_roundw
            case rel => exact ⟨i + 1, by omega, by go_num, (hE.trans hEoX).trans (Ext.trans ((Ext.refl X).drew) hE8)⟩
            case measure => simp [intOf]; omega
      · clear hk
        go_wp2_with fail
        go_loopw [7] (fun i wr => ∃ k : Nat, k ≤ ps.length ∧ i = .int .i64 k ∧ Ext w3 wr) (fun i _ => ps.length - (intOf i).toNat)
        case atStart => exact ⟨0, by omega, rfl, hE⟩
        case round =>
          obtain ⟨k, hk, rfl, hE4⟩ := hrel
          obtain ⟨wk, rfl⟩ : ∃ wk : World, wk = wr := ⟨_, rfl⟩
          by_cases hkl : k < ps.length
          · have hpk : ps[k]? = some ps[k] := List.getElem?_eq_getElem hkl
            have hpe : sets[k]? = some ps[k].1 := by rw [← Hps.out, List.getElem?_map, hpk]; rfl
            have hP := HP.out ps[k].1 (List.mem_of_getElem? hpe)
            have hdk := (Hgd.out ps[k] (List.getElem_mem hkl)).strs
            have HHs := Lib.hid (HHe.out ps[k].1 (List.mem_of_getElem? hpe))
            generalize ps[k] = p at *
            obtain ⟨⟨nm, ty, cl, tt, da⟩, pv⟩ := p
            dsimp only at *
            obtain ⟨pA, pc, rfl, hd1, hd2, hdr⟩ := hdk
            unfold maxLen at hd2
            obtain ⟨gq, rfl, _, hqz, _, hqc⟩ := Hgo.out.addr (by omega)
            have hcs := sets_cells (off := 0) (fun j u hu => by rw [Nat.zero_add]; exact hqc j u hu) k _ hpk
            simp only [Nat.zero_add] at hcs
            obtain ⟨z0, z1, z2, z3, z4⟩ := hcs
            have hki : (k : Int) < (ps.length : Int) := by omega
            have hk0 : (0 : Int) ≤ (k : Int) := by omega
            have Hdr := Lib.hid hdr
            have hnm := hP.1
            clear hdr hqc hpk hpe hP
            go_wp2_with fail
            go_loopw [8] (fun i wr => ∃ j : Nat, j ≤ da.length ∧ i = .int .i64 j ∧ Ext w3 wr) (fun i _ => da.length - (intOf i).toNat)
            case atStart => exact ⟨0, by omega, rfl, hE4⟩
            case round =>
              obtain ⟨j, hj, rfl, hE5⟩ := hrel
              obtain ⟨wj, rfl⟩ : ∃ wj : World, wj = wr := ⟨_, rfl⟩
              have y4 := (hE5.cell (p := ⟨gq, k * 5 + 4, none⟩) hqz).trans z4
              have hj0 : (0 : Int) ≤ (j : Int) := by omega
              by_cases hjl : j < da.length
              · have hji : (j : Int) < (da.length : Int) := by omega
                obtain ⟨db, do_, rfl, _, hdz, hdc⟩ := Hdr.out.2 (by omega)
                have hcd := hdc j (S da[j]) (by simp [hjl])
                have Hany := Lib.hid (HHs.out da[j] (List.getElem_mem hjl))
                generalize da[j] = d at *
                clear hdc
                go_wp2_with fail
                go_loopw [9, 10] (fun h i wr => ∃ m : Nat, m ≤ l.length ∧ i = .int .i64 m ∧ h = .bool ((l.take m).any (hereB ⟨nm, ty, cl, tt, da⟩ d)) ∧ Ext wj wr) (fun _ i _ => l.length - (intOf i).toNat)
                case atStart => exact ⟨0, by omega, rfl, rfl, Ext.refl _⟩
                case round =>
                  obtain ⟨m, hm, rfl, rfl, hEr⟩ := hrel
                  obtain ⟨wm, rfl⟩ : ∃ wm : World, wm = wr := ⟨_, rfl⟩
                  by_cases hml : m < l.length
                  · have HT := Lib.hid (any_snoc (hereB ⟨nm, ty, cl, tt, da⟩ d) l m hml)
                    obtain ⟨b, bo, rfl, _, hbz, hc⟩ := Hrd.out.2 (by omega)
                    have hcs := recs_cells hc m l[m] (List.getElem?_eq_getElem hml)
                    have hxs := Hsm.out l[m] (List.getElem_mem hml)
                    generalize l[m] = x at *
                    obtain ⟨xn, xt, xc, xl, xd⟩ := x
                    dsimp only at *
                    obtain ⟨x0, x1, x2, x3, x4⟩ := hcs
                    have hE3m : Ext w3 wm := hE5.trans hEr
                    have hEwm : Ext w wm := hEw3.trans hE3m
                    have HS := Lib.hid (show ∀ V, Ext wm V → V.cell? ⟨b, bo + m * 5, none⟩ = some (S xn) ∧ V.cell? ⟨b, bo + m * 5 + 1, none⟩ = some (.int .u16 xt) ∧ V.cell? ⟨b, bo + m * 5 + 2, none⟩ = some (.int .u16 xc) ∧ V.cell? ⟨b, bo + m * 5 + 3, none⟩ = some (.int .u32 xl) ∧ V.cell? ⟨b, bo + m * 5 + 4, none⟩ = some (S xd) ∧ V.cell? ⟨gq, k * 5, none⟩ = some (S nm) ∧ V.cell? ⟨gq, k * 5 + 1, none⟩ = some (.int .u16 ty) ∧ V.cell? ⟨gq, k * 5 + 2, none⟩ = some (.int .u16 cl) ∧ V.cell? ⟨gq, k * 5 + 4, none⟩ = some (.slice (some ⟨db, do_, none⟩) da.length pc) ∧ V.cell? ⟨db, do_ + j, none⟩ = some (S d) from fun V hV => ⟨((hEwm.trans hV).cell (p := ⟨b, bo + m * 5, none⟩) hbz).trans x0, ((hEwm.trans hV).cell (p := ⟨b, bo + m * 5 + 1, none⟩) hbz).trans x1, ((hEwm.trans hV).cell (p := ⟨b, bo + m * 5 + 2, none⟩) hbz).trans x2, ((hEwm.trans hV).cell (p := ⟨b, bo + m * 5 + 3, none⟩) hbz).trans x3, ((hEwm.trans hV).cell (p := ⟨b, bo + m * 5 + 4, none⟩) hbz).trans x4, ((hE3m.trans hV).cell (p := ⟨gq, k * 5, none⟩) hqz).trans z0, ((hE3m.trans hV).cell (p := ⟨gq, k * 5 + 1, none⟩) hqz).trans z1, ((hE3m.trans hV).cell (p := ⟨gq, k * 5 + 2, none⟩) hqz).trans z2, ((hE3m.trans hV).cell (p := ⟨gq, k * 5 + 4, none⟩) hqz).trans z4, ((hE3m.trans hV).cell (p := ⟨db, do_ + j, none⟩) hdz).trans hcd⟩)
                    have hmi : (m : Int) < (l.length : Int) := by omega
                    have hm0 : (0 : Int) ≤ (m : Int) := by omega
                    clear hc x0 x1 x2 x3 x4
                    rcases hh0 : (l.take m).any (hereB ⟨nm, ty, cl, tt, da⟩ d) with _ | _
                    · have Hh0 := Lib.hid hh0
                      clear hh0
                      rcases hox : okRec ⟨xn, xt, xc, xl, xd⟩ with _ | _
                      · have Hf := Lib.hid (show hereB ⟨nm, ty, cl, tt, da⟩ d ⟨xn, xt, xc, xl, xd⟩ = false by unfold hereB; rw [hox]; rfl)
                        go_wp2_with fail
                        as_aux_lemma =>
                          refine wp_region_noPanic ?_
                          refine wp_region_seq (S := (fun V => V.cell? ⟨b, bo + m * 5, none⟩ = some (S xn) ∧ V.cell? ⟨b, bo + m * 5 + 1, none⟩ = some (.int .u16 xt) ∧ V.cell? ⟨b, bo + m * 5 + 2, none⟩ = some (.int .u16 xc) ∧ V.cell? ⟨b, bo + m * 5 + 3, none⟩ = some (.int .u32 xl) ∧ V.cell? ⟨b, bo + m * 5 + 4, none⟩ = some (S xd) ∧ V.cell? ⟨gq, k * 5, none⟩ = some (S nm) ∧ V.cell? ⟨gq, k * 5 + 1, none⟩ = some (.int .u16 ty) ∧ V.cell? ⟨gq, k * 5 + 2, none⟩ = some (.int .u16 cl) ∧ V.cell? ⟨gq, k * 5 + 4, none⟩ = some (.slice (some ⟨db, do_, none⟩) da.length pc) ∧ V.cell? ⟨db, do_ + j, none⟩ = some (S d))) [(0, true), (1, true), (2, true), (3, true), (4, true), (5, true), (6, false), (7, true), (8, true), (9, true), (10, true), (11, true), (12, true), (13, true), (14, true), (15, true), (16, true), (17, true), (18, true), (19, true), (20, true), (21, true), (22, true), (23, true), (24, true), (25, true), (26, true), (27, true), (28, true), (29, true), (30, true), (31, true), (32, true), (33, true), (34, true), (35, true), (36, true), (37, true), (38, true), (39, true), (40, true), (41, true), (42, true), (43, true), (44, true), (45, true), (46, true), (47, true), (48, true), (49, true), (50, true), (51, true), (52, true), (53, true), (54, true), (55, true), (56, true), (57, true), (58, true), (59, true), (60, true), (61, true), (62, true), (63, true), (64, true), (65, true), (66, true), (67, true), (68, true), (69, true)] (by kernel_rfl) (by kernel_rfl) (fun _ _ _ _ _ h => h) (HS.out _ ((Ext.refl wm).drew)) ?_
                          repeat ((with_reducible refine heldIs ?_); first
                            | (refine heldTake (v := ?_) (by rfl) (by rfl) ?_ ?_; rotate_left; (focus (intro V hV; (try dsimp only at hV); (go_simp <;> with_reducible rfl))); (try simp only [Act.put, List.setIfInBounds_toArray, List.set_cons_zero, List.set_cons_succ]))
                            | (refine heldSkip (by rfl) (by rfl) ?_; (try simp only [Act.put, List.setIfInBounds_toArray, List.set_cons_zero, List.set_cons_succ])))
                          refine heldRun (by rfl) (fun K hK => ?_)
                          go_simp
                          refine (law8_may ⟨xn, xt, xc, xl, xd⟩ _ (hg.ext (hEwm.trans ((Ext.refl wm).drew))) (by dsimp only; omega) (by dsimp only; omega)).mono ?_; rintro e w7 ⟨rfl, hE7⟩; rw [hox]
                          refine hK.out _ _ ?_ ?_
                          · exact HS.out _ (Ext.trans ((Ext.refl wm).drew) hE7)
                          clear hK K
                          (try simp only [Act.put, List.setIfInBounds_toArray, List.set_cons_zero, List.set_cons_succ])
                          repeat ((with_reducible refine heldIs ?_); first
                            | (refine heldTake (v := ?_) (by rfl) (by rfl) ?_ ?_; rotate_left; (focus (intro V hV; (try dsimp only at hV); (go_simp <;> with_reducible rfl))); (try simp only [Act.put, List.setIfInBounds_toArray, List.set_cons_zero, List.set_cons_succ]))
                            | (refine heldSkip (by rfl) (by rfl) ?_; (try simp only [Act.put, List.setIfInBounds_toArray, List.set_cons_zero, List.set_cons_succ])))
                          refine heldDone ?_
                          refine NoPanic.normal ?_
                          go_wp2_with fail
                          go_roundw
                          case rel => exact ⟨m + 1, by omega, by go_num, by rw [HT.out, Hh0.out, Hf.out]; rfl, hEr.trans (Ext.trans ((Ext.refl wm).drew) hE7)⟩
                          case measure => simp [intOf]; omega
                      · rcases hsx : sameN xn nm with _ | _
                        · have Hf := Lib.hid (show hereB ⟨nm, ty, cl, tt, da⟩ d ⟨xn, xt, xc, xl, xd⟩ = false by unfold hereB; rw [hox]; dsimp only; rw [hsx]; rfl)
                          go_wp2_with fail
                          as_aux_lemma =>
                            refine wp_region_noPanic ?_
                            refine wp_region_seq (S := (fun V => V.cell? ⟨b, bo + m * 5, none⟩ = some (S xn) ∧ V.cell? ⟨b, bo + m * 5 + 1, none⟩ = some (.int .u16 xt) ∧ V.cell? ⟨b, bo + m * 5 + 2, none⟩ = some (.int .u16 xc) ∧ V.cell? ⟨b, bo + m * 5 + 3, none⟩ = some (.int .u32 xl) ∧ V.cell? ⟨b, bo + m * 5 + 4, none⟩ = some (S xd) ∧ V.cell? ⟨gq, k * 5, none⟩ = some (S nm) ∧ V.cell? ⟨gq, k * 5 + 1, none⟩ = some (.int .u16 ty) ∧ V.cell? ⟨gq, k * 5 + 2, none⟩ = some (.int .u16 cl) ∧ V.cell? ⟨gq, k * 5 + 4, none⟩ = some (.slice (some ⟨db, do_, none⟩) da.length pc) ∧ V.cell? ⟨db, do_ + j, none⟩ = some (S d))) [(0, true), (1, true), (2, true), (3, true), (4, true), (5, true), (6, false), (7, true), (8, true), (9, true), (10, true), (11, true), (12, true), (13, true), (14, true), (15, true), (16, true), (17, true), (18, false), (19, true), (20, true), (21, true), (22, true), (23, true), (24, true), (25, true), (26, true), (27, true), (28, true), (29, true), (30, true), (31, true), (32, true), (33, true), (34, true), (35, true), (36, true), (37, true), (38, true), (39, true), (40, true), (41, true), (42, true), (43, true), (44, true), (45, true), (46, true), (47, true), (48, true), (49, true), (50, true), (51, true), (52, true), (53, true), (54, true), (55, true), (56, true), (57, true), (58, true), (59, true), (60, true), (61, true), (62, true), (63, true), (64, true), (65, true), (66, true), (67, true), (68, true), (69, true)] (by kernel_rfl) (by kernel_rfl) (fun _ _ _ _ _ h => h) (HS.out _ ((Ext.refl wm).drew)) ?_
                            repeat ((with_reducible refine heldIs ?_); first
                              | (refine heldTake (v := ?_) (by rfl) (by rfl) ?_ ?_; rotate_left; (focus (intro V hV; (try dsimp only at hV); (go_simp <;> with_reducible rfl))); (try simp only [Act.put, List.setIfInBounds_toArray, List.set_cons_zero, List.set_cons_succ]))
                              | (refine heldSkip (by rfl) (by rfl) ?_; (try simp only [Act.put, List.setIfInBounds_toArray, List.set_cons_zero, List.set_cons_succ])))
                            refine heldRun (by rfl) (fun K hK => ?_)
                            go_simp
                            refine (law8_may ⟨xn, xt, xc, xl, xd⟩ _ (hg.ext (hEwm.trans ((Ext.refl wm).drew))) (by dsimp only; omega) (by dsimp only; omega)).mono ?_; rintro e w7 ⟨rfl, hE7⟩; rw [hox]
                            refine hK.out _ _ ?_ ?_
                            · exact HS.out _ (Ext.trans ((Ext.refl wm).drew) hE7)
                            clear hK K
                            (try simp only [Act.put, List.setIfInBounds_toArray, List.set_cons_zero, List.set_cons_succ])
                            repeat ((with_reducible refine heldIs ?_); first
                              | (refine heldTake (v := ?_) (by rfl) (by rfl) ?_ ?_; rotate_left; (focus (intro V hV; (try dsimp only at hV); (go_simp <;> with_reducible rfl))); (try simp only [Act.put, List.setIfInBounds_toArray, List.set_cons_zero, List.set_cons_succ]))
                              | (refine heldSkip (by rfl) (by rfl) ?_; (try simp only [Act.put, List.setIfInBounds_toArray, List.set_cons_zero, List.set_cons_succ])))
                            refine heldRun (by rfl) (fun K hK => ?_)
                            go_simp
                            refine (name_same xn nm _ (by unfold maxLen; omega) (by unfold maxLen; omega)).mono ?_; rintro e w8 ⟨rfl, hE8⟩; rw [hsx]
                            refine hK.out _ _ ?_ ?_
                            · exact HS.out _ (Ext.trans (Ext.trans ((Ext.refl wm).drew) hE7) hE8)
                            clear hK K
                            (try simp only [Act.put, List.setIfInBounds_toArray, List.set_cons_zero, List.set_cons_succ])
                            repeat ((with_reducible refine heldIs ?_); first
                              | (refine heldTake (v := ?_) (by rfl) (by rfl) ?_ ?_; rotate_left; (focus (intro V hV; (try dsimp only at hV); (go_simp <;> with_reducible rfl))); (try simp only [Act.put, List.setIfInBounds_toArray, List.set_cons_zero, List.set_cons_succ]))
                              | (refine heldSkip (by rfl) (by rfl) ?_; (try simp only [Act.put, List.setIfInBounds_toArray, List.set_cons_zero, List.set_cons_succ])))
                            refine heldDone ?_
                            refine NoPanic.normal ?_
                            go_wp2_with fail
                            go_roundw
                            case rel => exact ⟨m + 1, by omega, by go_num, by rw [HT.out, Hh0.out, Hf.out]; rfl, hEr.trans (Ext.trans (Ext.trans ((Ext.refl wm).drew) hE7) hE8)⟩
                            case measure => simp [intOf]; omega
                        · by_cases htx : xt = ty
                          · subst htx
                            by_cases hcx : xc = cl
                            · subst hcx
                              obtain ⟨rf, hrf⟩ : ∃ rf, rfold xt xd = rf := ⟨_, rfl⟩
                              have Hf := Lib.hid (show hereB ⟨nm, xt, xc, tt, da⟩ d ⟨xn, xt, xc, xl, xd⟩ = (rf == d) by unfold hereB; rw [hox]; dsimp only; rw [hsx, hrf]; simp)
                              have t1 : (xt == xt) = true := by simp
                              have t2 : (xc == xc) = true := by simp
                              go_wp2_with fail
                              as_aux_lemma =>
                                refine wp_region_noPanic ?_
                                refine wp_region_seq (S := (fun V => V.cell? ⟨b, bo + m * 5, none⟩ = some (S xn) ∧ V.cell? ⟨b, bo + m * 5 + 1, none⟩ = some (.int .u16 xt) ∧ V.cell? ⟨b, bo + m * 5 + 2, none⟩ = some (.int .u16 xc) ∧ V.cell? ⟨b, bo + m * 5 + 3, none⟩ = some (.int .u32 xl) ∧ V.cell? ⟨b, bo + m * 5 + 4, none⟩ = some (S xd) ∧ V.cell? ⟨gq, k * 5, none⟩ = some (S nm) ∧ V.cell? ⟨gq, k * 5 + 1, none⟩ = some (.int .u16 xt) ∧ V.cell? ⟨gq, k * 5 + 2, none⟩ = some (.int .u16 xc) ∧ V.cell? ⟨gq, k * 5 + 4, none⟩ = some (.slice (some ⟨db, do_, none⟩) da.length pc) ∧ V.cell? ⟨db, do_ + j, none⟩ = some (S d))) [(0, true), (1, true), (2, true), (3, true), (4, true), (5, true), (6, false), (7, true), (8, true), (9, true), (10, true), (11, true), (12, true), (13, true), (14, true), (15, true), (16, true), (17, true), (18, false), (19, true), (20, true), (21, true), (22, true), (23, true), (24, true), (25, true), (26, true), (27, true), (28, true), (29, true), (30, true), (31, true), (32, true), (33, true), (34, true), (35, true), (36, true), (37, true), (38, true), (39, true), (40, true), (41, true), (42, true), (43, true), (44, true), (45, true), (46, true), (47, true), (48, true), (49, true), (50, true), (51, true), (52, true), (53, true), (54, true), (55, true), (56, true), (58, true), (59, true), (60, true), (61, true), (62, true), (63, true), (64, true), (65, true), (57, false), (66, true), (67, true), (68, true), (69, true)] (by kernel_rfl) (by kernel_rfl) (fun _ _ _ _ _ h => h) (HS.out _ ((Ext.refl wm).drew)) ?_
                                repeat ((with_reducible refine heldIs ?_); first
                                  | (refine heldTake (v := ?_) (by rfl) (by rfl) ?_ ?_; rotate_left; (focus (intro V hV; (try dsimp only at hV); (go_simp <;> with_reducible rfl))); (try simp only [Act.put, List.setIfInBounds_toArray, List.set_cons_zero, List.set_cons_succ]))
                                  | (refine heldSkip (by rfl) (by rfl) ?_; (try simp only [Act.put, List.setIfInBounds_toArray, List.set_cons_zero, List.set_cons_succ])))
                                refine heldRun (by rfl) (fun K hK => ?_)
                                go_simp
                                refine (law8_may ⟨xn, xt, xc, xl, xd⟩ _ (hg.ext (hEwm.trans ((Ext.refl wm).drew))) (by dsimp only; omega) (by dsimp only; omega)).mono ?_; rintro e w7 ⟨rfl, hE7⟩; rw [hox]
                                refine hK.out _ _ ?_ ?_
                                · exact HS.out _ (Ext.trans ((Ext.refl wm).drew) hE7)
                                clear hK K
                                (try simp only [Act.put, List.setIfInBounds_toArray, List.set_cons_zero, List.set_cons_succ])
                                repeat ((with_reducible refine heldIs ?_); first
                                  | (refine heldTake (v := ?_) (by rfl) (by rfl) ?_ ?_; rotate_left; (focus (intro V hV; (try dsimp only at hV); (go_simp <;> with_reducible rfl))); (try simp only [Act.put, List.setIfInBounds_toArray, List.set_cons_zero, List.set_cons_succ]))
                                  | (refine heldSkip (by rfl) (by rfl) ?_; (try simp only [Act.put, List.setIfInBounds_toArray, List.set_cons_zero, List.set_cons_succ])))
                                refine heldRun (by rfl) (fun K hK => ?_)
                                go_simp
                                refine (name_same xn nm _ (by unfold maxLen; omega) (by unfold maxLen; omega)).mono ?_; rintro e w8 ⟨rfl, hE8⟩; rw [hsx]
                                refine hK.out _ _ ?_ ?_
                                · exact HS.out _ (Ext.trans (Ext.trans ((Ext.refl wm).drew) hE7) hE8)
                                clear hK K
                                (try simp only [Act.put, List.setIfInBounds_toArray, List.set_cons_zero, List.set_cons_succ])
                                repeat ((with_reducible refine heldIs ?_); first
                                  | (refine heldTake (v := ?_) (by rfl) (by rfl) ?_ ?_; rotate_left; (focus (intro V hV; (try dsimp only at hV); (go_simp <;> with_reducible rfl))); (try simp only [Act.put, List.setIfInBounds_toArray, List.set_cons_zero, List.set_cons_succ]))
                                  | (refine heldSkip (by rfl) (by rfl) ?_; (try simp only [Act.put, List.setIfInBounds_toArray, List.set_cons_zero, List.set_cons_succ])))
                                refine heldRun (by rfl) (fun K hK => ?_)
                                go_simp
                                refine (rdata_fold xt xd _ (hg.ext (hEwm.trans (((((Ext.refl wm).drew).trans hE7)).trans hE8))) (by omega)).mono ?_; rintro e w9 ⟨rfl, hE9⟩; rw [hrf]
                                refine hK.out _ _ ?_ ?_
                                · exact HS.out _ (Ext.trans (Ext.trans (Ext.trans ((Ext.refl wm).drew) hE7) hE8) hE9)
                                clear hK K
                                (try simp only [Act.put, List.setIfInBounds_toArray, List.set_cons_zero, List.set_cons_succ])
                                repeat ((with_reducible refine heldIs ?_); first
                                  | (refine heldTake (v := ?_) (by rfl) (by rfl) ?_ ?_; rotate_left; (focus (intro V hV; (try dsimp only at hV); (go_simp <;> with_reducible rfl))); (try simp only [Act.put, List.setIfInBounds_toArray, List.set_cons_zero, List.set_cons_succ]))
                                  | (refine heldSkip (by rfl) (by rfl) ?_; (try simp only [Act.put, List.setIfInBounds_toArray, List.set_cons_zero, List.set_cons_succ])))
                                refine heldDone ?_
                                refine NoPanic.normal ?_
                                go_wp2_with fail
                                go_roundw
                                case rel => exact ⟨m + 1, by omega, by go_num, by rw [HT.out, Hh0.out, Hf.out]; rfl, hEr.trans (Ext.trans (Ext.trans (Ext.trans ((Ext.refl wm).drew) hE7) hE8) hE9)⟩
                                case measure => simp [intOf]; omega
                            · have Hf := Lib.hid (show hereB ⟨nm, xt, cl, tt, da⟩ d ⟨xn, xt, xc, xl, xd⟩ = false by unfold hereB; dsimp only; simp [hcx])
                              have t1 : (xt == xt) = true := by simp
                              have t2 : (xc == cl) = false := by rw [beq_eq_false_iff_ne]; exact hcx
                              clear hcx
                              go_wp2_with fail
                              as_aux_lemma =>
                                refine wp_region_noPanic ?_
                                refine wp_region_seq (S := (fun V => V.cell? ⟨b, bo + m * 5, none⟩ = some (S xn) ∧ V.cell? ⟨b, bo + m * 5 + 1, none⟩ = some (.int .u16 xt) ∧ V.cell? ⟨b, bo + m * 5 + 2, none⟩ = some (.int .u16 xc) ∧ V.cell? ⟨b, bo + m * 5 + 3, none⟩ = some (.int .u32 xl) ∧ V.cell? ⟨b, bo + m * 5 + 4, none⟩ = some (S xd) ∧ V.cell? ⟨gq, k * 5, none⟩ = some (S nm) ∧ V.cell? ⟨gq, k * 5 + 1, none⟩ = some (.int .u16 xt) ∧ V.cell? ⟨gq, k * 5 + 2, none⟩ = some (.int .u16 cl) ∧ V.cell? ⟨gq, k * 5 + 4, none⟩ = some (.slice (some ⟨db, do_, none⟩) da.length pc) ∧ V.cell? ⟨db, do_ + j, none⟩ = some (S d))) [(0, true), (1, true), (2, true), (3, true), (4, true), (5, true), (6, false), (7, true), (8, true), (9, true), (10, true), (11, true), (12, true), (13, true), (14, true), (15, true), (16, true), (17, true), (18, false), (19, true), (20, true), (21, true), (22, true), (23, true), (24, true), (25, true), (26, true), (27, true), (28, true), (29, true), (30, true), (31, true), (32, true), (33, true), (34, true), (35, true), (36, true), (37, true), (38, true), (39, true), (40, true), (41, true), (42, true), (43, true), (44, true), (45, true), (46, true), (47, true), (48, true), (49, true), (50, true), (51, true), (52, true), (53, true), (54, true), (55, true), (56, true), (57, true), (58, true), (59, true), (60, true), (61, true), (62, true), (63, true), (64, true), (65, true), (66, true), (67, true), (68, true), (69, true)] (by kernel_rfl) (by kernel_rfl) (fun _ _ _ _ _ h => h) (HS.out _ ((Ext.refl wm).drew)) ?_
                                repeat ((with_reducible refine heldIs ?_); first
                                  | (refine heldTake (v := ?_) (by rfl) (by rfl) ?_ ?_; rotate_left; (focus (intro V hV; (try dsimp only at hV); (go_simp <;> with_reducible rfl))); (try simp only [Act.put, List.setIfInBounds_toArray, List.set_cons_zero, List.set_cons_succ]))
                                  | (refine heldSkip (by rfl) (by rfl) ?_; (try simp only [Act.put, List.setIfInBounds_toArray, List.set_cons_zero, List.set_cons_succ])))
                                refine heldRun (by rfl) (fun K hK => ?_)
                                go_simp
                                refine (law8_may ⟨xn, xt, xc, xl, xd⟩ _ (hg.ext (hEwm.trans ((Ext.refl wm).drew))) (by dsimp only; omega) (by dsimp only; omega)).mono ?_; rintro e w7 ⟨rfl, hE7⟩; rw [hox]
                                refine hK.out _ _ ?_ ?_
                                · exact HS.out _ (Ext.trans ((Ext.refl wm).drew) hE7)
                                clear hK K
                                (try simp only [Act.put, List.setIfInBounds_toArray, List.set_cons_zero, List.set_cons_succ])
                                repeat ((with_reducible refine heldIs ?_); first
                                  | (refine heldTake (v := ?_) (by rfl) (by rfl) ?_ ?_; rotate_left; (focus (intro V hV; (try dsimp only at hV); (go_simp <;> with_reducible rfl))); (try simp only [Act.put, List.setIfInBounds_toArray, List.set_cons_zero, List.set_cons_succ]))
                                  | (refine heldSkip (by rfl) (by rfl) ?_; (try simp only [Act.put, List.setIfInBounds_toArray, List.set_cons_zero, List.set_cons_succ])))
                                refine heldRun (by rfl) (fun K hK => ?_)
                                go_simp
                                refine (name_same xn nm _ (by unfold maxLen; omega) (by unfold maxLen; omega)).mono ?_; rintro e w8 ⟨rfl, hE8⟩; rw [hsx]
                                refine hK.out _ _ ?_ ?_
                                · exact HS.out _ (Ext.trans (Ext.trans ((Ext.refl wm).drew) hE7) hE8)
                                clear hK K
                                (try simp only [Act.put, List.setIfInBounds_toArray, List.set_cons_zero, List.set_cons_succ])
                                repeat ((with_reducible refine heldIs ?_); first
                                  | (refine heldTake (v := ?_) (by rfl) (by rfl) ?_ ?_; rotate_left; (focus (intro V hV; (try dsimp only at hV); (go_simp <;> with_reducible rfl))); (try simp only [Act.put, List.setIfInBounds_toArray, List.set_cons_zero, List.set_cons_succ]))
                                  | (refine heldSkip (by rfl) (by rfl) ?_; (try simp only [Act.put, List.setIfInBounds_toArray, List.set_cons_zero, List.set_cons_succ])))
                                refine heldDone ?_
                                refine NoPanic.normal ?_
                                go_wp2_with fail
                                go_roundw
                                case rel => exact ⟨m + 1, by omega, by go_num, by rw [HT.out, Hh0.out, Hf.out]; rfl, hEr.trans (Ext.trans (Ext.trans ((Ext.refl wm).drew) hE7) hE8)⟩
                                case measure => simp [intOf]; omega
                          · have Hf := Lib.hid (show hereB ⟨nm, ty, cl, tt, da⟩ d ⟨xn, xt, xc, xl, xd⟩ = false by unfold hereB; dsimp only; simp [htx])
                            have t1 : (xt == ty) = false := by rw [beq_eq_false_iff_ne]; exact htx
                            clear htx
                            go_wp2_with fail
                            as_aux_lemma =>
                              refine wp_region_noPanic ?_
                              refine wp_region_seq (S := (fun V => V.cell? ⟨b, bo + m * 5, none⟩ = some (S xn) ∧ V.cell? ⟨b, bo + m * 5 + 1, none⟩ = some (.int .u16 xt) ∧ V.cell? ⟨b, bo + m * 5 + 2, none⟩ = some (.int .u16 xc) ∧ V.cell? ⟨b, bo + m * 5 + 3, none⟩ = some (.int .u32 xl) ∧ V.cell? ⟨b, bo + m * 5 + 4, none⟩ = some (S xd) ∧ V.cell? ⟨gq, k * 5, none⟩ = some (S nm) ∧ V.cell? ⟨gq, k * 5 + 1, none⟩ = some (.int .u16 ty) ∧ V.cell? ⟨gq, k * 5 + 2, none⟩ = some (.int .u16 cl) ∧ V.cell? ⟨gq, k * 5 + 4, none⟩ = some (.slice (some ⟨db, do_, none⟩) da.length pc) ∧ V.cell? ⟨db, do_ + j, none⟩ = some (S d))) [(0, true), (1, true), (2, true), (3, true), (4, true), (5, true), (6, false), (7, true), (8, true), (9, true), (10, true), (11, true), (12, true), (13, true), (14, true), (15, true), (16, true), (17, true), (18, false), (19, true), (20, true), (21, true), (22, true), (23, true), (24, true), (25, true), (26, true), (27, true), (28, true), (29, true), (30, true), (31, true), (32, true), (33, true), (34, true), (35, true), (36, true), (37, true), (38, true), (39, true), (40, true), (41, true), (42, true), (43, true), (44, true), (45, true), (46, true), (47, true), (48, true), (49, true), (50, true), (51, true), (52, true), (53, true), (54, true), (55, true), (56, true), (57, true), (58, true), (59, true), (60, true), (61, true), (62, true), (63, true), (64, true), (65, true), (66, true), (67, true), (68, true), (69, true)] (by kernel_rfl) (by kernel_rfl) (fun _ _ _ _ _ h => h) (HS.out _ ((Ext.refl wm).drew)) ?_
                              repeat ((with_reducible refine heldIs ?_); first
                                | (refine heldTake (v := ?_) (by rfl) (by rfl) ?_ ?_; rotate_left; (focus (intro V hV; (try dsimp only at hV); (go_simp <;> with_reducible rfl))); (try simp only [Act.put, List.setIfInBounds_toArray, List.set_cons_zero, List.set_cons_succ]))
                                | (refine heldSkip (by rfl) (by rfl) ?_; (try simp only [Act.put, List.setIfInBounds_toArray, List.set_cons_zero, List.set_cons_succ])))
                              refine heldRun (by rfl) (fun K hK => ?_)
                              go_simp
                              refine (law8_may ⟨xn, xt, xc, xl, xd⟩ _ (hg.ext (hEwm.trans ((Ext.refl wm).drew))) (by dsimp only; omega) (by dsimp only; omega)).mono ?_; rintro e w7 ⟨rfl, hE7⟩; rw [hox]
                              refine hK.out _ _ ?_ ?_
                              · exact HS.out _ (Ext.trans ((Ext.refl wm).drew) hE7)
                              clear hK K
                              (try simp only [Act.put, List.setIfInBounds_toArray, List.set_cons_zero, List.set_cons_succ])
                              repeat ((with_reducible refine heldIs ?_); first
                                | (refine heldTake (v := ?_) (by rfl) (by rfl) ?_ ?_; rotate_left; (focus (intro V hV; (try dsimp only at hV); (go_simp <;> with_reducible rfl))); (try simp only [Act.put, List.setIfInBounds_toArray, List.set_cons_zero, List.set_cons_succ]))
                                | (refine heldSkip (by rfl) (by rfl) ?_; (try simp only [Act.put, List.setIfInBounds_toArray, List.set_cons_zero, List.set_cons_succ])))
                              refine heldRun (by rfl) (fun K hK => ?_)
                              go_simp
                              refine (name_same xn nm _ (by unfold maxLen; omega) (by unfold maxLen; omega)).mono ?_; rintro e w8 ⟨rfl, hE8⟩; rw [hsx]
                              refine hK.out _ _ ?_ ?_
                              · exact HS.out _ (Ext.trans (Ext.trans ((Ext.refl wm).drew) hE7) hE8)
                              clear hK K
                              (try simp only [Act.put, List.setIfInBounds_toArray, List.set_cons_zero, List.set_cons_succ])
                              repeat ((with_reducible refine heldIs ?_); first
                                | (refine heldTake (v := ?_) (by rfl) (by rfl) ?_ ?_; rotate_left; (focus (intro V hV; (try dsimp only at hV); (go_simp <;> with_reducible rfl))); (try simp only [Act.put, List.setIfInBounds_toArray, List.set_cons_zero, List.set_cons_succ]))
                                | (refine heldSkip (by rfl) (by rfl) ?_; (try simp only [Act.put, List.setIfInBounds_toArray, List.set_cons_zero, List.set_cons_succ])))
                              refine heldDone ?_
                              refine NoPanic.normal ?_
                              go_wp2_with fail
                              go_roundw
                              case rel => exact ⟨m + 1, by omega, by go_num, by rw [HT.out, Hh0.out, Hf.out]; rfl, hEr.trans (Ext.trans (Ext.trans ((Ext.refl wm).drew) hE7) hE8)⟩
                              case measure => simp [intOf]; omega
                    · have Hh0 := Lib.hid hh0
                      clear hh0
                      go_wp2_with fail
                      as_aux_lemma =>
                        refine wp_region_noPanic ?_
                        refine wp_region_seq (S := (fun V => V.cell? ⟨b, bo + m * 5, none⟩ = some (S xn) ∧ V.cell? ⟨b, bo + m * 5 + 1, none⟩ = some (.int .u16 xt) ∧ V.cell? ⟨b, bo + m * 5 + 2, none⟩ = some (.int .u16 xc) ∧ V.cell? ⟨b, bo + m * 5 + 3, none⟩ = some (.int .u32 xl) ∧ V.cell? ⟨b, bo + m * 5 + 4, none⟩ = some (S xd) ∧ V.cell? ⟨gq, k * 5, none⟩ = some (S nm) ∧ V.cell? ⟨gq, k * 5 + 1, none⟩ = some (.int .u16 ty) ∧ V.cell? ⟨gq, k * 5 + 2, none⟩ = some (.int .u16 cl) ∧ V.cell? ⟨gq, k * 5 + 4, none⟩ = some (.slice (some ⟨db, do_, none⟩) da.length pc) ∧ V.cell? ⟨db, do_ + j, none⟩ = some (S d))) [(0, true), (1, true), (2, true), (3, true), (4, true), (5, true), (6, true), (7, true), (8, true), (9, true), (10, true), (11, true), (12, true), (13, true), (14, true), (15, true), (16, true), (17, true), (18, true), (19, true), (20, true), (21, true), (22, true), (23, true), (24, true), (25, true), (26, true), (27, true), (28, true), (29, true), (30, true), (31, true), (32, true), (33, true), (34, true), (35, true), (36, true), (37, true), (38, true), (39, true), (40, true), (41, true), (42, true), (43, true), (44, true), (45, true), (46, true), (47, true), (48, true), (49, true), (50, true), (51, true), (52, true), (53, true), (54, true), (55, true), (56, true), (57, true), (58, true), (59, true), (60, true), (61, true), (62, true), (63, true), (64, true), (65, true), (66, true), (67, true), (68, true), (69, true)] (by kernel_rfl) (by kernel_rfl) (fun _ _ _ _ _ h => h) (HS.out _ ((Ext.refl wm).drew)) ?_
                        repeat ((with_reducible refine heldIs ?_); first
                          | (refine heldTake (v := ?_) (by rfl) (by rfl) ?_ ?_; rotate_left; (focus (intro V hV; (try dsimp only at hV); (go_simp <;> with_reducible rfl))); (try simp only [Act.put, List.setIfInBounds_toArray, List.set_cons_zero, List.set_cons_succ]))
                          | (refine heldSkip (by rfl) (by rfl) ?_; (try simp only [Act.put, List.setIfInBounds_toArray, List.set_cons_zero, List.set_cons_succ])))
                        refine heldDone ?_
                        refine NoPanic.normal ?_
                        go_wp2_with fail
                        go_roundw
                        case rel => exact ⟨m + 1, by omega, by go_num, by rw [HT.out, Hh0.out]; rfl, hEr.trans ((Ext.refl wm).drew)⟩
                        case measure => simp [intOf]; omega
                  · obtain rfl : m = l.length := by omega
                    have Hany' := Hany.out
                    rw [List.take_length, Hany']
                    clear Hany'
                    go_wp2_with fail
                    go_roundw
                    case rel => exact ⟨j + 1, by omega, by go_num, hE5.trans hEr⟩
                    case measure => simp [intOf]; omega
              · go_wp2_with fail
                go_roundw
                case rel => exact ⟨k + 1, by omega, by go_num, hE5⟩
                case measure => simp [intOf]; omega
          · go_wp2_with fail
            go_ret
            exact ⟨rfl, hEw3.trans hE4⟩
  · rw [hb] at HL
    clear hb
    go_enter Tryz.func8, Tryz.ntmps8
    go_wp2_with fail
    refine (HL.out _ (Ext.refl _)).mono ?_; rintro e w1 ⟨rfl, hE1⟩
    go_wp2_with fail
    refine (HA.out _ hE1).mono ?_; rintro e w2 ⟨rfl, hE2⟩
    go_wp2_with fail
    go_ret
    exact ⟨rfl, hE1.trans hE2⟩
end Go.Proofs.YthdlgmfeicikpaaGreatDoor
namespace Go.Proofs.YthdlgmfeicikpaaGreatDoor
set_option linter.unusedSimpArgs false
set_option linter.unusedVariables false
open Go.ChangeShapes Go.WideShapes Go.ChangeAt Go.RowKit
set_option maxRecDepth 100000

theorem rrsetEach_contract (H : Type) (enc : TypeId × Value → H) (W : World) (base : Nat) (args : Array Value) (ds gs : List (DataW H)) (before : List MemPlace)
    (hval : ∀ (j : Nat) t v, Tryz.f8.params[j]? = some t → args[j]? = some v → Value.okWide Tryz.prog W .any base t v)
    (hW : DataW.Whole enc Tryz.prog Tryz.f8.params.toList Rows.rrsetEachSpec.vars false W args.toList ds gs before)
    (hsz : (DataW.weightsEach Tryz.prog (Tryz.f8.params.toList ++ (OpenSpec.ofChange Rows.rrsetEachSpec).bare.plain.varTypes Tryz.prog) (ds ++ gs)).all (· ≤ reachBytes) = true)
    (hL : laidMetH Tryz.prog laidL W) :
    Calls Tryz.prog 8 args W fun e W' => ∃ v, e = .returned v ∧ Rows.rrsetEachSpec.post enc Tryz.prog Tryz.f8 false true false false W args v W' := by
  have hW' := hW
  have hp : ∀ t ∈ Tryz.f8.params.toList, Tryz.prog.readableRec t = true ∧ t < Tryz.prog.types.size := by
    have h : (Tryz.f8.params.toList.all fun t => Tryz.prog.readableRec t && decide (t < Tryz.prog.types.size)) = true := by kernel_rfl
    simpa only [List.all_eq_true, Bool.and_eq_true, decide_eq_true_eq] using h
  have hg := laid_of hL
  obtain ⟨p, q, hA0, hV, rfl, _, _⟩ := hW
  have hA : DataW.TrodAll enc Tryz.prog W 0 (fun _ => true) true Tryz.f8.params.toList args.toList ds p := hA0
  clear hA0
  rw [Tryz.params8] at hA hval hsz
  obtain ⟨rfl, rfl⟩ := trodVars_none hV
  obtain ⟨v0, d0, rfl, rfl, h0⟩ := trodAll_one hA
  obtain ⟨l, hr, hlo⟩ := open_recsW (hval 0 _ _ rfl rfl) h0
  refine (law_rrsetEach v0 l W hg hr (fun r hr => ⟨reach_of hsz (j := 0) rfl rfl (hlo r hr).2.1, reach_of hsz (j := 0) rfl rfl (hlo r hr).2.2⟩) (fun r hr => (hlo r hr).1)).mono ?_
  rintro e W' ⟨rfl, hE⟩
  exact ⟨_, rfl, post_true laid_out rfl (by kernel_rfl) Tryz.underlying4 hp hW' rfl hE⟩

theorem rrsetEach_reads (os : Os) {H : Type} (enc : TypeId × Value → H) : ∃ places, DataW.whole enc Tryz.prog ((laidWorld os).forCall (fun _ _ => 0) ⟨#[], #[.slice none 0 0], []⟩).memory Tryz.f8.params.toList Rows.rrsetEachSpec.vars false (#[.slice none 0 0] : Array Value).toList 8 = some ([.nil], [], places) :=
  ⟨[], by kernel_rfl⟩
theorem rrsetEach_lifted (os : Os) (started : os.Started) (H : Type) (enc : TypeId × Value → H) (F : Stop.Interp) :
    ReturnsInHanded {} Tryz.checked os 8 .any ((OpenSpec.ofChange Rows.rrsetEachSpec).preRow enc Tryz.prog Tryz.f8 Rows.rrsetEachRow.domain false Rows.rrsetEachRow.laid) (((OpenSpec.ofChange Rows.rrsetEachSpec).at F).post enc Tryz.prog Tryz.f8 false true false false) := by
  obtain ⟨places, hx⟩ := rrsetEach_reads os enc
  refine returnsInHanded_of_row (C := Tryz.checked) (s := OpenSpec.ofChange Rows.rrsetEachSpec) own_knob started (by kernel_rfl) Tryz.func8
    (witness_row_at (enc := enc) (C := Tryz.checked) false (laidWorld os) #[.slice none 0 0] rfl (by kernel_rfl) (by kernel_rfl) (by kernel_rfl)
      (OpenSpec.preRow_of_cond 8 hx (by kernel_rfl) (fun k hk => by cases hk) (by kernel_rfl) (laid_met os _))) ?_
  intro W base args ds gs before hval hW _ _ hsz hL _ _
  exact rrsetEach_contract H enc W base args ds gs before hval hW hsz hL
theorem rrsetEach_said : Rows.RrsetEachSaid :=
  OpenClaim.holds_of_cond 8 Tryz.f8 rfl rfl rfl rfl rfl rfl rfl ⟨rfl, rfl, rfl, rfl, rfl⟩ rfl rfl rfl rfl rfl (by kernel_rfl) Tryz.func8 (by kernel_rfl)
    (of_decide_eq_true (by kernel_rfl)) (by unfold Func.isWrapper; first | (rw [if_pos (by decide +kernel)]; kernel_rfl) | (rw [if_neg (by decide +kernel)]; exact ⟨rfl, rfl⟩))
    (fun os started H enc _ F => by rw [OpenClaim.pre_eq_preRow]; exact rrsetEach_lifted os started H enc F)
/-- THE CARD. -/
theorem rrsetEach_card : Rows.RrsetEachCardSaid :=
  Claim7.holds_tied_plain_at .later [] _ _ _ _ rrsetEach_said (fun _ h => by cases h) (by kernel_rfl) (fun _ h => by cases h) rrsetEach_row_tie rfl ⟨rfl, rfl⟩ (by kernel_rfl) rfl
    (fun f fn hf hfn => by
      obtain rfl : f = 8 := Option.some.inj ((show Tryz.prog.funcNamed Rows.rrsetEachRow.func = some 8 by kernel_rfl).symm.trans hf) |>.symm
      obtain rfl : fn = Tryz.f8 := (Option.some.inj (Tryz.func8.symm.trans hfn)).symm
      refine ⟨by kernel_rfl, fun j t ht => ?_⟩
      have h : (Tryz.f8.params.toList.all fun t => !Tryz.prog.wantsStandIn t) = true := by kernel_rfl
      have h2 := List.all_eq_true.1 h t (by simpa using Array.mem_of_getElem? ht)
      exact (by simpa using h2 : Tryz.prog.wantsStandIn t = false))
    (by kernel_rfl)
#print axioms rrsetEach_card
end Go.Proofs.YthdlgmfeicikpaaGreatDoor
