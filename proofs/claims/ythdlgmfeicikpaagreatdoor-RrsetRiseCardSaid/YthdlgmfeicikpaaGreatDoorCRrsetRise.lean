/- hustingslaw08.RrsetRise returns true for every input, and every argument reads behind the call as it read before; the listed variable (errors.errorType) is tied to the program's text. No condition of ours. -/
import Derived.Test.YthdlgmfeicikpaaGreatDoorBm
import Derived.Test.YthdlgmfeicikpaaGreatDoorBo
import Derived.Test.YthdlgmfeicikpaaGreatDoorBq
import Derived.Test.YthdlgmfeicikpaaGreatDoorBn
import Derived.Test.YthdlgmfeicikpaaGreatDoorBg
namespace Go.Proofs.YthdlgmfeicikpaaGreatDoor
set_option linter.unusedSimpArgs false
set_option linter.unusedVariables false
open Go.RowKit
set_option maxRecDepth 100000

theorem recsOk8c {l : List RecD} (h : ∀ r ∈ l, RecOk r) : RecsOk l := fun r hr => ⟨(h r hr).2.2.1, (h r hr).2.2.2.1⟩
structure RiseP (s : SetD) : Prop where
  some_ : s.data ≠ []
  fold_ : fold s.name = s.name
  ttl : s.ttl ≤ 2147483647
  asc : Asc s.data
  fix : ∀ d ∈ s.data, rfold s.typ d = d
  nl : s.name.length ≤ 255
  dl : s.data.length ≤ 200
  xl : ∀ d ∈ s.data, d.length ≤ 6000
  may_ : may s.name = true
theorem riseP {l : List RecD} (h : l.length < 200 ∧ ∀ r ∈ l, r.name.length < 6000 ∧ r.data.length < 6000) {s : SetD} (hs : s ∈ groupR l) : RiseP s :=
  ⟨group_some hs, group_fold hs, (group_ttl hs).2, group_asc hs, fun d hd => (group_folded hs hd).2, (group_small h hs).1, (group_small h hs).2.1, (group_small h hs).2.2, (group_name hs).1⟩

set_option maxHeartbeats 8000000 in
theorem law_rrsetRise (v : Value) (l : List RecD) (w : World) (hg : Laid w) (h : Recs w 0 v l) (hre : ∀ r ∈ l, RecRe r) (hok : ∀ r ∈ l, RecOk r) :
    Calls Tryz.prog 5 #[v] w fun e w' => e = .returned (.bool true) ∧ Ext w w' := by
  have HL := Lib.hid (fun W (hW : Ext w W) => law_long 0 v l W (h.ext hW) hre)
  have HA := Lib.hid (fun W (hW : Ext w W) => law8_awake W (hg.ext hW))
  obtain ⟨A, c, rfl, h1, h2, hrd⟩ := h
  have h : Recs w 0 (.slice A l.length c) l := ⟨A, c, rfl, h1, h2, hrd⟩
  have Hh := Lib.hid h
  clear h
  unfold maxLen at h2
  rcases hb : longB l with _ | _
  · have hsm := recs8 hb
    rw [hb] at HL
    have HG := Lib.hid (fun W (hW : Ext w W) => rrset_groupR 0 _ l W (hg.ext hW) (Hh.out.ext hW) (recsBd8 hb) (recsOk8c hok))
    have HP := Lib.hid (fun s (hs : s ∈ groupR l) => riseP hsm hs)
    have HJ := Lib.hid (group_adj l)
    generalize groupR l = sets at *
    clear hb hsm hrd
    go_enter Tryz.func5, Tryz.ntmps5
    go_wp2_with fail
    refine (HL.out _ (Ext.refl _)).mono ?_; rintro e w1 ⟨rfl, hE1⟩
    go_wp2_with fail
    refine (HA.out _ hE1).mono ?_; rintro e w2 ⟨rfl, hx2⟩
    have hE2 : Ext w w2 := hE1.trans hx2
    clear hx2 hE1
    go_wp2_with fail
    refine (HG.out _ hE2).mono ?_; rintro e w3 ⟨g3, rfl, ho3, hE3⟩
    have hEw3 := hE2.trans hE3
    obtain ⟨ps, gA, gc, hps, rfl, hgo, hgd⟩ := ho3
    have hpl : ps.length = sets.length := by rw [← hps]; simp
    have hgcap := hgo.cap
    unfold maxLen at hgcap
    have Hps := Lib.hid hps
    have Hpl := Lib.hid hpl
    have Hgo := Lib.hid hgo
    have Hgd := Lib.hid hgd
    clear hps hpl hgo hgd
    go_wp2_with fail
    go_loopw [4] (fun i wr => ∃ k : Nat, k ≤ ps.length ∧ i = .int .i64 k ∧ Ext w3 wr) (fun i _ => ps.length - (intOf i).toNat)
    case atStart => exact ⟨0, by omega, rfl, Ext.refl _⟩
    case round =>
      obtain ⟨k, hk, rfl, hE⟩ := hrel
      obtain ⟨wo, rfl⟩ : ∃ wo : World, wo = wr := ⟨_, rfl⟩
      by_cases hlt : k < ps.length
      · have hpk : ps[k]? = some ps[k] := List.getElem?_eq_getElem hlt
        have hpe : sets[k]? = some ps[k].1 := by rw [← Hps.out, List.getElem?_map, hpk]; rfl
        have hP := HP.out ps[k].1 (List.mem_of_getElem? hpe)
        have hdk := (Hgd.out ps[k] (List.getElem_mem hlt)).strs
        have Hpe := Lib.hid hpe
        generalize ps[k] = p at *
        obtain ⟨⟨nm, ty, cl, tt, da⟩, pv⟩ := p
        obtain ⟨q1, q2, q3, q4, q5, q6, q7, q8, q9⟩ := hP
        dsimp only at *
        have Hdk := Lib.hid hdk
        obtain ⟨pA, pc, rfl, hd1, hd2, hdr⟩ := hdk
        unfold maxLen at hd2
        obtain ⟨gq, rfl, _, hqz, _, hqc⟩ := Hgo.out.addr (by omega)
        have hcs := sets_cells (off := 0) (fun j u hu => by rw [Nat.zero_add]; exact hqc j u hu) k _ hpk
        simp only [Nat.zero_add] at hcs
        obtain ⟨z0, z1, z2, z3, z4⟩ := hcs
        have y0 := (hE.cell (p := ⟨gq, k * 5, none⟩) hqz).trans z0
        have y1 := (hE.cell (p := ⟨gq, k * 5 + 1, none⟩) hqz).trans z1
        have y2 := (hE.cell (p := ⟨gq, k * 5 + 2, none⟩) hqz).trans z2
        have y3 := (hE.cell (p := ⟨gq, k * 5 + 3, none⟩) hqz).trans z3
        have y4 := (hE.cell (p := ⟨gq, k * 5 + 4, none⟩) hqz).trans z4
        have hki : (k : Int) < (ps.length : Int) := by omega
        have hk0 : (0 : Int) ≤ (k : Int) := by omega
        have hda0 : 0 < da.length := List.length_pos_iff.2 q1
        have hdne : ((da.length : Int) == 0) = false := by rw [beq_eq_false_iff_ne]; omega
        obtain ⟨db, do_, rfl, _, hdz, hdc⟩ := hdr.2 hda0
        have Hdc := Lib.hid hdc
        have Hq2 := Lib.hid q2
        have Hq4 := Lib.hid q4
        have Hq5 := Lib.hid q5
        have Hq8 := Lib.hid q8
        have Hqc := Lib.hid hqc
        have f3 : (nm != nm) = false := by simp
        have f4 : ¬ (2147483647 : Int) < tt := by omega
        have f4d : decide ((2147483647 : Int) < tt) = false := by simpa using f4
        clear hdc hqc hpk hpe q1 q2 q4 q5 q8
        go_wp2_with fail
        obtain ⟨X, hX⟩ : ∃ X, X = wo.alloc (.cells #[S nm, .int .u16 ty, .int .u16 cl, .int .u32 tt, .slice (some ⟨db, do_, none⟩) da.length pc] 27) := ⟨_, rfl⟩
        rw [← hX]
        have hEX : Ext wo X := by rw [hX]; exact (Ext.refl _).alloc _
        obtain ⟨xc, _, hxz⟩ := ext_new_at wo.heap.size rfl (show Ext (wo.alloc _) X by rw [hX]; exact Ext.refl _)
        have HS := Lib.hid (show ∀ V, Ext X V → V.cell? ⟨wo.heap.size, 0, none⟩ = some (S nm) ∧ V.cell? ⟨wo.heap.size, 1, none⟩ = some (.int .u16 ty) ∧ V.cell? ⟨wo.heap.size, 2, none⟩ = some (.int .u16 cl) ∧ V.cell? ⟨wo.heap.size, 3, none⟩ = some (.int .u32 tt) ∧ V.cell? ⟨wo.heap.size, 4, none⟩ = some (.slice (some ⟨db, do_, none⟩) da.length pc) from fun V hV => ⟨(hV.cell (p := ⟨wo.heap.size, 0, none⟩) hxz).trans (xc 0), (hV.cell (p := ⟨wo.heap.size, 1, none⟩) hxz).trans (xc 1), (hV.cell (p := ⟨wo.heap.size, 2, none⟩) hxz).trans (xc 2), (hV.cell (p := ⟨wo.heap.size, 3, none⟩) hxz).trans (xc 3), (hV.cell (p := ⟨wo.heap.size, 4, none⟩) hxz).trans (xc 4)⟩)
        clear xc hX
        refine wp_region_noPanic ?_
        refine wp_region_seq (S := (fun V => V.cell? ⟨wo.heap.size, 0, none⟩ = some (S nm) ∧ V.cell? ⟨wo.heap.size, 1, none⟩ = some (.int .u16 ty) ∧ V.cell? ⟨wo.heap.size, 2, none⟩ = some (.int .u16 cl) ∧ V.cell? ⟨wo.heap.size, 3, none⟩ = some (.int .u32 tt) ∧ V.cell? ⟨wo.heap.size, 4, none⟩ = some (.slice (some ⟨db, do_, none⟩) da.length pc))) [(0, true), (1, true), (2, true), (3, true), (4, true), (5, true), (6, true), (8, true), (9, true), (7, false), (10, true), (11, true), (12, true), (13, true), (14, true), (15, true), (16, true)] (by kernel_rfl) (by kernel_rfl) (fun _ _ _ _ _ h => h) (HS.out _ ((Ext.refl X).drew)) ?_
        repeat ((with_reducible refine heldIs ?_); first
          | (refine heldTake (v := ?_) (by rfl) (by rfl) ?_ ?_; rotate_left; (focus (intro V hV; (try dsimp only at hV); (go_simp <;> with_reducible rfl))); (try simp only [Act.put, List.setIfInBounds_toArray, List.set_cons_zero, List.set_cons_succ]))
          | (refine heldSkip (by rfl) (by rfl) ?_; (try simp only [Act.put, List.setIfInBounds_toArray, List.set_cons_zero, List.set_cons_succ])))
        refine heldRun (by rfl) (fun K hK => ?_)
        go_simp
        refine (name_fold nm _ (by unfold maxLen; omega)).mono ?_; rintro e w6 ⟨rfl, hE6⟩; rw [Hq2.out]
        refine hK.out _ _ ?_ ?_
        · exact HS.out _ (Ext.trans ((Ext.refl X).drew) hE6)
        clear hK K
        (try simp only [Act.put, List.setIfInBounds_toArray, List.set_cons_zero, List.set_cons_succ])
        repeat ((with_reducible refine heldIs ?_); first
          | (refine heldTake (v := ?_) (by rfl) (by rfl) ?_ ?_; rotate_left; (focus (intro V hV; (try dsimp only at hV); (go_simp <;> with_reducible rfl))); (try simp only [Act.put, List.setIfInBounds_toArray, List.set_cons_zero, List.set_cons_succ]))
          | (refine heldSkip (by rfl) (by rfl) ?_; (try simp only [Act.put, List.setIfInBounds_toArray, List.set_cons_zero, List.set_cons_succ])))
        refine heldDone ?_
        refine NoPanic.normal ?_
        have hEX6 : Ext X w6 := Ext.trans ((Ext.refl X).drew) hE6
        have hE36 : Ext w3 w6 := (hE.trans hEX).trans hEX6
        clear y0 y1 y2 y3 y4 z0 z1 z2 z3 z4 hE6
        go_wp2_with fail
        go_loopw [6] (fun i wr => ∃ j : Nat, j ≤ da.length ∧ i = .int .i64 j ∧ Ext w6 wr) (fun i _ => da.length - (intOf i).toNat)
        case atStart => exact ⟨0, by omega, rfl, Ext.refl _⟩
        case round =>
          obtain ⟨j, hj, rfl, hEr⟩ := hrel
          obtain ⟨wi, rfl⟩ : ∃ wi : World, wi = wr := ⟨_, rfl⟩
          have hEXi : Ext X wi := hEX6.trans hEr
          have c4 := (HS.out _ hEXi).2.2.2.2
          have hj0 : (0 : Int) ≤ (j : Int) := by omega
          by_cases hjl : j < da.length
          · have hji : (j : Int) < (da.length : Int) := by omega
            obtain ⟨x, hx⟩ : ∃ x, x = da[j] := ⟨_, rfl⟩
            have hxm : x ∈ da := by rw [hx]; exact List.getElem_mem hjl
            have Hx := Lib.hid hx
            have Hcx := Lib.hid (show ∀ V, Ext X V → V.cell? ⟨db, do_ + j, none⟩ = some (S x) from fun V hV => (((hE.trans hEX).trans hV).cell (p := ⟨db, do_ + j, none⟩) hdz).trans (Hdc.out j (S x) (by rw [hx]; simp [hjl])))
            have HF := Lib.hid (fun W (hW : Ext w W) => rdata_fold ty x W (hg.ext hW) (by have := Hq8.out x hxm; omega))
            rw [Hq5.out x hxm] at HF
            have f5 : (x != x) = false := by simp
            have hEwX : Ext w X := (hEw3.trans hE).trans hEX
            clear hx hxm
            rcases j with _ | m
            · simp only [Int.natCast_zero] at *
              go_wp2_with fail
              refine wp_region_noPanic ?_
              refine wp_region_seq (S := (fun V => V.cell? ⟨wo.heap.size, 0, none⟩ = some (S nm) ∧ V.cell? ⟨wo.heap.size, 1, none⟩ = some (.int .u16 ty) ∧ V.cell? ⟨wo.heap.size, 2, none⟩ = some (.int .u16 cl) ∧ V.cell? ⟨wo.heap.size, 3, none⟩ = some (.int .u32 tt) ∧ V.cell? ⟨wo.heap.size, 4, none⟩ = some (.slice (some ⟨db, do_, none⟩) da.length pc) ∧ V.cell? ⟨db, do_, none⟩ = some (S x))) [(0, true), (1, true), (2, true), (3, true), (4, true), (5, true), (6, true), (7, true), (8, true), (9, true), (10, true), (11, true), (12, true), (13, true), (14, true), (15, true), (16, true), (17, true), (18, true), (19, true), (20, true), (21, true), (22, true), (23, true), (25, true), (26, true), (27, true), (28, true), (29, true), (24, false), (30, true), (31, true)] (by kernel_rfl) (by kernel_rfl) (fun _ _ _ _ _ h => h) (by have hh := HS.out _ (hEXi.drew); exact ⟨hh.1, hh.2.1, hh.2.2.1, hh.2.2.2.1, hh.2.2.2.2, Hcx.out _ (hEXi.drew)⟩) ?_
              repeat ((with_reducible refine heldIs ?_); first
                | (refine heldTake (v := ?_) (by rfl) (by rfl) ?_ ?_; rotate_left; (focus (intro V hV; (try dsimp only at hV); (go_simp <;> with_reducible rfl))); (try simp only [Act.put, List.setIfInBounds_toArray, List.set_cons_zero, List.set_cons_succ]))
                | (refine heldSkip (by rfl) (by rfl) ?_; (try simp only [Act.put, List.setIfInBounds_toArray, List.set_cons_zero, List.set_cons_succ])))
              refine heldRun (by rfl) (fun K hK => ?_)
              go_simp
              refine (HF.out _ (hEwX.trans hEXi.drew)).mono ?_; rintro e w7 ⟨rfl, hE7⟩
              refine hK.out _ _ ?_ ?_
              · exact (by have hh := HS.out _ ((hEXi.drew).trans hE7); exact ⟨hh.1, hh.2.1, hh.2.2.1, hh.2.2.2.1, hh.2.2.2.2, Hcx.out _ ((hEXi.drew).trans hE7)⟩)
              clear hK K
              (try simp only [Act.put, List.setIfInBounds_toArray, List.set_cons_zero, List.set_cons_succ])
              repeat ((with_reducible refine heldIs ?_); first
                | (refine heldTake (v := ?_) (by rfl) (by rfl) ?_ ?_; rotate_left; (focus (intro V hV; (try dsimp only at hV); (go_simp <;> with_reducible rfl))); (try simp only [Act.put, List.setIfInBounds_toArray, List.set_cons_zero, List.set_cons_succ]))
                | (refine heldSkip (by rfl) (by rfl) ?_; (try simp only [Act.put, List.setIfInBounds_toArray, List.set_cons_zero, List.set_cons_succ])))
              refine heldDone ?_
              refine NoPanic.normal ?_
              go_wp2_with fail
              go_roundw
              case rel => exact ⟨1, by omega, by go_num, hEr.trans (Ext.trans ((Ext.refl wi).drew) hE7)⟩
              case measure => simp [intOf]; omega
            · obtain ⟨y, hy⟩ : ∃ y, y = da[m]'(by omega) := ⟨_, rfl⟩
              have Hcy := Lib.hid (show ∀ V, Ext X V → V.cell? ⟨db, do_ + m, none⟩ = some (S y) from fun V hV => (((hE.trans hEX).trans hV).cell (p := ⟨db, do_ + m, none⟩) hdz).trans (Hdc.out m (S y) (by rw [hy]; simp [show m < da.length by omega])))
              have hbl : bl y x = true := by rw [hy, Hx.out]; exact asc_adj Hq4.out m (by omega) hjl
              have g1 : Op.bytesLess x y = false := (bl_asym y x hbl).1
              have g2 : (x == y) = false := str_ne (fun e => (bl_asym y x hbl).2 e.symm)
              clear hbl
              clear hy
              have hm1 : (0 : Int) ≤ (m : Int) := by omega
              have hm2 : (m : Int) < (da.length : Int) := by omega
              have hm3 : (m : Int) + 1 < (da.length : Int) := by omega
              have hm4 : (0 : Int) ≤ (m : Int) + 1 := by omega
              have hm5 : decide ((0 : Int) < (m : Int) + 1) = true := by rw [decide_eq_true_eq]; omega
              have hm6 : IntKind.i64.wrap (m : Int) = (m : Int) := IntWalk.i64_in _ (by omega)
              simp only [Int.natCast_add, Int.natCast_one] at *
              go_wp2_with fail
              refine wp_region_noPanic ?_
              refine wp_region_seq (S := (fun V => V.cell? ⟨wo.heap.size, 0, none⟩ = some (S nm) ∧ V.cell? ⟨wo.heap.size, 1, none⟩ = some (.int .u16 ty) ∧ V.cell? ⟨wo.heap.size, 2, none⟩ = some (.int .u16 cl) ∧ V.cell? ⟨wo.heap.size, 3, none⟩ = some (.int .u32 tt) ∧ V.cell? ⟨wo.heap.size, 4, none⟩ = some (.slice (some ⟨db, do_, none⟩) da.length pc) ∧ V.cell? ⟨db, do_ + (m + 1), none⟩ = some (S x) ∧ V.cell? ⟨db, do_ + m, none⟩ = some (S y))) [(0, true), (1, true), (2, true), (3, true), (4, true), (5, true), (6, true), (7, true), (8, true), (9, true), (10, true), (11, true), (12, true), (13, true), (14, true), (15, true), (16, true), (17, true), (18, true), (19, true), (20, true), (21, true), (22, true), (23, true), (25, true), (26, true), (27, true), (28, true), (29, true), (24, false), (30, true), (31, true)] (by kernel_rfl) (by kernel_rfl) (fun _ _ _ _ _ h => h) (by have hh := HS.out _ (hEXi.drew); exact ⟨hh.1, hh.2.1, hh.2.2.1, hh.2.2.2.1, hh.2.2.2.2, Hcx.out _ (hEXi.drew), Hcy.out _ (hEXi.drew)⟩) ?_
              repeat ((with_reducible refine heldIs ?_); first
                | (refine heldTake (v := ?_) (by rfl) (by rfl) ?_ ?_; rotate_left; (focus (intro V hV; (try dsimp only at hV); (go_simp <;> with_reducible rfl))); (try simp only [Act.put, List.setIfInBounds_toArray, List.set_cons_zero, List.set_cons_succ]))
                | (refine heldSkip (by rfl) (by rfl) ?_; (try simp only [Act.put, List.setIfInBounds_toArray, List.set_cons_zero, List.set_cons_succ])))
              refine heldRun (by rfl) (fun K hK => ?_)
              go_simp
              refine (HF.out _ (hEwX.trans hEXi.drew)).mono ?_; rintro e w7 ⟨rfl, hE7⟩
              refine hK.out _ _ ?_ ?_
              · exact (by have hh := HS.out _ ((hEXi.drew).trans hE7); exact ⟨hh.1, hh.2.1, hh.2.2.1, hh.2.2.2.1, hh.2.2.2.2, Hcx.out _ ((hEXi.drew).trans hE7), Hcy.out _ ((hEXi.drew).trans hE7)⟩)
              clear hK K
              (try simp only [Act.put, List.setIfInBounds_toArray, List.set_cons_zero, List.set_cons_succ])
              repeat ((with_reducible refine heldIs ?_); first
                | (refine heldTake (v := ?_) (by rfl) (by rfl) ?_ ?_; rotate_left; (focus (intro V hV; (try dsimp only at hV); (go_simp <;> with_reducible rfl))); (try simp only [Act.put, List.setIfInBounds_toArray, List.set_cons_zero, List.set_cons_succ]))
                | (refine heldSkip (by rfl) (by rfl) ?_; (try simp only [Act.put, List.setIfInBounds_toArray, List.set_cons_zero, List.set_cons_succ])))
              refine heldDone ?_
              refine NoPanic.normal ?_
              go_wp2_with fail
              go_roundw
              case rel => exact ⟨m + 1 + 1, by omega, by go_num, hEr.trans (Ext.trans ((Ext.refl wi).drew) hE7)⟩
              case measure => simp [intOf]; omega
          · obtain rfl : j = da.length := by omega
            have hEoi : Ext wo wi := hEX.trans hEXi
            obtain ⟨s0, s1, s2, s3, s4⟩ := HS.out _ hEXi
            clear hdne hda0 hdz Hdc
            rcases k with _ | m
            · go_wp2_with fail
              go_roundw
              case rel => exact ⟨1, by omega, by go_num, hE.trans hEoi⟩
              case measure => simp [intOf]; omega
            · have hmp : m < ps.length := by omega
              have hpm : ps[m]? = some ps[m] := List.getElem?_eq_getElem hmp
              have hpme : sets[m]? = some ps[m].1 := by rw [← Hps.out, List.getElem?_map, hpm]; rfl
              have hPm := HP.out ps[m].1 (List.mem_of_getElem? hpme)
              have hdm := (Hgd.out ps[m] (List.getElem_mem hmp)).strs
              have hsl1 : m + 1 < sets.length := by rw [← Hpl.out]; exact hlt
              have hadj := HJ.out m (by omega) hsl1
              have e1 : sets[m] = ps[m].1 := by have := hpme; rw [List.getElem?_eq_getElem (by omega)] at this; exact Option.some.inj this
              have e2 : sets[m + 1] = ⟨nm, ty, cl, tt, da⟩ := by have := Hpe.out; rw [List.getElem?_eq_getElem hsl1] at this; exact Option.some.inj this
              rw [e1, e2] at hadj
              have hway := adj_ways hPm.may_ q9 hadj
              have hnm := hPm.nl
              clear e1 e2 hadj hpme hPm
              generalize ps[m] = pm at *
              obtain ⟨⟨pn, pt, pcl, ptt, pda⟩, pmv⟩ := pm
              dsimp only at *
              obtain ⟨qA, qc, rfl⟩ := hdm.shape
              have hcs := sets_cells (off := 0) (fun j u hu => by rw [Nat.zero_add]; exact Hqc.out j u hu) m _ hpm
              simp only [Nat.zero_add] at hcs
              obtain ⟨z0, z1, z2, z3, z4⟩ := hcs
              have hE3i := hE.trans hEoi
              have y0 := (hE3i.cell (p := ⟨gq, m * 5, none⟩) hqz).trans z0
              have y1 := (hE3i.cell (p := ⟨gq, m * 5 + 1, none⟩) hqz).trans z1
              have y2 := (hE3i.cell (p := ⟨gq, m * 5 + 2, none⟩) hqz).trans z2
              have y3 := (hE3i.cell (p := ⟨gq, m * 5 + 3, none⟩) hqz).trans z3
              have y4 := (hE3i.cell (p := ⟨gq, m * 5 + 4, none⟩) hqz).trans z4
              have hm1 : (0 : Int) ≤ (m : Int) := by omega
              have hm2 : (m : Int) < (ps.length : Int) := by omega
              have hm6 : IntKind.i64.wrap (m : Int) = (m : Int) := IntWalk.i64_in _ (by omega)
              have hm7 : ((m : Int) + 1 == 0) = false := by rw [beq_eq_false_iff_ne]; omega
              have hxi : wo.heap.size < wi.heap.size := Nat.lt_of_lt_of_le hxz hEXi.size
              have HC := Lib.hid (fun W => name_compare pn nm W (by unfold maxLen; omega) (by unfold maxLen; omega))
              clear z0 z1 z2 z3 z4 hpm Hpe hdm
              generalize cmpN pn nm = cn at *
              simp only [Int.natCast_add, Int.natCast_one] at *
              rcases hway with hw | ⟨hw, ht⟩ | ⟨hw, ht, hc⟩
              · have d1 : decide ((0 : Int) < cn) = false := by rw [decide_eq_false_iff_not]; omega
                have d2 : (cn == 0) = false := by rw [beq_eq_false_iff_ne]; omega
                clear hw
                go_wp2_with fail
                refine (HC.out _).mono ?_; rintro e w8 ⟨rfl, hE8, _⟩
                go_wp2_with fail
                go_roundw
                case rel => exact ⟨m + 1 + 1, by omega, by go_num, (hE3i.alloc _).trans hE8⟩
                case measure => simp [intOf]; omega
              · subst hw
                have d1 : decide (ty < pt) = false := by rw [decide_eq_false_iff_not]; omega
                have d2 : (pt == ty) = false := by rw [beq_eq_false_iff_ne]; omega
                clear ht
                go_wp2_with fail
                refine (HC.out _).mono ?_; rintro e w8 ⟨rfl, hE8, _⟩
                obtain ⟨u0, _, uz⟩ := ext_new hE8
                have u1 : w8.cell? ⟨wi.heap.size, 1, none⟩ = some (.int .u16 pt) := u0 1
                have t1 := (hE8.cell (p := ⟨wo.heap.size, 1, none⟩) (by simp; omega)).trans ((World.cell?_alloc_lt _ _ ⟨wo.heap.size, 1, none⟩ hxi).trans s1)
                clear u0
                go_wp2_with fail
                go_roundw
                case rel => exact ⟨m + 1 + 1, by omega, by go_num, (hE3i.alloc _).trans hE8⟩
                case measure => simp [intOf]; omega
              · subst hw
                subst ht
                have d1 : decide (pt < pt) = false := by simp
                have d2 : (pt == pt) = true := by simp
                have d3 : decide (cl ≤ pcl) = false := by rw [decide_eq_false_iff_not]; omega
                clear hc
                go_wp2_with fail
                refine (HC.out _).mono ?_; rintro e w8 ⟨rfl, hE8, _⟩
                obtain ⟨u0, _, uz⟩ := ext_new hE8
                have u1 : w8.cell? ⟨wi.heap.size, 1, none⟩ = some (.int .u16 pt) := u0 1
                have u2 : w8.cell? ⟨wi.heap.size, 2, none⟩ = some (.int .u16 pcl) := u0 2
                have t1 := (hE8.cell (p := ⟨wo.heap.size, 1, none⟩) (by simp; omega)).trans ((World.cell?_alloc_lt _ _ ⟨wo.heap.size, 1, none⟩ hxi).trans s1)
                have t2 := (hE8.cell (p := ⟨wo.heap.size, 2, none⟩) (by simp; omega)).trans ((World.cell?_alloc_lt _ _ ⟨wo.heap.size, 2, none⟩ hxi).trans s2)
                clear u0
                go_wp2_with fail
                go_roundw
                case rel => exact ⟨m + 1 + 1, by omega, by go_num, (hE3i.alloc _).trans hE8⟩
                case measure => simp [intOf]; omega
      · go_wp2_with fail
        go_ret
        exact ⟨rfl, hEw3.trans hE⟩
  · rw [hb] at HL
    clear hb
    go_enter Tryz.func5, Tryz.ntmps5
    go_wp2_with fail
    refine (HL.out _ (Ext.refl _)).mono ?_; rintro e w1 ⟨rfl, hE1⟩
    go_wp2_with fail
    refine (HA.out _ hE1).mono ?_; rintro e w2 ⟨rfl, hE2⟩
    go_wp2_with fail
    go_ret
    exact ⟨rfl, hE1.trans hE2⟩
end Go.Proofs.YthdlgmfeicikpaaGreatDoor
namespace Go.Proofs.YthdlgmfeicikpaaGreatDoor
set_option linter.unusedSimpArgs false
set_option linter.unusedVariables false
open Go.ChangeShapes Go.WideShapes Go.ChangeAt Go.RowKit
set_option maxRecDepth 100000

theorem rrsetRise_contract (H : Type) (enc : TypeId × Value → H) (W : World) (base : Nat) (args : Array Value) (ds gs : List (DataW H)) (before : List MemPlace)
    (hval : ∀ (j : Nat) t v, Tryz.f5.params[j]? = some t → args[j]? = some v → Value.okWide Tryz.prog W .any base t v)
    (hW : DataW.Whole enc Tryz.prog Tryz.f5.params.toList Rows.rrsetRiseSpec.vars false W args.toList ds gs before)
    (hsz : (DataW.weightsEach Tryz.prog (Tryz.f5.params.toList ++ (OpenSpec.ofChange Rows.rrsetRiseSpec).bare.plain.varTypes Tryz.prog) (ds ++ gs)).all (· ≤ reachBytes) = true)
    (hL : laidMetH Tryz.prog laidL W) :
    Calls Tryz.prog 5 args W fun e W' => ∃ v, e = .returned v ∧ Rows.rrsetRiseSpec.post enc Tryz.prog Tryz.f5 false true false false W args v W' := by
  have hW' := hW
  have hp : ∀ t ∈ Tryz.f5.params.toList, Tryz.prog.readableRec t = true ∧ t < Tryz.prog.types.size := by
    have h : (Tryz.f5.params.toList.all fun t => Tryz.prog.readableRec t && decide (t < Tryz.prog.types.size)) = true := by kernel_rfl
    simpa only [List.all_eq_true, Bool.and_eq_true, decide_eq_true_eq] using h
  have hg := laid_of hL
  obtain ⟨p, q, hA0, hV, rfl, _, _⟩ := hW
  have hA : DataW.TrodAll enc Tryz.prog W 0 (fun _ => true) true Tryz.f5.params.toList args.toList ds p := hA0
  clear hA0
  rw [Tryz.params5] at hA hval hsz
  obtain ⟨rfl, rfl⟩ := trodVars_none hV
  obtain ⟨v0, d0, rfl, rfl, h0⟩ := trodAll_one hA
  obtain ⟨l, hr, hlo⟩ := open_recsW (hval 0 _ _ rfl rfl) h0
  refine (law_rrsetRise v0 l W hg hr (fun r hr => ⟨reach_of hsz (j := 0) rfl rfl (hlo r hr).2.1, reach_of hsz (j := 0) rfl rfl (hlo r hr).2.2⟩) (fun r hr => (hlo r hr).1)).mono ?_
  rintro e W' ⟨rfl, hE⟩
  exact ⟨_, rfl, post_true laid_out rfl (by kernel_rfl) Tryz.underlying4 hp hW' rfl hE⟩

theorem rrsetRise_reads (os : Os) {H : Type} (enc : TypeId × Value → H) : ∃ places, DataW.whole enc Tryz.prog ((laidWorld os).forCall (fun _ _ => 0) ⟨#[], #[.slice none 0 0], []⟩).memory Tryz.f5.params.toList Rows.rrsetRiseSpec.vars false (#[.slice none 0 0] : Array Value).toList 8 = some ([.nil], [], places) :=
  ⟨[], by kernel_rfl⟩
theorem rrsetRise_lifted (os : Os) (started : os.Started) (H : Type) (enc : TypeId × Value → H) (F : Stop.Interp) :
    ReturnsInHanded {} Tryz.checked os 5 .any ((OpenSpec.ofChange Rows.rrsetRiseSpec).preRow enc Tryz.prog Tryz.f5 Rows.rrsetRiseRow.domain false Rows.rrsetRiseRow.laid) (((OpenSpec.ofChange Rows.rrsetRiseSpec).at F).post enc Tryz.prog Tryz.f5 false true false false) := by
  obtain ⟨places, hx⟩ := rrsetRise_reads os enc
  refine returnsInHanded_of_row (C := Tryz.checked) (s := OpenSpec.ofChange Rows.rrsetRiseSpec) own_knob started (by kernel_rfl) Tryz.func5
    (witness_row_at (enc := enc) (C := Tryz.checked) false (laidWorld os) #[.slice none 0 0] rfl (by kernel_rfl) (by kernel_rfl) (by kernel_rfl)
      (OpenSpec.preRow_of_cond 8 hx (by kernel_rfl) (fun k hk => by cases hk) (by kernel_rfl) (laid_met os _))) ?_
  intro W base args ds gs before hval hW _ _ hsz hL _ _
  exact rrsetRise_contract H enc W base args ds gs before hval hW hsz hL
theorem rrsetRise_said : Rows.RrsetRiseSaid :=
  OpenClaim.holds_of_cond 5 Tryz.f5 rfl rfl rfl rfl rfl rfl rfl ⟨rfl, rfl, rfl, rfl, rfl⟩ rfl rfl rfl rfl rfl (by kernel_rfl) Tryz.func5 (by kernel_rfl)
    (of_decide_eq_true (by kernel_rfl)) (by unfold Func.isWrapper; first | (rw [if_pos (by decide +kernel)]; kernel_rfl) | (rw [if_neg (by decide +kernel)]; exact ⟨rfl, rfl⟩))
    (fun os started H enc _ F => by rw [OpenClaim.pre_eq_preRow]; exact rrsetRise_lifted os started H enc F)
/-- THE CARD. -/
theorem rrsetRise_card : Rows.RrsetRiseCardSaid :=
  Claim7.holds_tied_plain_at .later [] _ _ _ _ rrsetRise_said (fun _ h => by cases h) (by kernel_rfl) (fun _ h => by cases h) rrsetRise_row_tie rfl ⟨rfl, rfl⟩ (by kernel_rfl) rfl
    (fun f fn hf hfn => by
      obtain rfl : f = 5 := Option.some.inj ((show Tryz.prog.funcNamed Rows.rrsetRiseRow.func = some 5 by kernel_rfl).symm.trans hf) |>.symm
      obtain rfl : fn = Tryz.f5 := (Option.some.inj (Tryz.func5.symm.trans hfn)).symm
      refine ⟨by kernel_rfl, fun j t ht => ?_⟩
      have h : (Tryz.f5.params.toList.all fun t => !Tryz.prog.wantsStandIn t) = true := by kernel_rfl
      have h2 := List.all_eq_true.1 h t (by simpa using Array.mem_of_getElem? ht)
      exact (by simpa using h2 : Tryz.prog.wantsStandIn t = false))
    (by kernel_rfl)
#print axioms rrsetRise_card
end Go.Proofs.YthdlgmfeicikpaaGreatDoor
