/- hustingslaw08.RrsetLeast returns true for every input, and every argument reads behind the call as it read before; the listed variable (errors.errorType) is tied to the program's text. No condition of ours. -/
import Derived.Test.YthdlgmfeicikpaaGreatDoorBm
import Derived.Test.YthdlgmfeicikpaaGreatDoorBo
import Derived.Test.YthdlgmfeicikpaaGreatDoorBq
import Derived.Test.YthdlgmfeicikpaaGreatDoorBn
import Derived.Test.YthdlgmfeicikpaaGreatDoorBg
namespace Go.Proofs.YthdlgmfeicikpaaGreatDoor
set_option linter.unusedSimpArgs false
set_option linter.unusedVariables false
open Go.RowKit
set_option maxRecDepth 100000

theorem recsOk8g {l : List RecD} (h : ∀ r ∈ l, RecOk r) : RecsOk l := fun r hr => ⟨(h r hr).2.2.1, (h r hr).2.2.2.1⟩
theorem least_step {l : List RecD} {s : SetD} {k : Nat} (h : k < l.length) (x : RecD) (hx : l[k] = x) (old : Int) (ho : leastTo l s k = old) : leastTo l s (k + 1) = if atS s x then min old (timeT x.ttl) else old := by
  rw [leastTo_step l s k h, hx, ho]

theorem u64_natm (x : Int) : ∃ U : Nat, IntKind.u64.wrap x = (U : Int) ∧ U < 18446744073709551616 := by
  have h1 : 0 ≤ IntKind.u64.wrap x := by show 0 ≤ x % _; exact Int.emod_nonneg _ (by decide)
  have h2 : IntKind.u64.wrap x < 18446744073709551616 := by show x % _ < _; exact Int.emod_lt_of_pos _ (by decide)
  exact ⟨(IntKind.u64.wrap x).toNat, by omega, by omega⟩
theorem u64_inm (n : Nat) (h : n < 18446744073709551616) : IntKind.u64.wrap (n : Int) = (n : Int) := by
  show (n : Int) % _ = _
  exact Int.emod_eq_of_lt (by omega) (by show (n : Int) < 18446744073709551616; omega)
theorem set_bdm {l : List RecD} (h : RecsBd l) (k : Nat) (hk : k < l.length) (t : Int) : RecsBd (l.set k (setTtl l[k] t)) := by
  refine ⟨by rw [List.length_set]; exact h.1, fun r hr => ?_⟩
  rcases List.mem_or_eq_of_mem_set hr with h1 | h1
  · exact h.2 r h1
  · subst h1; exact h.2 l[k] (List.getElem_mem hk)
theorem set_okm {l : List RecD} (h : RecsOk l) (k : Nat) (hk : k < l.length) (t : Int) : RecsOk (l.set k (setTtl l[k] t)) := fun r hr => by
  rcases List.mem_or_eq_of_mem_set hr with h1 | h1
  · exact h r h1
  · subst h1; exact h l[k] (List.getElem_mem hk)
theorem flat_setRm (ps : List RecD) (k : Nat) (p q : RecD) (j : Nat) (u : Value) (hp : ps[k]? = some p) (hj : j < 5) (hq : (recCells p).set j u = recCells q) : (ps.flatMap recCells).set (k * 5 + j) u = (ps.set k q).flatMap recCells := by
  induction ps generalizing k with
  | nil => simp at hp
  | cons a ps ih =>
    rcases k with _ | k
    · simp only [List.getElem?_cons_zero, Option.some.injEq] at hp
      subst hp
      simp only [Nat.zero_mul, Nat.zero_add, List.flatMap_cons, List.set_cons_zero]
      rw [List.set_append_left _ _ (by show j < 5; exact hj), hq]
    · simp only [List.getElem?_cons_succ] at hp
      simp only [List.flatMap_cons, List.set_cons_succ]
      rw [List.set_append_right _ _ (by show 5 ≤ _; omega)]
      have e : (k + 1) * 5 + j - (recCells a).length = k * 5 + j := by show (k + 1) * 5 + j - 5 = _; omega
      rw [e, ih k hp]

set_option maxHeartbeats 8000000 in
theorem law_rrsetLeast (v : Value) (l : List RecD) (wh tl : Int) (w : World) (hg : Laid w) (h : Recs w 0 v l) (hre : ∀ r ∈ l, RecRe r) (hok : ∀ r ∈ l, RecOk r)
    (hb1 : -9223372036854775808 ≤ wh) (hb2 : wh ≤ 9223372036854775807) (ha1 : 0 ≤ tl) (ha2 : tl ≤ 4294967295) :
    Calls Tryz.prog 6 #[v, .int .i64 wh, .int .u32 tl] w fun e w' => e = .returned (.bool true) ∧ Ext w w' := by
  have HL := Lib.hid (fun W (hW : Ext w W) => law_long 0 v l W (h.ext hW) hre)
  have HA := Lib.hid (fun W (hW : Ext w W) => law8_awake W (hg.ext hW))
  obtain ⟨A, c, rfl, h1, h2, hrd⟩ := h
  have h : Recs w 0 (.slice A l.length c) l := ⟨A, c, rfl, h1, h2, hrd⟩
  have Hh := Lib.hid h
  clear h
  unfold maxLen at h2
  rcases hb : longB l with _ | _
  rotate_left
  · rw [hb] at HL
    clear hb
    go_enter Tryz.func6, Tryz.ntmps6
    go_wp2_with fail
    refine (HL.out _ (Ext.refl _)).mono ?_; rintro e w1 ⟨rfl, hE1⟩
    go_wp2_with fail
    refine (HA.out _ hE1).mono ?_; rintro e w2 ⟨rfl, hE2⟩
    go_wp2_with fail
    go_ret
    exact ⟨rfl, hE1.trans hE2⟩
  rw [hb] at HL
  by_cases hl0 : l.length = 0
  · have hl1 : ((l.length : Int) == 0) = true := by rw [beq_iff_eq]; omega
    clear hb
    have Hl0 := Lib.hid hl0
    clear hl0
    go_enter Tryz.func6, Tryz.ntmps6
    go_wp2_with fail
    refine (HL.out _ (Ext.refl _)).mono ?_; rintro e w1 ⟨rfl, hE1⟩
    go_wp2_with fail
    refine (HA.out _ hE1).mono ?_; rintro e w2 ⟨rfl, hE2⟩
    go_wp2_with fail
    go_ret
    exact ⟨rfl, hE1.trans hE2⟩
  have hl1 : ((l.length : Int) == 0) = false := by rw [beq_eq_false_iff_ne]; omega
  have hsm := recs8 hb
  obtain ⟨U, hU, hU2⟩ := u64_natm wh
  have hll := u64_inm l.length (by omega)
  obtain ⟨r, hr⟩ : ∃ r, U % l.length = r := ⟨_, rfl⟩
  have hrl : r < l.length := by rw [← hr]; exact Nat.mod_lt _ (by omega)
  have e1 : (U : Int) % (l.length : Int) = (r : Int) := by rw [← hr]; rfl
  have hne0 : ¬ ((l.length : Int) = 0) := by omega
  clear hr
  have HLO := Lib.hid (least_other l r hrl tl)
  have HG2 := Lib.hid (fun W lo v' (hW : Ext w W) (hr' : Recs W lo v' (l.set r (setTtl l[r] tl))) => rrset_groupR lo v' _ W (hg.ext hW) hr' (set_bdm (recsBd8 hb) r hrl tl) (set_okm (recsOk8g hok) r hrl tl))
  have HG := Lib.hid (fun W (hW : Ext w W) => rrset_groupR 0 _ l W (hg.ext hW) (Hh.out.ext hW) (recsBd8 hb) (recsOk8g hok))
  have HP := Lib.hid (fun s (hs : s ∈ groupR l) => And.intro (group_small hsm hs) (least_end hs))
  have HB := Lib.hid (fun s => leastTo_bd l s (fun r hr => (hok r hr).2.2.2.2.1))
  have Hok := Lib.hid hok
  have Hsm := Lib.hid hsm.2
  have Hrd := Lib.hid hrd
  have hl200 : l.length < 200 := hsm.1
  generalize hsets : groupR l = sets at *
  have Hsets := Lib.hid hsets
  clear hb hsm hrd hsets hok
  go_enter Tryz.func6, Tryz.ntmps6
  go_wp2_with fail
  refine (HL.out _ (Ext.refl _)).mono ?_; rintro e w1 ⟨rfl, hE1⟩
  go_wp2_with fail
  refine (HA.out _ hE1).mono ?_; rintro e w2 ⟨rfl, hx2⟩
  have hE2 : Ext w w2 := hE1.trans hx2
  clear hx2 hE1
  go_wp2_with fail
  refine (HG.out _ hE2).mono ?_; rintro e w3 ⟨g3, rfl, ho3, hE3⟩
  have hEw3 := hE2.trans hE3
  obtain ⟨ps, gA, gc, hps, rfl, hgo, hgd⟩ := ho3
  have hgcap := hgo.cap
  unfold maxLen at hgcap
  have Hps := Lib.hid hps
  have Hgo := Lib.hid hgo
  have Hgd := Lib.hid hgd
  clear hps hgo hgd
  go_wp2_with fail
  go_loopw [8] (fun i wr => ∃ k : Nat, k ≤ ps.length ∧ i = .int .i64 k ∧ Ext w3 wr) (fun i _ => ps.length - (intOf i).toNat)
  case atStart => exact ⟨0, by omega, rfl, Ext.refl _⟩
  case round =>
    obtain ⟨k, hk, rfl, hE⟩ := hrel
    obtain ⟨wo, rfl⟩ : ∃ wo : World, wo = wr := ⟨_, rfl⟩
    by_cases hlt : k < ps.length
    · have hpk : ps[k]? = some ps[k] := List.getElem?_eq_getElem hlt
      have hpe : sets[k]? = some ps[k].1 := by rw [← Hps.out, List.getElem?_map, hpk]; rfl
      have hP := HP.out ps[k].1 (List.mem_of_getElem? hpe)
      generalize ps[k] = p at *
      obtain ⟨⟨nm, ty, cl, tt, da⟩, pv⟩ := p
      dsimp only at *
      obtain ⟨gq, rfl, _, hqz, _, hqc⟩ := Hgo.out.addr (by omega)
      have hcs := sets_cells (off := 0) (fun j u hu => by rw [Nat.zero_add]; exact hqc j u hu) k _ hpk
      simp only [Nat.zero_add] at hcs
      obtain ⟨z0, z1, z2, z3, z4⟩ := hcs
      have hki : (k : Int) < (ps.length : Int) := by omega
      have hk0 : (0 : Int) ≤ (k : Int) := by omega
      have hnm := hP.1.1
      have Hend := Lib.hid hP.2
      clear hqc hpk hpe hP
      go_wp2_with fail
      go_loopw [9, 10] (fun lv i wr => ∃ m : Nat, m ≤ l.length ∧ i = .int .i64 m ∧ lv = .int .u32 (leastTo l ⟨nm, ty, cl, tt, da⟩ m) ∧ Ext wo wr) (fun _ i _ => l.length - (intOf i).toNat)
      case atStart => exact ⟨0, by omega, rfl, rfl, Ext.refl _⟩
      case round =>
        obtain ⟨m, hm, rfl, rfl, hEr⟩ := hrel
        obtain ⟨wm, rfl⟩ : ∃ wm : World, wm = wr := ⟨_, rfl⟩
        have hE3m : Ext w3 wm := hE.trans hEr
        have hEwm : Ext w wm := hEw3.trans hE3m
        by_cases hml : m < l.length
        · obtain ⟨lst, hlst⟩ : ∃ lst, leastTo l ⟨nm, ty, cl, tt, da⟩ m = lst := ⟨_, rfl⟩
          obtain ⟨x, hx⟩ : ∃ x, l[m] = x := ⟨_, rfl⟩
          have HT := Lib.hid (least_step hml x hx lst hlst)
          have hlb := HB.out ⟨nm, ty, cl, tt, da⟩ m (by omega)
          rw [hlst] at hlb ⊢
          obtain ⟨b, bo, rfl, _, hbz, hc⟩ := Hrd.out.2 (by omega)
          have hcs := recs_cells hc m l[m] (List.getElem?_eq_getElem hml)
          have hxs := Hsm.out l[m] (List.getElem_mem hml)
          have hxo := (Hok.out l[m] (List.getElem_mem hml)).2.2.2.2
          rw [hx] at hcs hxs hxo
          clear hx hlst hc
          obtain ⟨xn, xt, xc, xl, xd⟩ := x
          dsimp only at *
          obtain ⟨x0, x1, x2, x3, x4⟩ := hcs
          have HS := Lib.hid (show ∀ V, Ext wm V → V.cell? ⟨b, bo + m * 5, none⟩ = some (S xn) ∧ V.cell? ⟨b, bo + m * 5 + 1, none⟩ = some (.int .u16 xt) ∧ V.cell? ⟨b, bo + m * 5 + 2, none⟩ = some (.int .u16 xc) ∧ V.cell? ⟨b, bo + m * 5 + 3, none⟩ = some (.int .u32 xl) ∧ V.cell? ⟨b, bo + m * 5 + 4, none⟩ = some (S xd) ∧ V.cell? ⟨gq, k * 5, none⟩ = some (S nm) ∧ V.cell? ⟨gq, k * 5 + 1, none⟩ = some (.int .u16 ty) ∧ V.cell? ⟨gq, k * 5 + 2, none⟩ = some (.int .u16 cl) from fun V hV => ⟨((hEwm.trans hV).cell (p := ⟨b, bo + m * 5, none⟩) hbz).trans x0, ((hEwm.trans hV).cell (p := ⟨b, bo + m * 5 + 1, none⟩) hbz).trans x1, ((hEwm.trans hV).cell (p := ⟨b, bo + m * 5 + 2, none⟩) hbz).trans x2, ((hEwm.trans hV).cell (p := ⟨b, bo + m * 5 + 3, none⟩) hbz).trans x3, ((hEwm.trans hV).cell (p := ⟨b, bo + m * 5 + 4, none⟩) hbz).trans x4, ((hE3m.trans hV).cell (p := ⟨gq, k * 5, none⟩) hqz).trans z0, ((hE3m.trans hV).cell (p := ⟨gq, k * 5 + 1, none⟩) hqz).trans z1, ((hE3m.trans hV).cell (p := ⟨gq, k * 5 + 2, none⟩) hqz).trans z2⟩)
          have hmi : (m : Int) < (l.length : Int) := by omega
          have hm0 : (0 : Int) ≤ (m : Int) := by omega
          rcases hox : okRec ⟨xn, xt, xc, xl, xd⟩ with _ | _
          · have Hf := Lib.hid (show atS ⟨nm, ty, cl, tt, da⟩ ⟨xn, xt, xc, xl, xd⟩ = false by unfold atS; rw [hox]; rfl)
            as_aux_lemma =>
              go_wp2_with fail
              refine wp_region_noPanic ?_
              refine wp_region_seq (S := (fun V => V.cell? ⟨b, bo + m * 5, none⟩ = some (S xn) ∧ V.cell? ⟨b, bo + m * 5 + 1, none⟩ = some (.int .u16 xt) ∧ V.cell? ⟨b, bo + m * 5 + 2, none⟩ = some (.int .u16 xc) ∧ V.cell? ⟨b, bo + m * 5 + 3, none⟩ = some (.int .u32 xl) ∧ V.cell? ⟨b, bo + m * 5 + 4, none⟩ = some (S xd) ∧ V.cell? ⟨gq, k * 5, none⟩ = some (S nm) ∧ V.cell? ⟨gq, k * 5 + 1, none⟩ = some (.int .u16 ty) ∧ V.cell? ⟨gq, k * 5 + 2, none⟩ = some (.int .u16 cl))) [(0, true), (1, true), (2, true), (3, true), (4, false), (5, true), (6, true), (7, true), (8, true), (9, true), (10, true), (11, true), (12, true), (13, true), (14, true), (15, true), (16, true), (17, true), (18, true), (19, true), (20, true), (21, true), (22, true), (23, true), (24, true), (25, true), (26, true), (27, true), (28, true), (29, true), (30, true), (31, true), (32, true), (33, true), (34, true), (35, true), (36, true), (37, true), (38, true), (39, true), (40, true), (41, true), (42, true), (43, true)] (by kernel_rfl) (by kernel_rfl) (fun _ _ _ _ _ h => h) (HS.out _ ((Ext.refl wm).drew)) ?_
              repeat ((with_reducible refine heldIs ?_); first
                | (refine heldTake (v := ?_) (by rfl) (by rfl) ?_ ?_; rotate_left; (focus (intro V hV; (try dsimp only at hV); (go_simp <;> with_reducible rfl))); (try simp only [Act.put, List.setIfInBounds_toArray, List.set_cons_zero, List.set_cons_succ]))
                | (refine heldSkip (by rfl) (by rfl) ?_; (try simp only [Act.put, List.setIfInBounds_toArray, List.set_cons_zero, List.set_cons_succ])))
              refine heldRun (by rfl) (fun K hK => ?_)
              go_simp
              refine (law8_may ⟨xn, xt, xc, xl, xd⟩ _ (hg.ext (hEwm.drew)) (by dsimp only; omega) (by dsimp only; omega)).mono ?_; rintro e w7 ⟨rfl, hE7⟩; rw [hox]
              refine hK.out _ _ ?_ ?_
              · exact HS.out _ (Ext.trans ((Ext.refl wm).drew) hE7)
              clear hK K
              (try simp only [Act.put, List.setIfInBounds_toArray, List.set_cons_zero, List.set_cons_succ])
              repeat ((with_reducible refine heldIs ?_); first
                | (refine heldTake (v := ?_) (by rfl) (by rfl) ?_ ?_; rotate_left; (focus (intro V hV; (try dsimp only at hV); (go_simp <;> with_reducible rfl))); (try simp only [Act.put, List.setIfInBounds_toArray, List.set_cons_zero, List.set_cons_succ]))
                | (refine heldSkip (by rfl) (by rfl) ?_; (try simp only [Act.put, List.setIfInBounds_toArray, List.set_cons_zero, List.set_cons_succ])))
              refine heldDone ?_
              refine NoPanic.normal ?_
              go_wp2_with fail
              go_roundw
              case rel => exact ⟨m + 1, by omega, by go_num, by rw [HT.out, Hf.out]; rfl, hEr.trans (Ext.trans ((Ext.refl wm).drew) hE7)⟩
              case measure => simp [intOf]; omega
          · rcases hsx : sameN xn nm with _ | _
            · have Hf := Lib.hid (show atS ⟨nm, ty, cl, tt, da⟩ ⟨xn, xt, xc, xl, xd⟩ = false by unfold atS; rw [hox]; dsimp only; rw [hsx]; rfl)
              as_aux_lemma =>
                go_wp2_with fail
                refine wp_region_noPanic ?_
                refine wp_region_seq (S := (fun V => V.cell? ⟨b, bo + m * 5, none⟩ = some (S xn) ∧ V.cell? ⟨b, bo + m * 5 + 1, none⟩ = some (.int .u16 xt) ∧ V.cell? ⟨b, bo + m * 5 + 2, none⟩ = some (.int .u16 xc) ∧ V.cell? ⟨b, bo + m * 5 + 3, none⟩ = some (.int .u32 xl) ∧ V.cell? ⟨b, bo + m * 5 + 4, none⟩ = some (S xd) ∧ V.cell? ⟨gq, k * 5, none⟩ = some (S nm) ∧ V.cell? ⟨gq, k * 5 + 1, none⟩ = some (.int .u16 ty) ∧ V.cell? ⟨gq, k * 5 + 2, none⟩ = some (.int .u16 cl))) [(0, true), (1, true), (2, true), (3, true), (4, false), (5, true), (6, true), (7, true), (8, true), (9, true), (10, true), (11, true), (12, true), (13, true), (14, true), (15, true), (16, false), (17, true), (18, true), (19, true), (20, true), (21, true), (22, true), (23, true), (24, true), (25, true), (26, true), (27, true), (28, true), (29, true), (30, true), (31, true), (32, true), (33, true), (34, true), (35, true), (36, true), (37, true), (38, true), (39, true), (40, true), (41, true), (42, true), (43, true)] (by kernel_rfl) (by kernel_rfl) (fun _ _ _ _ _ h => h) (HS.out _ ((Ext.refl wm).drew)) ?_
                repeat ((with_reducible refine heldIs ?_); first
                  | (refine heldTake (v := ?_) (by rfl) (by rfl) ?_ ?_; rotate_left; (focus (intro V hV; (try dsimp only at hV); (go_simp <;> with_reducible rfl))); (try simp only [Act.put, List.setIfInBounds_toArray, List.set_cons_zero, List.set_cons_succ]))
                  | (refine heldSkip (by rfl) (by rfl) ?_; (try simp only [Act.put, List.setIfInBounds_toArray, List.set_cons_zero, List.set_cons_succ])))
                refine heldRun (by rfl) (fun K hK => ?_)
                go_simp
                refine (law8_may ⟨xn, xt, xc, xl, xd⟩ _ (hg.ext (hEwm.drew)) (by dsimp only; omega) (by dsimp only; omega)).mono ?_; rintro e w7 ⟨rfl, hE7⟩; rw [hox]
                refine hK.out _ _ ?_ ?_
                · exact HS.out _ (Ext.trans ((Ext.refl wm).drew) hE7)
                clear hK K
                (try simp only [Act.put, List.setIfInBounds_toArray, List.set_cons_zero, List.set_cons_succ])
                repeat ((with_reducible refine heldIs ?_); first
                  | (refine heldTake (v := ?_) (by rfl) (by rfl) ?_ ?_; rotate_left; (focus (intro V hV; (try dsimp only at hV); (go_simp <;> with_reducible rfl))); (try simp only [Act.put, List.setIfInBounds_toArray, List.set_cons_zero, List.set_cons_succ]))
                  | (refine heldSkip (by rfl) (by rfl) ?_; (try simp only [Act.put, List.setIfInBounds_toArray, List.set_cons_zero, List.set_cons_succ])))
                refine heldRun (by rfl) (fun K hK => ?_)
                go_simp
                refine (name_same xn nm _ (by unfold maxLen; omega) (by unfold maxLen; omega)).mono ?_; rintro e w8 ⟨rfl, hE8⟩; rw [hsx]
                refine hK.out _ _ ?_ ?_
                · exact HS.out _ (Ext.trans (Ext.trans ((Ext.refl wm).drew) hE7) hE8)
                clear hK K
                (try simp only [Act.put, List.setIfInBounds_toArray, List.set_cons_zero, List.set_cons_succ])
                repeat ((with_reducible refine heldIs ?_); first
                  | (refine heldTake (v := ?_) (by rfl) (by rfl) ?_ ?_; rotate_left; (focus (intro V hV; (try dsimp only at hV); (go_simp <;> with_reducible rfl))); (try simp only [Act.put, List.setIfInBounds_toArray, List.set_cons_zero, List.set_cons_succ]))
                  | (refine heldSkip (by rfl) (by rfl) ?_; (try simp only [Act.put, List.setIfInBounds_toArray, List.set_cons_zero, List.set_cons_succ])))
                refine heldDone ?_
                refine NoPanic.normal ?_
                go_wp2_with fail
                go_roundw
                case rel => exact ⟨m + 1, by omega, by go_num, by rw [HT.out, Hf.out]; rfl, hEr.trans (Ext.trans (Ext.trans ((Ext.refl wm).drew) hE7) hE8)⟩
                case measure => simp [intOf]; omega
            · by_cases htx : xt = ty
              · subst htx
                have t1 : (xt == xt) = true := by simp
                by_cases hcx : xc = cl
                · subst hcx
                  have Hf := Lib.hid (show atS ⟨nm, xt, xc, tt, da⟩ ⟨xn, xt, xc, xl, xd⟩ = true by unfold atS; rw [hox]; dsimp only; rw [hsx]; simp)
                  have t2 : (xc == xc) = true := by simp
                  as_aux_lemma =>
                    go_wp2_with fail
                    refine wp_region_noPanic ?_
                    refine wp_region_seq (S := (fun V => V.cell? ⟨b, bo + m * 5, none⟩ = some (S xn) ∧ V.cell? ⟨b, bo + m * 5 + 1, none⟩ = some (.int .u16 xt) ∧ V.cell? ⟨b, bo + m * 5 + 2, none⟩ = some (.int .u16 xc) ∧ V.cell? ⟨b, bo + m * 5 + 3, none⟩ = some (.int .u32 xl) ∧ V.cell? ⟨b, bo + m * 5 + 4, none⟩ = some (S xd) ∧ V.cell? ⟨gq, k * 5, none⟩ = some (S nm) ∧ V.cell? ⟨gq, k * 5 + 1, none⟩ = some (.int .u16 xt) ∧ V.cell? ⟨gq, k * 5 + 2, none⟩ = some (.int .u16 xc))) [(0, true), (1, true), (2, true), (3, true), (4, false), (5, true), (6, true), (7, true), (8, true), (9, true), (10, true), (11, true), (12, true), (13, true), (14, true), (15, true), (16, false), (17, true), (18, true), (19, true), (20, true), (21, true), (22, true), (23, true), (24, true), (25, true), (26, true), (27, true), (28, true), (29, true), (30, true), (31, true), (32, true), (33, true), (34, true), (35, true), (36, true), (37, true), (38, true), (39, true), (40, true), (41, true), (42, true), (43, true)] (by kernel_rfl) (by kernel_rfl) (fun _ _ _ _ _ h => h) (HS.out _ ((Ext.refl wm).drew)) ?_
                    repeat ((with_reducible refine heldIs ?_); first
                      | (refine heldTake (v := ?_) (by rfl) (by rfl) ?_ ?_; rotate_left; (focus (intro V hV; (try dsimp only at hV); (go_simp <;> with_reducible rfl))); (try simp only [Act.put, List.setIfInBounds_toArray, List.set_cons_zero, List.set_cons_succ]))
                      | (refine heldSkip (by rfl) (by rfl) ?_; (try simp only [Act.put, List.setIfInBounds_toArray, List.set_cons_zero, List.set_cons_succ])))
                    refine heldRun (by rfl) (fun K hK => ?_)
                    go_simp
                    refine (law8_may ⟨xn, xt, xc, xl, xd⟩ _ (hg.ext (hEwm.drew)) (by dsimp only; omega) (by dsimp only; omega)).mono ?_; rintro e w7 ⟨rfl, hE7⟩; rw [hox]
                    refine hK.out _ _ ?_ ?_
                    · exact HS.out _ (Ext.trans ((Ext.refl wm).drew) hE7)
                    clear hK K
                    (try simp only [Act.put, List.setIfInBounds_toArray, List.set_cons_zero, List.set_cons_succ])
                    repeat ((with_reducible refine heldIs ?_); first
                      | (refine heldTake (v := ?_) (by rfl) (by rfl) ?_ ?_; rotate_left; (focus (intro V hV; (try dsimp only at hV); (go_simp <;> with_reducible rfl))); (try simp only [Act.put, List.setIfInBounds_toArray, List.set_cons_zero, List.set_cons_succ]))
                      | (refine heldSkip (by rfl) (by rfl) ?_; (try simp only [Act.put, List.setIfInBounds_toArray, List.set_cons_zero, List.set_cons_succ])))
                    refine heldRun (by rfl) (fun K hK => ?_)
                    go_simp
                    refine (name_same xn nm _ (by unfold maxLen; omega) (by unfold maxLen; omega)).mono ?_; rintro e w8 ⟨rfl, hE8⟩; rw [hsx]
                    refine hK.out _ _ ?_ ?_
                    · exact HS.out _ (Ext.trans (Ext.trans ((Ext.refl wm).drew) hE7) hE8)
                    clear hK K
                    (try simp only [Act.put, List.setIfInBounds_toArray, List.set_cons_zero, List.set_cons_succ])
                    repeat ((with_reducible refine heldIs ?_); first
                      | (refine heldTake (v := ?_) (by rfl) (by rfl) ?_ ?_; rotate_left; (focus (intro V hV; (try dsimp only at hV); (go_simp <;> with_reducible rfl))); (try simp only [Act.put, List.setIfInBounds_toArray, List.set_cons_zero, List.set_cons_succ]))
                      | (refine heldSkip (by rfl) (by rfl) ?_; (try simp only [Act.put, List.setIfInBounds_toArray, List.set_cons_zero, List.set_cons_succ])))
                    refine heldDone ?_
                    refine NoPanic.normal ?_
                    have hE9 := (Ext.trans (Ext.trans ((Ext.refl wm).drew) hE7) hE8)
                    have u3 := ((hEwm.trans hE9).cell (p := ⟨b, bo + m * 5 + 3, none⟩) hbz).trans x3
                    by_cases htl : (2147483647 : Int) < xl
                    · have HV := Lib.hid (show timeT xl = 0 by unfold timeT; rw [if_pos (by omega)])
                      have hmin : min lst 0 = 0 := by omega
                      go_wp2_with fail
                      go_roundw
                      case rel => exact ⟨m + 1, by omega, by go_num, by rw [HT.out, Hf.out]; simp only [HV.out]; first | rfl | (simp; omega), hEr.trans hE9⟩
                      case measure => simp [intOf]; omega
                    · have HV := Lib.hid (show timeT xl = xl by unfold timeT; rw [if_neg (by omega)])
                      have htd : decide ((2147483647 : Int) < xl) = false := by simpa using htl
                      go_wp2_with fail
                      go_roundw
                      case rel => exact ⟨m + 1, by omega, by go_num, by rw [HT.out, Hf.out]; simp only [HV.out]; rfl, hEr.trans hE9⟩
                      case measure => simp [intOf]; omega
                · have Hf := Lib.hid (show atS ⟨nm, xt, cl, tt, da⟩ ⟨xn, xt, xc, xl, xd⟩ = false by unfold atS; dsimp only; simp [hcx])
                  have t2 : (xc == cl) = false := by rw [beq_eq_false_iff_ne]; exact hcx
                  clear hcx
                  as_aux_lemma =>
                    go_wp2_with fail
                    refine wp_region_noPanic ?_
                    refine wp_region_seq (S := (fun V => V.cell? ⟨b, bo + m * 5, none⟩ = some (S xn) ∧ V.cell? ⟨b, bo + m * 5 + 1, none⟩ = some (.int .u16 xt) ∧ V.cell? ⟨b, bo + m * 5 + 2, none⟩ = some (.int .u16 xc) ∧ V.cell? ⟨b, bo + m * 5 + 3, none⟩ = some (.int .u32 xl) ∧ V.cell? ⟨b, bo + m * 5 + 4, none⟩ = some (S xd) ∧ V.cell? ⟨gq, k * 5, none⟩ = some (S nm) ∧ V.cell? ⟨gq, k * 5 + 1, none⟩ = some (.int .u16 xt) ∧ V.cell? ⟨gq, k * 5 + 2, none⟩ = some (.int .u16 cl))) [(0, true), (1, true), (2, true), (3, true), (4, false), (5, true), (6, true), (7, true), (8, true), (9, true), (10, true), (11, true), (12, true), (13, true), (14, true), (15, true), (16, false), (17, true), (18, true), (19, true), (20, true), (21, true), (22, true), (23, true), (24, true), (25, true), (26, true), (27, true), (28, true), (29, true), (30, true), (31, true), (32, true), (33, true), (34, true), (35, true), (36, true), (37, true), (38, true), (39, true), (40, true), (41, true), (42, true), (43, true)] (by kernel_rfl) (by kernel_rfl) (fun _ _ _ _ _ h => h) (HS.out _ ((Ext.refl wm).drew)) ?_
                    repeat ((with_reducible refine heldIs ?_); first
                      | (refine heldTake (v := ?_) (by rfl) (by rfl) ?_ ?_; rotate_left; (focus (intro V hV; (try dsimp only at hV); (go_simp <;> with_reducible rfl))); (try simp only [Act.put, List.setIfInBounds_toArray, List.set_cons_zero, List.set_cons_succ]))
                      | (refine heldSkip (by rfl) (by rfl) ?_; (try simp only [Act.put, List.setIfInBounds_toArray, List.set_cons_zero, List.set_cons_succ])))
                    refine heldRun (by rfl) (fun K hK => ?_)
                    go_simp
                    refine (law8_may ⟨xn, xt, xc, xl, xd⟩ _ (hg.ext (hEwm.drew)) (by dsimp only; omega) (by dsimp only; omega)).mono ?_; rintro e w7 ⟨rfl, hE7⟩; rw [hox]
                    refine hK.out _ _ ?_ ?_
                    · exact HS.out _ (Ext.trans ((Ext.refl wm).drew) hE7)
                    clear hK K
                    (try simp only [Act.put, List.setIfInBounds_toArray, List.set_cons_zero, List.set_cons_succ])
                    repeat ((with_reducible refine heldIs ?_); first
                      | (refine heldTake (v := ?_) (by rfl) (by rfl) ?_ ?_; rotate_left; (focus (intro V hV; (try dsimp only at hV); (go_simp <;> with_reducible rfl))); (try simp only [Act.put, List.setIfInBounds_toArray, List.set_cons_zero, List.set_cons_succ]))
                      | (refine heldSkip (by rfl) (by rfl) ?_; (try simp only [Act.put, List.setIfInBounds_toArray, List.set_cons_zero, List.set_cons_succ])))
                    refine heldRun (by rfl) (fun K hK => ?_)
                    go_simp
                    refine (name_same xn nm _ (by unfold maxLen; omega) (by unfold maxLen; omega)).mono ?_; rintro e w8 ⟨rfl, hE8⟩; rw [hsx]
                    refine hK.out _ _ ?_ ?_
                    · exact HS.out _ (Ext.trans (Ext.trans ((Ext.refl wm).drew) hE7) hE8)
                    clear hK K
                    (try simp only [Act.put, List.setIfInBounds_toArray, List.set_cons_zero, List.set_cons_succ])
                    repeat ((with_reducible refine heldIs ?_); first
                      | (refine heldTake (v := ?_) (by rfl) (by rfl) ?_ ?_; rotate_left; (focus (intro V hV; (try dsimp only at hV); (go_simp <;> with_reducible rfl))); (try simp only [Act.put, List.setIfInBounds_toArray, List.set_cons_zero, List.set_cons_succ]))
                      | (refine heldSkip (by rfl) (by rfl) ?_; (try simp only [Act.put, List.setIfInBounds_toArray, List.set_cons_zero, List.set_cons_succ])))
                    refine heldDone ?_
                    refine NoPanic.normal ?_
                    go_wp2_with fail
                    go_roundw
                    case rel => exact ⟨m + 1, by omega, by go_num, by rw [HT.out, Hf.out]; rfl, hEr.trans (Ext.trans (Ext.trans ((Ext.refl wm).drew) hE7) hE8)⟩
                    case measure => simp [intOf]; omega
              · have Hf := Lib.hid (show atS ⟨nm, ty, cl, tt, da⟩ ⟨xn, xt, xc, xl, xd⟩ = false by unfold atS; dsimp only; simp [htx])
                have t1 : (xt == ty) = false := by rw [beq_eq_false_iff_ne]; exact htx
                clear htx
                as_aux_lemma =>
                  go_wp2_with fail
                  refine wp_region_noPanic ?_
                  refine wp_region_seq (S := (fun V => V.cell? ⟨b, bo + m * 5, none⟩ = some (S xn) ∧ V.cell? ⟨b, bo + m * 5 + 1, none⟩ = some (.int .u16 xt) ∧ V.cell? ⟨b, bo + m * 5 + 2, none⟩ = some (.int .u16 xc) ∧ V.cell? ⟨b, bo + m * 5 + 3, none⟩ = some (.int .u32 xl) ∧ V.cell? ⟨b, bo + m * 5 + 4, none⟩ = some (S xd) ∧ V.cell? ⟨gq, k * 5, none⟩ = some (S nm) ∧ V.cell? ⟨gq, k * 5 + 1, none⟩ = some (.int .u16 ty) ∧ V.cell? ⟨gq, k * 5 + 2, none⟩ = some (.int .u16 cl))) [(0, true), (1, true), (2, true), (3, true), (4, false), (5, true), (6, true), (7, true), (8, true), (9, true), (10, true), (11, true), (12, true), (13, true), (14, true), (15, true), (16, false), (17, true), (18, true), (19, true), (20, true), (21, true), (22, true), (23, true), (24, true), (25, true), (26, true), (27, true), (28, true), (29, true), (30, true), (31, true), (32, true), (33, true), (34, true), (35, true), (36, true), (37, true), (38, true), (39, true), (40, true), (41, true), (42, true), (43, true)] (by kernel_rfl) (by kernel_rfl) (fun _ _ _ _ _ h => h) (HS.out _ ((Ext.refl wm).drew)) ?_
                  repeat ((with_reducible refine heldIs ?_); first
                    | (refine heldTake (v := ?_) (by rfl) (by rfl) ?_ ?_; rotate_left; (focus (intro V hV; (try dsimp only at hV); (go_simp <;> with_reducible rfl))); (try simp only [Act.put, List.setIfInBounds_toArray, List.set_cons_zero, List.set_cons_succ]))
                    | (refine heldSkip (by rfl) (by rfl) ?_; (try simp only [Act.put, List.setIfInBounds_toArray, List.set_cons_zero, List.set_cons_succ])))
                  refine heldRun (by rfl) (fun K hK => ?_)
                  go_simp
                  refine (law8_may ⟨xn, xt, xc, xl, xd⟩ _ (hg.ext (hEwm.drew)) (by dsimp only; omega) (by dsimp only; omega)).mono ?_; rintro e w7 ⟨rfl, hE7⟩; rw [hox]
                  refine hK.out _ _ ?_ ?_
                  · exact HS.out _ (Ext.trans ((Ext.refl wm).drew) hE7)
                  clear hK K
                  (try simp only [Act.put, List.setIfInBounds_toArray, List.set_cons_zero, List.set_cons_succ])
                  repeat ((with_reducible refine heldIs ?_); first
                    | (refine heldTake (v := ?_) (by rfl) (by rfl) ?_ ?_; rotate_left; (focus (intro V hV; (try dsimp only at hV); (go_simp <;> with_reducible rfl))); (try simp only [Act.put, List.setIfInBounds_toArray, List.set_cons_zero, List.set_cons_succ]))
                    | (refine heldSkip (by rfl) (by rfl) ?_; (try simp only [Act.put, List.setIfInBounds_toArray, List.set_cons_zero, List.set_cons_succ])))
                  refine heldRun (by rfl) (fun K hK => ?_)
                  go_simp
                  refine (name_same xn nm _ (by unfold maxLen; omega) (by unfold maxLen; omega)).mono ?_; rintro e w8 ⟨rfl, hE8⟩; rw [hsx]
                  refine hK.out _ _ ?_ ?_
                  · exact HS.out _ (Ext.trans (Ext.trans ((Ext.refl wm).drew) hE7) hE8)
                  clear hK K
                  (try simp only [Act.put, List.setIfInBounds_toArray, List.set_cons_zero, List.set_cons_succ])
                  repeat ((with_reducible refine heldIs ?_); first
                    | (refine heldTake (v := ?_) (by rfl) (by rfl) ?_ ?_; rotate_left; (focus (intro V hV; (try dsimp only at hV); (go_simp <;> with_reducible rfl))); (try simp only [Act.put, List.setIfInBounds_toArray, List.set_cons_zero, List.set_cons_succ]))
                    | (refine heldSkip (by rfl) (by rfl) ?_; (try simp only [Act.put, List.setIfInBounds_toArray, List.set_cons_zero, List.set_cons_succ])))
                  refine heldDone ?_
                  refine NoPanic.normal ?_
                  go_wp2_with fail
                  go_roundw
                  case rel => exact ⟨m + 1, by omega, by go_num, by rw [HT.out, Hf.out]; rfl, hEr.trans (Ext.trans (Ext.trans ((Ext.refl wm).drew) hE7) hE8)⟩
                  case measure => simp [intOf]; omega
        · obtain rfl : m = l.length := by omega
          rw [Hend.out]
          have y3 := (hE3m.cell (p := ⟨gq, k * 5 + 3, none⟩) hqz).trans z3
          have hne : (tt != tt) = false := by simp
          go_wp2_with fail
          go_roundw
          case rel => exact ⟨k + 1, by omega, by go_num, hE3m⟩
          case measure => simp [intOf]; omega
    · have hEwo : Ext w wo := hEw3.trans hE
      have hgen : ∃ m, l.set r (setTtl l[r] tl) = m := ⟨_, rfl⟩
      have Hxr := Lib.hid (Hsm.out l[r] (List.getElem_mem hrl))
      obtain ⟨i0, hi0, hz0, hz1, hz2⟩ := info_parts info_rec8
      obtain ⟨b, bo, rfl, _, hbz, hc⟩ := Hrd.out.2 (by omega)
      obtain ⟨x0, x1, x2, x3, x4⟩ := recs_cells hc r l[r] (List.getElem?_eq_getElem hrl)
      have hri : (r : Int) < (l.length : Int) := by omega
      have hr0 : (0 : Int) ≤ (r : Int) := by omega
      have HFS := Lib.hid (flat_setRm l r l[r] (setTtl l[r] tl) 3 (.int .u32 tl) (List.getElem?_eq_getElem hrl) (by omega) rfl)
      have HFG := Lib.hid (flat_get recCells 5 (fun _ => rfl) l r 3 l[r] (List.getElem?_eq_getElem hrl) (by omega))
      clear hc
      generalize l[r] = x at *
      obtain ⟨xn, xt, xc, xl, xd⟩ := x
      dsimp only at *
      go_wp2_with (first
        | (at_builtin
           refine wpList_app _ rfl (.tmp 105) (.tmp 106) _ rfl wo.heap.size 38 i0 _ 5 40 Tryz.underlying34 hi0 hz0 hz1 hz2 rfl (by omega) (some ⟨wo.heap.size, 0, none⟩) 0 0 [] rfl (own_zero wo 38 5) 0 (some ⟨b, bo, none⟩) l.length c (l.flatMap recCells) rfl (Hrd.out.ext (hEwo.alloc _)) (recs_one8 l) (by omega) (by omega) (by simp) ?_
           intro A5 c5 w5 hown5 hg5 hb5 hat5
           rw [Nat.zero_add, List.nil_append] at hown5
           obtain ⟨g, rfl, hgl, hgz, hgf, hgc⟩ := hown5.addr (by omega)
           have cT : w5.cell? ⟨g, r * 5 + 3, none⟩ = some (.int .u32 xl) := hgc (r * 5 + 3) _ HFG.out
           have fT := hgf (r * 5 + 3)
           have hE5 : Ext wo w5 := ((Ext.refl wo).alloc _).then hb5 (Nat.le_refl _)
           clear hgf hgc hg5 hb5 hat5))
      have hown7 := hown5.stored (r * 5 + 3) (.int .u32 tl) (by omega)
      rw [HFS.out] at hown7
      have hE7 : Ext wo (w5.setCell ⟨g, r * 5 + 3, none⟩ (.int .u32 tl)) := hE5.setCell (show wo.heap.size ≤ g from hgl) _
      have hr7 : Recs (w5.setCell ⟨g, r * 5 + 3, none⟩ (.int .u32 tl)) wo.heap.size (.slice (some ⟨g, 0, none⟩) l.length c5) (l.set r (setTtl ⟨xn, xt, xc, xl, xd⟩ tl)) := ⟨_, c5, by rw [List.length_set], by rw [List.length_set]; exact hown7.cap.1, hown7.cap.2, by rw [List.length_set]; exact hown7.rd⟩
      refine (HG2.out _ _ _ (hEwo.trans hE7) hr7).mono ?_; rintro e w6 ⟨g6, rfl, ho6, hE6⟩
      generalize groupR (l.set r (setTtl ⟨xn, xt, xc, xl, xd⟩ tl)) = sets2 at *
      have hE36 : Ext w3 w6 := (hE.trans hE7).trans hE6
      obtain ⟨ps2, gA2, gc2, hps2, rfl, hgo2, hgd2⟩ := ho6
      have hlen2 : ps2.length = ps.length := by
        have h1 : ps2.length = sets2.length := by rw [← hps2]; simp
        have h2 : ps.length = sets.length := by rw [← Hps.out]; simp
        rw [h1, h2]; exact HLO.out.1
      have hlb : ((ps2.length : Int) != (ps.length : Int)) = false := by rw [hlen2]; simp
      have hcap2 := hgo2.cap
      unfold maxLen at hcap2
      have Hlen2 := Lib.hid hlen2
      have Hps2 := Lib.hid hps2
      have Hgo2 := Lib.hid hgo2
      have Hgd2 := Lib.hid hgd2
      have hxs := Hxr.out
      clear hlen2 hps2 hgo2 hgd2 cT fT hown5 hown7 hr7 hgz
      go_wp2_with fail
      go_loopw [15] (fun i wr => ∃ k : Nat, k ≤ ps.length ∧ i = .int .i64 k ∧ Ext w6 wr) (fun i _ => ps.length - (intOf i).toNat)
      case atStart => exact ⟨0, by omega, rfl, Ext.refl _⟩
      case round =>
        obtain ⟨q, hq, rfl, hEq⟩ := hrel
        obtain ⟨wq, rfl⟩ : ∃ wq : World, wq = wr := ⟨_, rfl⟩
        by_cases hql : q < ps.length
        · have hpk : ps[q]? = some ps[q] := List.getElem?_eq_getElem hql
          have hpe : sets[q]? = some ps[q].1 := by rw [← Hps.out, List.getElem?_map, hpk]; rfl
          obtain ⟨s2, hs2, hst, hso⟩ := HLO.out.2 q _ hpe
          have hql2 : q < ps2.length := by rw [Hlen2.out]; exact hql
          have hpk2 : ps2[q]? = some ps2[q] := List.getElem?_eq_getElem hql2
          have hpe2 : ps2[q].1 = s2 := by
            have h1 : sets2[q]? = some ps2[q].1 := by rw [← Hps2.out, List.getElem?_map, hpk2]; rfl
            exact Option.some.inj (h1.symm.trans hs2)
          have hd1 := (Hgd.out ps[q] (List.getElem_mem hql)).strs
          have hd2 := (Hgd2.out ps2[q] (List.getElem_mem hql2)).strs
          have hP := (HP.out ps[q].1 (List.mem_of_getElem? hpe)).1.1
          generalize ps[q] = p1 at *
          generalize ps2[q] = p2 at *
          obtain ⟨⟨nm, ty, cl, tt, da⟩, pv⟩ := p1
          obtain ⟨⟨n2, t2, c2, tt2, d2⟩, pv2⟩ := p2
          dsimp only at *
          subst hpe2
          unfold ttlS at hst
          dsimp only at hst hso hd1 hd2
          simp only [SetD.mk.injEq, true_and] at hst
          obtain ⟨q1, q2, q3, q4⟩ := hst
          subst n2 t2 c2 d2
          obtain ⟨pA, pc, rfl⟩ := hd1.shape
          obtain ⟨pA2, pc2, rfl⟩ := hd2.shape
          obtain ⟨gq, rfl, _, hqz, _, hqc⟩ := Hgo.out.addr (by omega)
          have hcs := sets_cells (off := 0) (fun j u hu => by rw [Nat.zero_add]; exact hqc j u hu) q _ hpk
          obtain ⟨gn, rfl, _, hnz, _, hnc⟩ := Hgo2.out.addr (by omega)
          have hcs2 := sets_cells (off := 0) (fun j u hu => by rw [Nat.zero_add]; exact hnc j u hu) q _ hpk2
          simp only [Nat.zero_add] at hcs hcs2
          obtain ⟨z0, z1, z2, z3, z4⟩ := hcs
          obtain ⟨y0, y1, y2, y3, y4⟩ := hcs2
          have u0 := ((hE36.trans hEq).cell (p := ⟨gq, q * 5, none⟩) hqz).trans z0
          have u1 := ((hE36.trans hEq).cell (p := ⟨gq, q * 5 + 1, none⟩) hqz).trans z1
          have u2 := ((hE36.trans hEq).cell (p := ⟨gq, q * 5 + 2, none⟩) hqz).trans z2
          have u3 := ((hE36.trans hEq).cell (p := ⟨gq, q * 5 + 3, none⟩) hqz).trans z3
          have u4 := ((hE36.trans hEq).cell (p := ⟨gq, q * 5 + 4, none⟩) hqz).trans z4
          have v0 := (hEq.cell (p := ⟨gn, q * 5, none⟩) hnz).trans y0
          have v1 := (hEq.cell (p := ⟨gn, q * 5 + 1, none⟩) hnz).trans y1
          have v2 := (hEq.cell (p := ⟨gn, q * 5 + 2, none⟩) hnz).trans y2
          have v3 := (hEq.cell (p := ⟨gn, q * 5 + 3, none⟩) hnz).trans y3
          have v4 := (hEq.cell (p := ⟨gn, q * 5 + 4, none⟩) hnz).trans y4
          have hqi : (q : Int) < (ps.length : Int) := by omega
          have hqi2 : (q : Int) < (ps2.length : Int) := by omega
          have hq0 : (0 : Int) ≤ (q : Int) := by omega
          have Hso := Lib.hid hso
          have hEwq : Ext w wq := (hEw3.trans hE36).trans hEq
          clear hqc hnc hpk hpk2 hpe hs2 hso
          have hqz' : gq < wq.heap.size := Nat.lt_of_lt_of_le hqz (hE36.trans hEq).size
          have hnz' : gn < wq.heap.size := Nat.lt_of_lt_of_le hnz hEq.size
          go_wp2_with fail
          obtain ⟨X, hX⟩ : ∃ X, X = wq.alloc (.cells #[S nm, .int .u16 ty, .int .u16 cl, .int .u32 tt, .slice pA2 da.length pc2] 27) := ⟨_, rfl⟩
          rw [← hX]
          have hEqX : Ext wq X := by rw [hX]; exact (Ext.refl _).alloc _
          obtain ⟨xcl, _, hxz⟩ := ext_new_at wq.heap.size rfl (show Ext (wq.alloc _) X by rw [hX]; exact Ext.refl _)
          have HB9 := Lib.hid (show ∀ V, Ext X V → V.cell? ⟨wq.heap.size, 0, none⟩ = some (S nm) ∧ V.cell? ⟨wq.heap.size, 1, none⟩ = some (.int .u16 ty) ∧ V.cell? ⟨wq.heap.size, 2, none⟩ = some (.int .u16 cl) ∧ V.cell? ⟨wq.heap.size, 3, none⟩ = some (.int .u32 tt) ∧ V.cell? ⟨wq.heap.size, 4, none⟩ = some (.slice pA2 da.length pc2) from fun V hV => ⟨(hV.cell (p := ⟨wq.heap.size, 0, none⟩) hxz).trans (xcl 0), (hV.cell (p := ⟨wq.heap.size, 1, none⟩) hxz).trans (xcl 1), (hV.cell (p := ⟨wq.heap.size, 2, none⟩) hxz).trans (xcl 2), (hV.cell (p := ⟨wq.heap.size, 3, none⟩) hxz).trans (xcl 3), (hV.cell (p := ⟨wq.heap.size, 4, none⟩) hxz).trans (xcl 4)⟩)
          have HR9 := Lib.hid (show ∀ V, Ext X V → V.cell? ⟨b, bo + r * 5, none⟩ = some (S xn) ∧ V.cell? ⟨b, bo + r * 5 + 1, none⟩ = some (.int .u16 xt) ∧ V.cell? ⟨b, bo + r * 5 + 2, none⟩ = some (.int .u16 xc) from fun V hV => ⟨(((hEwq.trans hEqX).trans hV).cell (p := ⟨b, bo + r * 5, none⟩) hbz).trans x0, (((hEwq.trans hEqX).trans hV).cell (p := ⟨b, bo + r * 5 + 1, none⟩) hbz).trans x1, (((hEwq.trans hEqX).trans hV).cell (p := ⟨b, bo + r * 5 + 2, none⟩) hbz).trans x2⟩)
          have HT9 := Lib.hid (show ∀ V, Ext X V → V.cell? ⟨gq, q * 5, none⟩ = some (S nm) ∧ V.cell? ⟨gq, q * 5 + 1, none⟩ = some (.int .u16 ty) ∧ V.cell? ⟨gq, q * 5 + 2, none⟩ = some (.int .u16 cl) ∧ V.cell? ⟨gq, q * 5 + 3, none⟩ = some (.int .u32 tt) ∧ V.cell? ⟨gq, q * 5 + 4, none⟩ = some (.slice pA da.length pc) ∧ V.cell? ⟨gn, q * 5 + 3, none⟩ = some (.int .u32 tt2) from fun V hV => ⟨((((hE36.trans hEq).trans hEqX).trans hV).cell (p := ⟨gq, q * 5, none⟩) hqz).trans z0, ((((hE36.trans hEq).trans hEqX).trans hV).cell (p := ⟨gq, q * 5 + 1, none⟩) hqz).trans z1, ((((hE36.trans hEq).trans hEqX).trans hV).cell (p := ⟨gq, q * 5 + 2, none⟩) hqz).trans z2, ((((hE36.trans hEq).trans hEqX).trans hV).cell (p := ⟨gq, q * 5 + 3, none⟩) hqz).trans z3, ((((hE36.trans hEq).trans hEqX).trans hV).cell (p := ⟨gq, q * 5 + 4, none⟩) hqz).trans z4, (((hEq.trans hEqX).trans hV).cell (p := ⟨gn, q * 5 + 3, none⟩) hnz).trans y3⟩)
          have H29 := Lib.hid (show ∀ V, Ext X V → V.cell? ⟨b, bo + r * 5, none⟩ = some (S xn) ∧ V.cell? ⟨b, bo + r * 5 + 1, none⟩ = some (.int .u16 xt) ∧ V.cell? ⟨b, bo + r * 5 + 2, none⟩ = some (.int .u16 xc) ∧ V.cell? ⟨wq.heap.size, 0, none⟩ = some (S nm) ∧ V.cell? ⟨wq.heap.size, 1, none⟩ = some (.int .u16 ty) ∧ V.cell? ⟨wq.heap.size, 2, none⟩ = some (.int .u16 cl) from fun V hV => ⟨(HR9.out V hV).1, (HR9.out V hV).2.1, (HR9.out V hV).2.2, (HB9.out V hV).1, (HB9.out V hV).2.1, (HB9.out V hV).2.2.1⟩)
          have Hd1 := Lib.hid ((hd1.ext (hE36.trans hEq)).ext hEqX)
          have Hd2 := Lib.hid ((hd2.ext hEq).ext hEqX)
          have HSm := Lib.hid (fun V (hV : Ext X V) => rrset_same ⟨nm, ty, cl, tt, da⟩ ⟨nm, ty, cl, tt, da⟩ _ _ _ _ V (Hd2.out.ext hV) (Hd1.out.ext hV))
          rw [decide_eq_true rfl] at HSm
          clear xcl hX u0 u1 u2 u3 u4 v0 v1 v2 v3 v4 z0 z1 z2 z3 z4 y0 y1 y2 y3 y4 x0 x1 x2 x3 x4 e1 hU hll hlb hne0 hl1 hd1 hd2
          rcases hsx : sameN xn nm with _ | _
          · have htt : tt2 = tt := Hso.out (by unfold itsB; dsimp only; rw [hsx]; rfl)
            subst tt2
            as_aux_lemma =>
              refine wp_region_noPanic ?_
              refine wp_region_seq (S := (fun V => V.cell? ⟨b, bo + r * 5, none⟩ = some (S xn) ∧ V.cell? ⟨b, bo + r * 5 + 1, none⟩ = some (.int .u16 xt) ∧ V.cell? ⟨b, bo + r * 5 + 2, none⟩ = some (.int .u16 xc) ∧ V.cell? ⟨wq.heap.size, 0, none⟩ = some (S nm) ∧ V.cell? ⟨wq.heap.size, 1, none⟩ = some (.int .u16 ty) ∧ V.cell? ⟨wq.heap.size, 2, none⟩ = some (.int .u16 cl))) [(0, true), (1, true), (2, true), (3, true), (4, true), (5, true), (6, true), (7, false), (8, true), (9, true), (10, true), (11, true), (12, true), (13, true), (14, true), (15, true), (16, true), (17, true), (18, true), (19, true), (20, true), (21, true), (22, true), (23, true), (24, true), (25, true), (26, true), (27, true), (28, true)] (by kernel_rfl) (by kernel_rfl) (fun _ _ _ _ _ h => h) (H29.out _ ((Ext.refl X).drew)) ?_
              repeat ((with_reducible refine heldIs ?_); first
                | (refine heldTake (v := ?_) (by rfl) (by rfl) ?_ ?_; rotate_left; (focus (intro V hV; (try dsimp only at hV); (go_simp <;> with_reducible rfl))); (try simp only [Act.put, List.setIfInBounds_toArray, List.set_cons_zero, List.set_cons_succ]))
                | (refine heldSkip (by rfl) (by rfl) ?_; (try simp only [Act.put, List.setIfInBounds_toArray, List.set_cons_zero, List.set_cons_succ])))
              refine heldRun (by rfl) (fun K hK => ?_)
              go_simp
              refine (name_same xn nm _ (by unfold maxLen; omega) (by unfold maxLen; omega)).mono ?_; rintro e w8 ⟨rfl, hE8⟩; rw [hsx]
              refine hK.out _ _ ?_ ?_
              · exact H29.out _ (Ext.trans ((Ext.refl X).drew) hE8)
              clear hK K
              (try simp only [Act.put, List.setIfInBounds_toArray, List.set_cons_zero, List.set_cons_succ])
              repeat ((with_reducible refine heldIs ?_); first
                | (refine heldTake (v := ?_) (by rfl) (by rfl) ?_ ?_; rotate_left; (focus (intro V hV; (try dsimp only at hV); (go_simp <;> with_reducible rfl))); (try simp only [Act.put, List.setIfInBounds_toArray, List.set_cons_zero, List.set_cons_succ]))
                | (refine heldSkip (by rfl) (by rfl) ?_; (try simp only [Act.put, List.setIfInBounds_toArray, List.set_cons_zero, List.set_cons_succ])))
              refine heldDone ?_
              refine NoPanic.normal ?_
              go_wp2_with fail
              have hX8 : Ext X w8 := Ext.trans ((Ext.refl X).drew) hE8
              refine wp_region_noPanic ?_
              refine wp_region_seq (S := (fun V => (V.cell? ⟨wq.heap.size, 0, none⟩ = some (S nm) ∧ V.cell? ⟨wq.heap.size, 1, none⟩ = some (.int .u16 ty) ∧ V.cell? ⟨wq.heap.size, 2, none⟩ = some (.int .u16 cl) ∧ V.cell? ⟨wq.heap.size, 3, none⟩ = some (.int .u32 tt) ∧ V.cell? ⟨wq.heap.size, 4, none⟩ = some (.slice pA2 da.length pc2)) ∧ V.cell? ⟨gq, q * 5, none⟩ = some (S nm) ∧ V.cell? ⟨gq, q * 5 + 1, none⟩ = some (.int .u16 ty) ∧ V.cell? ⟨gq, q * 5 + 2, none⟩ = some (.int .u16 cl) ∧ V.cell? ⟨gq, q * 5 + 3, none⟩ = some (.int .u32 tt) ∧ V.cell? ⟨gq, q * 5 + 4, none⟩ = some (.slice pA da.length pc) ∧ V.cell? ⟨gn, q * 5 + 3, none⟩ = some (.int .u32 tt))) [(0, true), (1, true), (2, true), (3, true), (4, true), (5, false), (6, true), (7, true), (8, true), (9, true), (10, true), (11, true), (12, true), (13, true), (14, true), (15, true), (16, true), (17, true), (18, true), (19, true), (20, true), (21, true), (22, true), (23, true)] (by kernel_rfl) (by kernel_rfl) (fun _ _ _ _ _ h => h) (⟨HB9.out _ (hX8.drew), HT9.out _ (hX8.drew)⟩) ?_
              repeat ((with_reducible refine heldIs ?_); first
                | (refine heldTake (v := ?_) (by rfl) (by rfl) ?_ ?_; rotate_left; (focus (intro V hV; (try dsimp only at hV); (go_simp <;> with_reducible rfl))); (try simp only [Act.put, List.setIfInBounds_toArray, List.set_cons_zero, List.set_cons_succ]))
                | (refine heldSkip (by rfl) (by rfl) ?_; (try simp only [Act.put, List.setIfInBounds_toArray, List.set_cons_zero, List.set_cons_succ])))
              refine heldRun (by rfl) (fun K hK => ?_)
              go_simp
              refine (HSm.out _ (hX8.drew)).mono ?_; rintro e w9 ⟨rfl, hE9⟩
              refine hK.out _ _ ?_ ?_
              · exact ⟨HB9.out _ ((hX8.drew).trans hE9), HT9.out _ ((hX8.drew).trans hE9)⟩
              clear hK K
              (try simp only [Act.put, List.setIfInBounds_toArray, List.set_cons_zero, List.set_cons_succ])
              repeat ((with_reducible refine heldIs ?_); first
                | (refine heldTake (v := ?_) (by rfl) (by rfl) ?_ ?_; rotate_left; (focus (intro V hV; (try dsimp only at hV); (go_simp <;> with_reducible rfl))); (try simp only [Act.put, List.setIfInBounds_toArray, List.set_cons_zero, List.set_cons_succ]))
                | (refine heldSkip (by rfl) (by rfl) ?_; (try simp only [Act.put, List.setIfInBounds_toArray, List.set_cons_zero, List.set_cons_succ])))
              refine heldDone ?_
              refine NoPanic.normal ?_
              go_wp2_with fail
              go_roundw
              case rel => exact ⟨q + 1, by omega, by go_num, ((hEq.trans hEqX).trans (hX8.drew)).trans hE9⟩
              case measure => simp [intOf]; omega
          · by_cases htx : xt = ty
            · subst htx
              have t1 : (xt == xt) = true := by simp
              by_cases hcx : xc = cl
              · subst hcx
                have t3 : (xc == xc) = true := by simp
                as_aux_lemma =>
                  refine wp_region_noPanic ?_
                  refine wp_region_seq (S := (fun V => V.cell? ⟨b, bo + r * 5, none⟩ = some (S xn) ∧ V.cell? ⟨b, bo + r * 5 + 1, none⟩ = some (.int .u16 xt) ∧ V.cell? ⟨b, bo + r * 5 + 2, none⟩ = some (.int .u16 xc) ∧ V.cell? ⟨wq.heap.size, 0, none⟩ = some (S nm) ∧ V.cell? ⟨wq.heap.size, 1, none⟩ = some (.int .u16 xt) ∧ V.cell? ⟨wq.heap.size, 2, none⟩ = some (.int .u16 xc))) [(0, true), (1, true), (2, true), (3, true), (4, true), (5, true), (6, true), (7, false), (8, true), (9, true), (10, true), (11, true), (12, true), (13, true), (14, true), (15, true), (16, true), (17, true), (18, true), (19, true), (20, true), (21, true), (22, true), (23, true), (24, true), (25, true), (26, true), (27, true), (28, true)] (by kernel_rfl) (by kernel_rfl) (fun _ _ _ _ _ h => h) (H29.out _ ((Ext.refl X).drew)) ?_
                  repeat ((with_reducible refine heldIs ?_); first
                    | (refine heldTake (v := ?_) (by rfl) (by rfl) ?_ ?_; rotate_left; (focus (intro V hV; (try dsimp only at hV); (go_simp <;> with_reducible rfl))); (try simp only [Act.put, List.setIfInBounds_toArray, List.set_cons_zero, List.set_cons_succ]))
                    | (refine heldSkip (by rfl) (by rfl) ?_; (try simp only [Act.put, List.setIfInBounds_toArray, List.set_cons_zero, List.set_cons_succ])))
                  refine heldRun (by rfl) (fun K hK => ?_)
                  go_simp
                  refine (name_same xn nm _ (by unfold maxLen; omega) (by unfold maxLen; omega)).mono ?_; rintro e w8 ⟨rfl, hE8⟩; rw [hsx]
                  refine hK.out _ _ ?_ ?_
                  · exact H29.out _ (Ext.trans ((Ext.refl X).drew) hE8)
                  clear hK K
                  (try simp only [Act.put, List.setIfInBounds_toArray, List.set_cons_zero, List.set_cons_succ])
                  repeat ((with_reducible refine heldIs ?_); first
                    | (refine heldTake (v := ?_) (by rfl) (by rfl) ?_ ?_; rotate_left; (focus (intro V hV; (try dsimp only at hV); (go_simp <;> with_reducible rfl))); (try simp only [Act.put, List.setIfInBounds_toArray, List.set_cons_zero, List.set_cons_succ]))
                    | (refine heldSkip (by rfl) (by rfl) ?_; (try simp only [Act.put, List.setIfInBounds_toArray, List.set_cons_zero, List.set_cons_succ])))
                  refine heldDone ?_
                  refine NoPanic.normal ?_
                  go_wp2_with fail
                  have hX8 : Ext X w8 := Ext.trans ((Ext.refl X).drew) hE8
                  refine wp_region_noPanic ?_
                  refine wp_region_seq (S := (fun V => (V.cell? ⟨wq.heap.size, 0, none⟩ = some (S nm) ∧ V.cell? ⟨wq.heap.size, 1, none⟩ = some (.int .u16 xt) ∧ V.cell? ⟨wq.heap.size, 2, none⟩ = some (.int .u16 xc) ∧ V.cell? ⟨wq.heap.size, 3, none⟩ = some (.int .u32 tt) ∧ V.cell? ⟨wq.heap.size, 4, none⟩ = some (.slice pA2 da.length pc2)) ∧ V.cell? ⟨gq, q * 5, none⟩ = some (S nm) ∧ V.cell? ⟨gq, q * 5 + 1, none⟩ = some (.int .u16 xt) ∧ V.cell? ⟨gq, q * 5 + 2, none⟩ = some (.int .u16 xc) ∧ V.cell? ⟨gq, q * 5 + 3, none⟩ = some (.int .u32 tt) ∧ V.cell? ⟨gq, q * 5 + 4, none⟩ = some (.slice pA da.length pc) ∧ V.cell? ⟨gn, q * 5 + 3, none⟩ = some (.int .u32 tt2))) [(0, true), (1, true), (2, true), (3, true), (4, true), (5, false), (6, true), (7, true), (8, true), (9, true), (10, true), (11, true), (12, true), (13, true), (14, true), (15, true), (16, true), (17, true), (18, true), (19, true), (20, true), (21, true), (22, true), (23, true)] (by kernel_rfl) (by kernel_rfl) (fun _ _ _ _ _ h => h) (⟨HB9.out _ (hX8.drew), HT9.out _ (hX8.drew)⟩) ?_
                  repeat ((with_reducible refine heldIs ?_); first
                    | (refine heldTake (v := ?_) (by rfl) (by rfl) ?_ ?_; rotate_left; (focus (intro V hV; (try dsimp only at hV); (go_simp <;> with_reducible rfl))); (try simp only [Act.put, List.setIfInBounds_toArray, List.set_cons_zero, List.set_cons_succ]))
                    | (refine heldSkip (by rfl) (by rfl) ?_; (try simp only [Act.put, List.setIfInBounds_toArray, List.set_cons_zero, List.set_cons_succ])))
                  refine heldRun (by rfl) (fun K hK => ?_)
                  go_simp
                  refine (HSm.out _ (hX8.drew)).mono ?_; rintro e w9 ⟨rfl, hE9⟩
                  refine hK.out _ _ ?_ ?_
                  · exact ⟨HB9.out _ ((hX8.drew).trans hE9), HT9.out _ ((hX8.drew).trans hE9)⟩
                  clear hK K
                  (try simp only [Act.put, List.setIfInBounds_toArray, List.set_cons_zero, List.set_cons_succ])
                  repeat ((with_reducible refine heldIs ?_); first
                    | (refine heldTake (v := ?_) (by rfl) (by rfl) ?_ ?_; rotate_left; (focus (intro V hV; (try dsimp only at hV); (go_simp <;> with_reducible rfl))); (try simp only [Act.put, List.setIfInBounds_toArray, List.set_cons_zero, List.set_cons_succ]))
                    | (refine heldSkip (by rfl) (by rfl) ?_; (try simp only [Act.put, List.setIfInBounds_toArray, List.set_cons_zero, List.set_cons_succ])))
                  refine heldDone ?_
                  refine NoPanic.normal ?_
                  go_wp2_with fail
                  go_roundw
                  case rel => exact ⟨q + 1, by omega, by go_num, ((hEq.trans hEqX).trans (hX8.drew)).trans hE9⟩
                  case measure => simp [intOf]; omega
              · have htt : tt2 = tt := Hso.out (by unfold itsB; dsimp only; simp [hcx])
                subst tt2
                have t3 : (xc == cl) = false := by rw [beq_eq_false_iff_ne]; exact hcx
                clear hcx
                as_aux_lemma =>
                  refine wp_region_noPanic ?_
                  refine wp_region_seq (S := (fun V => V.cell? ⟨b, bo + r * 5, none⟩ = some (S xn) ∧ V.cell? ⟨b, bo + r * 5 + 1, none⟩ = some (.int .u16 xt) ∧ V.cell? ⟨b, bo + r * 5 + 2, none⟩ = some (.int .u16 xc) ∧ V.cell? ⟨wq.heap.size, 0, none⟩ = some (S nm) ∧ V.cell? ⟨wq.heap.size, 1, none⟩ = some (.int .u16 xt) ∧ V.cell? ⟨wq.heap.size, 2, none⟩ = some (.int .u16 cl))) [(0, true), (1, true), (2, true), (3, true), (4, true), (5, true), (6, true), (7, false), (8, true), (9, true), (10, true), (11, true), (12, true), (13, true), (14, true), (15, true), (16, true), (17, true), (18, true), (19, true), (20, true), (21, true), (22, true), (23, true), (24, true), (25, true), (26, true), (27, true), (28, true)] (by kernel_rfl) (by kernel_rfl) (fun _ _ _ _ _ h => h) (H29.out _ ((Ext.refl X).drew)) ?_
                  repeat ((with_reducible refine heldIs ?_); first
                    | (refine heldTake (v := ?_) (by rfl) (by rfl) ?_ ?_; rotate_left; (focus (intro V hV; (try dsimp only at hV); (go_simp <;> with_reducible rfl))); (try simp only [Act.put, List.setIfInBounds_toArray, List.set_cons_zero, List.set_cons_succ]))
                    | (refine heldSkip (by rfl) (by rfl) ?_; (try simp only [Act.put, List.setIfInBounds_toArray, List.set_cons_zero, List.set_cons_succ])))
                  refine heldRun (by rfl) (fun K hK => ?_)
                  go_simp
                  refine (name_same xn nm _ (by unfold maxLen; omega) (by unfold maxLen; omega)).mono ?_; rintro e w8 ⟨rfl, hE8⟩; rw [hsx]
                  refine hK.out _ _ ?_ ?_
                  · exact H29.out _ (Ext.trans ((Ext.refl X).drew) hE8)
                  clear hK K
                  (try simp only [Act.put, List.setIfInBounds_toArray, List.set_cons_zero, List.set_cons_succ])
                  repeat ((with_reducible refine heldIs ?_); first
                    | (refine heldTake (v := ?_) (by rfl) (by rfl) ?_ ?_; rotate_left; (focus (intro V hV; (try dsimp only at hV); (go_simp <;> with_reducible rfl))); (try simp only [Act.put, List.setIfInBounds_toArray, List.set_cons_zero, List.set_cons_succ]))
                    | (refine heldSkip (by rfl) (by rfl) ?_; (try simp only [Act.put, List.setIfInBounds_toArray, List.set_cons_zero, List.set_cons_succ])))
                  refine heldDone ?_
                  refine NoPanic.normal ?_
                  go_wp2_with fail
                  have hX8 : Ext X w8 := Ext.trans ((Ext.refl X).drew) hE8
                  refine wp_region_noPanic ?_
                  refine wp_region_seq (S := (fun V => (V.cell? ⟨wq.heap.size, 0, none⟩ = some (S nm) ∧ V.cell? ⟨wq.heap.size, 1, none⟩ = some (.int .u16 xt) ∧ V.cell? ⟨wq.heap.size, 2, none⟩ = some (.int .u16 cl) ∧ V.cell? ⟨wq.heap.size, 3, none⟩ = some (.int .u32 tt) ∧ V.cell? ⟨wq.heap.size, 4, none⟩ = some (.slice pA2 da.length pc2)) ∧ V.cell? ⟨gq, q * 5, none⟩ = some (S nm) ∧ V.cell? ⟨gq, q * 5 + 1, none⟩ = some (.int .u16 xt) ∧ V.cell? ⟨gq, q * 5 + 2, none⟩ = some (.int .u16 cl) ∧ V.cell? ⟨gq, q * 5 + 3, none⟩ = some (.int .u32 tt) ∧ V.cell? ⟨gq, q * 5 + 4, none⟩ = some (.slice pA da.length pc) ∧ V.cell? ⟨gn, q * 5 + 3, none⟩ = some (.int .u32 tt))) [(0, true), (1, true), (2, true), (3, true), (4, true), (5, false), (6, true), (7, true), (8, true), (9, true), (10, true), (11, true), (12, true), (13, true), (14, true), (15, true), (16, true), (17, true), (18, true), (19, true), (20, true), (21, true), (22, true), (23, true)] (by kernel_rfl) (by kernel_rfl) (fun _ _ _ _ _ h => h) (⟨HB9.out _ (hX8.drew), HT9.out _ (hX8.drew)⟩) ?_
                  repeat ((with_reducible refine heldIs ?_); first
                    | (refine heldTake (v := ?_) (by rfl) (by rfl) ?_ ?_; rotate_left; (focus (intro V hV; (try dsimp only at hV); (go_simp <;> with_reducible rfl))); (try simp only [Act.put, List.setIfInBounds_toArray, List.set_cons_zero, List.set_cons_succ]))
                    | (refine heldSkip (by rfl) (by rfl) ?_; (try simp only [Act.put, List.setIfInBounds_toArray, List.set_cons_zero, List.set_cons_succ])))
                  refine heldRun (by rfl) (fun K hK => ?_)
                  go_simp
                  refine (HSm.out _ (hX8.drew)).mono ?_; rintro e w9 ⟨rfl, hE9⟩
                  refine hK.out _ _ ?_ ?_
                  · exact ⟨HB9.out _ ((hX8.drew).trans hE9), HT9.out _ ((hX8.drew).trans hE9)⟩
                  clear hK K
                  (try simp only [Act.put, List.setIfInBounds_toArray, List.set_cons_zero, List.set_cons_succ])
                  repeat ((with_reducible refine heldIs ?_); first
                    | (refine heldTake (v := ?_) (by rfl) (by rfl) ?_ ?_; rotate_left; (focus (intro V hV; (try dsimp only at hV); (go_simp <;> with_reducible rfl))); (try simp only [Act.put, List.setIfInBounds_toArray, List.set_cons_zero, List.set_cons_succ]))
                    | (refine heldSkip (by rfl) (by rfl) ?_; (try simp only [Act.put, List.setIfInBounds_toArray, List.set_cons_zero, List.set_cons_succ])))
                  refine heldDone ?_
                  refine NoPanic.normal ?_
                  go_wp2_with fail
                  go_roundw
                  case rel => exact ⟨q + 1, by omega, by go_num, ((hEq.trans hEqX).trans (hX8.drew)).trans hE9⟩
                  case measure => simp [intOf]; omega
            · have htt : tt2 = tt := Hso.out (by unfold itsB; dsimp only; simp [htx])
              subst tt2
              have t1 : (xt == ty) = false := by rw [beq_eq_false_iff_ne]; exact htx
              clear htx
              as_aux_lemma =>
                refine wp_region_noPanic ?_
                refine wp_region_seq (S := (fun V => V.cell? ⟨b, bo + r * 5, none⟩ = some (S xn) ∧ V.cell? ⟨b, bo + r * 5 + 1, none⟩ = some (.int .u16 xt) ∧ V.cell? ⟨b, bo + r * 5 + 2, none⟩ = some (.int .u16 xc) ∧ V.cell? ⟨wq.heap.size, 0, none⟩ = some (S nm) ∧ V.cell? ⟨wq.heap.size, 1, none⟩ = some (.int .u16 ty) ∧ V.cell? ⟨wq.heap.size, 2, none⟩ = some (.int .u16 cl))) [(0, true), (1, true), (2, true), (3, true), (4, true), (5, true), (6, true), (7, false), (8, true), (9, true), (10, true), (11, true), (12, true), (13, true), (14, true), (15, true), (16, true), (17, true), (18, true), (19, true), (20, true), (21, true), (22, true), (23, true), (24, true), (25, true), (26, true), (27, true), (28, true)] (by kernel_rfl) (by kernel_rfl) (fun _ _ _ _ _ h => h) (H29.out _ ((Ext.refl X).drew)) ?_
                repeat ((with_reducible refine heldIs ?_); first
                  | (refine heldTake (v := ?_) (by rfl) (by rfl) ?_ ?_; rotate_left; (focus (intro V hV; (try dsimp only at hV); (go_simp <;> with_reducible rfl))); (try simp only [Act.put, List.setIfInBounds_toArray, List.set_cons_zero, List.set_cons_succ]))
                  | (refine heldSkip (by rfl) (by rfl) ?_; (try simp only [Act.put, List.setIfInBounds_toArray, List.set_cons_zero, List.set_cons_succ])))
                refine heldRun (by rfl) (fun K hK => ?_)
                go_simp
                refine (name_same xn nm _ (by unfold maxLen; omega) (by unfold maxLen; omega)).mono ?_; rintro e w8 ⟨rfl, hE8⟩; rw [hsx]
                refine hK.out _ _ ?_ ?_
                · exact H29.out _ (Ext.trans ((Ext.refl X).drew) hE8)
                clear hK K
                (try simp only [Act.put, List.setIfInBounds_toArray, List.set_cons_zero, List.set_cons_succ])
                repeat ((with_reducible refine heldIs ?_); first
                  | (refine heldTake (v := ?_) (by rfl) (by rfl) ?_ ?_; rotate_left; (focus (intro V hV; (try dsimp only at hV); (go_simp <;> with_reducible rfl))); (try simp only [Act.put, List.setIfInBounds_toArray, List.set_cons_zero, List.set_cons_succ]))
                  | (refine heldSkip (by rfl) (by rfl) ?_; (try simp only [Act.put, List.setIfInBounds_toArray, List.set_cons_zero, List.set_cons_succ])))
                refine heldDone ?_
                refine NoPanic.normal ?_
                go_wp2_with fail
                have hX8 : Ext X w8 := Ext.trans ((Ext.refl X).drew) hE8
                refine wp_region_noPanic ?_
                refine wp_region_seq (S := (fun V => (V.cell? ⟨wq.heap.size, 0, none⟩ = some (S nm) ∧ V.cell? ⟨wq.heap.size, 1, none⟩ = some (.int .u16 ty) ∧ V.cell? ⟨wq.heap.size, 2, none⟩ = some (.int .u16 cl) ∧ V.cell? ⟨wq.heap.size, 3, none⟩ = some (.int .u32 tt) ∧ V.cell? ⟨wq.heap.size, 4, none⟩ = some (.slice pA2 da.length pc2)) ∧ V.cell? ⟨gq, q * 5, none⟩ = some (S nm) ∧ V.cell? ⟨gq, q * 5 + 1, none⟩ = some (.int .u16 ty) ∧ V.cell? ⟨gq, q * 5 + 2, none⟩ = some (.int .u16 cl) ∧ V.cell? ⟨gq, q * 5 + 3, none⟩ = some (.int .u32 tt) ∧ V.cell? ⟨gq, q * 5 + 4, none⟩ = some (.slice pA da.length pc) ∧ V.cell? ⟨gn, q * 5 + 3, none⟩ = some (.int .u32 tt))) [(0, true), (1, true), (2, true), (3, true), (4, true), (5, false), (6, true), (7, true), (8, true), (9, true), (10, true), (11, true), (12, true), (13, true), (14, true), (15, true), (16, true), (17, true), (18, true), (19, true), (20, true), (21, true), (22, true), (23, true)] (by kernel_rfl) (by kernel_rfl) (fun _ _ _ _ _ h => h) (⟨HB9.out _ (hX8.drew), HT9.out _ (hX8.drew)⟩) ?_
                repeat ((with_reducible refine heldIs ?_); first
                  | (refine heldTake (v := ?_) (by rfl) (by rfl) ?_ ?_; rotate_left; (focus (intro V hV; (try dsimp only at hV); (go_simp <;> with_reducible rfl))); (try simp only [Act.put, List.setIfInBounds_toArray, List.set_cons_zero, List.set_cons_succ]))
                  | (refine heldSkip (by rfl) (by rfl) ?_; (try simp only [Act.put, List.setIfInBounds_toArray, List.set_cons_zero, List.set_cons_succ])))
                refine heldRun (by rfl) (fun K hK => ?_)
                go_simp
                refine (HSm.out _ (hX8.drew)).mono ?_; rintro e w9 ⟨rfl, hE9⟩
                refine hK.out _ _ ?_ ?_
                · exact ⟨HB9.out _ ((hX8.drew).trans hE9), HT9.out _ ((hX8.drew).trans hE9)⟩
                clear hK K
                (try simp only [Act.put, List.setIfInBounds_toArray, List.set_cons_zero, List.set_cons_succ])
                repeat ((with_reducible refine heldIs ?_); first
                  | (refine heldTake (v := ?_) (by rfl) (by rfl) ?_ ?_; rotate_left; (focus (intro V hV; (try dsimp only at hV); (go_simp <;> with_reducible rfl))); (try simp only [Act.put, List.setIfInBounds_toArray, List.set_cons_zero, List.set_cons_succ]))
                  | (refine heldSkip (by rfl) (by rfl) ?_; (try simp only [Act.put, List.setIfInBounds_toArray, List.set_cons_zero, List.set_cons_succ])))
                refine heldDone ?_
                refine NoPanic.normal ?_
                go_wp2_with fail
                go_roundw
                case rel => exact ⟨q + 1, by omega, by go_num, ((hEq.trans hEqX).trans (hX8.drew)).trans hE9⟩
                case measure => simp [intOf]; omega
        · go_wp2_with fail
          go_ret
          exact ⟨rfl, (hEw3.trans hE36).trans hEq⟩
end Go.Proofs.YthdlgmfeicikpaaGreatDoor
namespace Go.Proofs.YthdlgmfeicikpaaGreatDoor
set_option linter.unusedSimpArgs false
set_option linter.unusedVariables false
open Go.ChangeShapes Go.WideShapes Go.ChangeAt Go.RowKit
set_option maxRecDepth 100000

theorem rrsetLeast_contract (H : Type) (enc : TypeId × Value → H) (W : World) (base : Nat) (args : Array Value) (ds gs : List (DataW H)) (before : List MemPlace)
    (hval : ∀ (j : Nat) t v, Tryz.f6.params[j]? = some t → args[j]? = some v → Value.okWide Tryz.prog W .any base t v)
    (hW : DataW.Whole enc Tryz.prog Tryz.f6.params.toList Rows.rrsetLeastSpec.vars false W args.toList ds gs before)
    (hsz : (DataW.weightsEach Tryz.prog (Tryz.f6.params.toList ++ (OpenSpec.ofChange Rows.rrsetLeastSpec).bare.plain.varTypes Tryz.prog) (ds ++ gs)).all (· ≤ reachBytes) = true)
    (hL : laidMetH Tryz.prog laidL W) :
    Calls Tryz.prog 6 args W fun e W' => ∃ v, e = .returned v ∧ Rows.rrsetLeastSpec.post enc Tryz.prog Tryz.f6 false true false false W args v W' := by
  have hW' := hW
  have hp : ∀ t ∈ Tryz.f6.params.toList, Tryz.prog.readableRec t = true ∧ t < Tryz.prog.types.size := by
    have h : (Tryz.f6.params.toList.all fun t => Tryz.prog.readableRec t && decide (t < Tryz.prog.types.size)) = true := by kernel_rfl
    simpa only [List.all_eq_true, Bool.and_eq_true, decide_eq_true_eq] using h
  have hg := laid_of hL
  obtain ⟨p, q, hA0, hV, rfl, _, _⟩ := hW
  have hA : DataW.TrodAll enc Tryz.prog W 0 (fun _ => true) true Tryz.f6.params.toList args.toList ds p := hA0
  clear hA0
  rw [Tryz.params6] at hA hval hsz
  obtain ⟨rfl, rfl⟩ := trodVars_none hV
  obtain ⟨v0, v1, v2, d0, d1, d2, p0, p1, p2, rfl, rfl, rfl, h0, h1, h2⟩ := trodAll_three hA
  obtain ⟨l, hr, hlo⟩ := open_recsW (hval 0 _ _ rfl rfl) h0
  obtain ⟨wh, rfl, hb1, hb2⟩ := open_i64 (hval 1 _ _ rfl rfl) h1
  obtain ⟨tt, rfl, ha1, ha2⟩ := open_u32 (hval 2 _ _ rfl rfl) h2
  refine (law_rrsetLeast v0 l wh tt W hg hr (fun r hr => ⟨reach_of hsz (j := 0) rfl rfl (hlo r hr).2.1, reach_of hsz (j := 0) rfl rfl (hlo r hr).2.2⟩) (fun r hr => (hlo r hr).1) hb1 hb2 ha1 ha2).mono ?_
  rintro e W' ⟨rfl, hE⟩
  exact ⟨_, rfl, post_true laid_out rfl (by kernel_rfl) Tryz.underlying4 hp hW' rfl hE⟩

theorem rrsetLeast_reads (os : Os) {H : Type} (enc : TypeId × Value → H) : ∃ places, DataW.whole enc Tryz.prog ((laidWorld os).forCall (fun _ _ => 0) ⟨#[], #[.slice none 0 0, .int .i64 0, .int .u32 0], []⟩).memory Tryz.f6.params.toList Rows.rrsetLeastSpec.vars false (#[.slice none 0 0, .int .i64 0, .int .u32 0] : Array Value).toList 8 = some ([.nil, .lit (.int .i64 0), .lit (.int .u32 0)], [], places) :=
  ⟨[], by kernel_rfl⟩
theorem rrsetLeast_lifted (os : Os) (started : os.Started) (H : Type) (enc : TypeId × Value → H) (F : Stop.Interp) :
    ReturnsInHanded {} Tryz.checked os 6 .any ((OpenSpec.ofChange Rows.rrsetLeastSpec).preRow enc Tryz.prog Tryz.f6 Rows.rrsetLeastRow.domain false Rows.rrsetLeastRow.laid) (((OpenSpec.ofChange Rows.rrsetLeastSpec).at F).post enc Tryz.prog Tryz.f6 false true false false) := by
  obtain ⟨places, hx⟩ := rrsetLeast_reads os enc
  refine returnsInHanded_of_row (C := Tryz.checked) (s := OpenSpec.ofChange Rows.rrsetLeastSpec) own_knob started (by kernel_rfl) Tryz.func6
    (witness_row_at (enc := enc) (C := Tryz.checked) false (laidWorld os) #[.slice none 0 0, .int .i64 0, .int .u32 0] rfl (by kernel_rfl) (by kernel_rfl) (by kernel_rfl)
      (OpenSpec.preRow_of_cond 8 hx (by kernel_rfl) (fun k hk => by cases hk) (by kernel_rfl) (laid_met os _))) ?_
  intro W base args ds gs before hval hW _ _ hsz hL _ _
  exact rrsetLeast_contract H enc W base args ds gs before hval hW hsz hL
theorem rrsetLeast_said : Rows.RrsetLeastSaid :=
  OpenClaim.holds_of_cond 6 Tryz.f6 rfl rfl rfl rfl rfl rfl rfl ⟨rfl, rfl, rfl, rfl, rfl⟩ rfl rfl rfl rfl rfl (by kernel_rfl) Tryz.func6 (by kernel_rfl)
    (of_decide_eq_true (by kernel_rfl)) (by unfold Func.isWrapper; first | (rw [if_pos (by decide +kernel)]; kernel_rfl) | (rw [if_neg (by decide +kernel)]; exact ⟨rfl, rfl⟩))
    (fun os started H enc _ F => by rw [OpenClaim.pre_eq_preRow]; exact rrsetLeast_lifted os started H enc F)
/-- THE CARD. -/
theorem rrsetLeast_card : Rows.RrsetLeastCardSaid :=
  Claim7.holds_tied_plain_at .later [] _ _ _ _ rrsetLeast_said (fun _ h => by cases h) (by kernel_rfl) (fun _ h => by cases h) rrsetLeast_row_tie rfl ⟨rfl, rfl⟩ (by kernel_rfl) rfl
    (fun f fn hf hfn => by
      obtain rfl : f = 6 := Option.some.inj ((show Tryz.prog.funcNamed Rows.rrsetLeastRow.func = some 6 by kernel_rfl).symm.trans hf) |>.symm
      obtain rfl : fn = Tryz.f6 := (Option.some.inj (Tryz.func6.symm.trans hfn)).symm
      refine ⟨by kernel_rfl, fun j t ht => ?_⟩
      have h : (Tryz.f6.params.toList.all fun t => !Tryz.prog.wantsStandIn t) = true := by kernel_rfl
      have h2 := List.all_eq_true.1 h t (by simpa using Array.mem_of_getElem? ht)
      exact (by simpa using h2 : Tryz.prog.wantsStandIn t = false))
    (by kernel_rfl)
#print axioms rrsetLeast_card
end Go.Proofs.YthdlgmfeicikpaaGreatDoor
