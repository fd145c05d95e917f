/- The walk of hustingsref08.Group. -/
import Derived.Test.YthdlgmfeicikpaaGreatDoorGrp1
import Derived.Deep.RegionHeld3
import Derived.Deep.DeepMust
namespace Go.Proofs.YthdlgmfeicikpaaGreatDoor
set_option linter.unusedSimpArgs false
set_option linter.unusedVariables false
open Go.RowKit
set_option maxRecDepth 100000

def RecsBd (l : List RecD) : Prop := l.length ≤ 4096 ∧ ∀ r ∈ l, r.name.length ≤ 300000 ∧ r.data.length ≤ 300000
theorem putS_len (l : List (List UInt8)) (s : List UInt8) : (putS l s).length ≤ l.length + 1 := by
  unfold putS
  split
  · omega
  · rw [insB_len]; omega
theorem modify_mem {α : Type} {l : List α} {k : Nat} {f : α → α} {x : α} (h : x ∈ l.modify k f) : x ∈ l ∨ ∃ y ∈ l, x = f y := by
  induction l generalizing k with
  | nil => simp at h
  | cons a l ih =>
    rcases k with _ | k
    · simp only [List.modify_zero_cons, List.mem_cons] at h
      rcases h with rfl | h
      · exact .inr ⟨a, by simp, rfl⟩
      · exact .inl (by simp [h])
    · simp only [List.modify_succ_cons, List.mem_cons] at h
      rcases h with rfl | h
      · exact .inl (by simp)
      · rcases ih h with h | ⟨y, hy, rfl⟩
        · exact .inl (by simp [h])
        · exact .inr ⟨y, by simp [hy], rfl⟩
theorem addR_bd (sets : List SetD) (x : RecD) (k : Nat) (h : ∀ s ∈ sets, s.name.length ≤ 255 ∧ s.data.length ≤ k) : ∀ s ∈ addR sets x, s.name.length ≤ 255 ∧ s.data.length ≤ k + 1 := by
  intro s hs
  unfold addR at hs
  split at hs
  · split at hs
    · rcases List.mem_append.1 hs with h1 | h1
      · have := h s h1; omega
      · rw [List.mem_singleton] at h1; subst h1; exact ⟨fold_le _, by simp⟩
    · rcases modify_mem hs with h1 | ⟨y, hy, rfl⟩
      · have := h s h1; omega
      · have h2 := h y hy
        have h3 := putS_len y.data (rfold x.typ x.data)
        unfold updS
        dsimp only
        omega
  · have := h s hs; omega
theorem groupTo_bd (l : List RecD) : ∀ k, k ≤ l.length → ∀ s ∈ groupTo l k, s.name.length ≤ 255 ∧ s.data.length ≤ k
  | 0, _ => by simp [groupTo]
  | k + 1, h => by
    rw [groupTo_step l k (by omega)]
    exact addR_bd _ _ _ (groupTo_bd l k (by omega))
theorem addR_len (sets : List SetD) (x : RecD) : (addR sets x).length ≤ sets.length + 1 := by
  unfold addR
  repeat' split
  all_goals simp
theorem groupTo_len (l : List RecD) : ∀ k, k ≤ l.length → (groupTo l k).length ≤ k
  | 0, _ => by simp [groupTo]
  | k + 1, h => by
    rw [groupTo_step l k (by omega)]
    have := addR_len (groupTo l k) l[k]
    have := groupTo_len l k (by omega)
    omega

structure GrInv (w : World) (sets : List SetD) (ps : List (SetD × Value)) (A : Option Addr) (c : Nat) (wr : World) : Prop where
  eq : ps.map Prod.fst = sets
  own : Own wr w.heap.size 27 5 A ps.length c (ps.flatMap setCells)
  datas : ∀ p ∈ ps, OStrs wr w.heap.size p.2 p.1.data
  ext : Ext w wr

def GroupPost (l : List SetD) (w : World) (e : Ending) (w' : World) : Prop := ∃ v, e = .returned v ∧ OSets w' w.heap.size v l ∧ Ext w w'

theorem flat5_len (l : List (SetD × Value)) : (l.flatMap setCells).length = l.length * 5 := by
  induction l with
  | nil => rfl
  | cons a l ih => rw [List.flatMap_cons, List.length_append, ih, List.length_cons]; show 5 + _ = _; omega
theorem Rd.takeS {w : World} {lo : Nat} {A : Option Addr} {n : Nat} {ss : List (SetD × Value)} (h : Rd w lo 5 A n (ss.flatMap setCells)) (m : Nat) (hm : m ≤ n) (hn : n = ss.length) : Rd w lo 5 A m ((ss.take m).flatMap setCells) := by
  subst hn
  refine ⟨by rw [flat5_len, List.length_take]; omega, fun h0 => ?_⟩
  obtain ⟨b, off, e, hl, hb, hc⟩ := h.2 (by omega)
  refine ⟨b, off, e, hl, hb, fun j u hu => hc j u ?_⟩
  conv => lhs; rw [← List.take_append_drop m ss]
  rw [List.flatMap_append, List.getElem?_append_left (List.getElem?_eq_some_iff.1 hu).1]; exact hu
theorem Rd.dropS {w : World} {lo : Nat} {b off n : Nat} {ss : List (SetD × Value)} (h : Rd w lo 5 (some ⟨b, off, none⟩) n (ss.flatMap setCells)) (m : Nat) (hm : m ≤ n) (hn : n = ss.length) : Rd w lo 5 (some ⟨b, off + m * 5, none⟩) (n - m) ((ss.drop m).flatMap setCells) := by
  subst hn
  refine ⟨by rw [flat5_len, List.length_drop], fun h0 => ?_⟩
  obtain ⟨b', off', e, hl, hb, hc⟩ := h.2 (by omega)
  injection e with e
  injection e with e1 e2 _
  subst e1 e2
  refine ⟨b, off + m * 5, rfl, hl, hb, fun j u hu => ?_⟩
  rw [Nat.add_assoc]
  refine hc (m * 5 + j) u ?_
  conv => lhs; rw [← List.take_append_drop m ss]
  have hl : ((ss.take m).flatMap setCells).length = m * 5 := by rw [flat5_len, List.length_take]; congr 1; omega
  rw [List.flatMap_append, List.getElem?_append_right (by omega), hl, Nat.add_sub_cancel_left]; exact hu
theorem set_oneL {w : World} {lo : Nat} {ss : List (SetD × Value)} (h : ∀ p ∈ ss, OStrs w lo p.2 p.1.data) : ∀ u ∈ ss.flatMap setCells, u.oneCell' = true := by
  intro u hu
  obtain ⟨p, hp, hu⟩ := List.mem_flatMap.1 hu
  obtain ⟨s, v⟩ := p
  obtain ⟨A, c, e, _⟩ := h _ hp
  dsimp only at e
  subst e
  exact set_oneS s A _ c u hu

structure SelInv (w : World) (G : List SetD) (F : Nat) (ss os : List (SetD × Value)) (sA : Option Addr) (sc : Nat) (oA : Option Addr) (oc : Nat) (wr : World) : Prop where
  fuel : ss.length + os.length ≤ F
  sown : Own wr w.heap.size 27 5 sA ss.length sc (ss.flatMap setCells)
  oown : Own wr w.heap.size 27 5 oA os.length oc (os.flatMap setCells)
  sdat : ∀ p ∈ ss, OStrs wr w.heap.size p.2 p.1.data
  odat : ∀ p ∈ os, OStrs wr w.heap.size p.2 p.1.data
  apart : (Value.slice oA os.length oc).ownBlock = none ∨ (Value.slice oA os.length oc).ownBlock ≠ (Value.slice sA ss.length sc).ownBlock
  names : ∀ p ∈ ss, p.1.name.length ≤ 255
  ext : Ext w wr
  eq : G = os.map Prod.fst ++ selF (F - os.length) (ss.map Prod.fst)

set_option maxHeartbeats 8000000 in
theorem ref_group (lo : Nat) (v : Value) (l : List RecD) (w : World) (h : Recs w lo v l) (hbd : RecsBd l) :
    Calls Tryz.prog 31 #[v] w (GroupPost (groupR l) w) := by
  obtain ⟨A0, c0, rfl, h1, h2, hrd⟩ := h
  unfold maxLen at h2
  have hl4 := hbd.1
  obtain ⟨i0, hi0, hz0, hz1, hz2⟩ := info_parts info_set
  obtain ⟨G, hG⟩ : ∃ G, G = selF l.length (groupTo l l.length) := ⟨_, rfl⟩
  rw [show groupR l = G from hG.symm]
  have HG := Lib.hid hG
  clear hG
  go_enter Tryz.func31, Tryz.ntmps31
  go_wp2
  go_loopw [3, 4] (fun s i wr => ∃ (k : Nat) (ps : List (SetD × Value)) (A : Option Addr) (c : Nat), k ≤ l.length ∧ i = .int .i64 k ∧ s = .slice A ps.length c ∧ GrInv w (groupTo l k) ps A c wr) (fun _ i _ => l.length - (intOf i).toNat)
  case atStart => exact ⟨0, [], none, 0, by omega, rfl, rfl, ⟨rfl, Own.nil _ _ _ _, by simp, Ext.refl _⟩⟩
  case round =>
    obtain ⟨k, ps, A, c, hk, rfl, rfl, hI⟩ := hrel
    obtain ⟨wo, rfl⟩ : ∃ wo : World, wo = wr := ⟨_, rfl⟩
    have hEo := hI.ext
    by_cases hlt : k < l.length
    · obtain ⟨b, off, rfl, _, hbz, hc⟩ := hrd.2 (by omega)
      have hcs := recs_cells hc k l[k] (List.getElem?_eq_getElem hlt)
      have hxb := hbd.2 l[k] (List.getElem_mem hlt)
      have hGs := groupTo_step l k hlt
      have hsb := groupTo_bd l k hk
      have hgl := groupTo_len l k hk
      generalize l[k] = x at *
      have hsets := hI.eq
      generalize groupTo l k = sets at *
      have hpl : ps.length = sets.length := by rw [← hsets]; simp
      obtain ⟨nm, ty, cl, tt, da⟩ := x
      dsimp only at *
      obtain ⟨x0, x1, x2, x3, x4⟩ := hcs
      rw [← hEo.cell (p := ⟨b, _, none⟩) hbz] at x0 x1 x2 x3 x4
      have hbz2 : b < wo.heap.size := Nat.lt_of_lt_of_le hbz hEo.size
      have hki : (k : Int) < (l.length : Int) := by omega
      have hpsb : ps.length ≤ 4096 := by omega
      have HGs := Lib.hid hGs
      have Hsets := Lib.hid hsets
      have Hpl := Lib.hid hpl
      clear hc hGs hsets hpl
      by_cases hm : may nm = true
      · by_cases hrm : rmay ty da = true
        · have HOk := Lib.hid (show okRec ⟨nm, ty, cl, tt, da⟩ = true by simp [okRec, hm, hrm])
          go_wp2_with fail
          refine (ref_may nm _ (by omega)).mono ?_; rintro e w1 ⟨rfl, hE1⟩
          rw [hm]
          obtain ⟨hq, hqf, hqz⟩ := ext_new hE1
          go_wp2_with fail
          refine (ref_rmay ty da _ (by omega)).mono ?_; rintro e w2 ⟨rfl, hE2⟩
          rw [hrm]
          obtain ⟨hq2, hqf2, hqz2⟩ := ext_new (hE1.trans hE2)
          clear hq hqf hqz
          go_wp2_with fail
          refine (ref_fold nm _ (by omega)).mono ?_; rintro e w3 ⟨rfl, hE3⟩
          obtain ⟨hq3, hqf3, hqz3⟩ := ext_new ((hE1.trans hE2).trans hE3)
          clear hq2 hqf2 hqz2
          go_wp2_with fail
          refine (ref_rfold ty da _ (by omega)).mono ?_; rintro e w4 ⟨rfl, hE4⟩
          have hE14 := ((hE1.trans hE2).trans hE3).trans hE4
          obtain ⟨hq4, hqf4, hqz4⟩ := ext_new hE14
          clear hq3 hqf3 hqz3
          have hEo4 : Ext wo w4 := ((Ext.refl _).alloc _).trans hE14
          have hown4 := hI.own.ext hEo4
          have hdat4 : ∀ p ∈ ps, OStrs w4 w.heap.size p.2 p.1.data := fun p hp => (hI.datas p hp).ext hEo4
          have hEw4 : Ext w w4 := hEo.trans hEo4
          have hln : (fold nm).length ≤ 255 := fold_le nm
          have HA := Lib.hid (show addR sets ⟨nm, ty, cl, tt, da⟩ = if atTo (keyM (fold nm) ty cl) sets sets.length < 0 then sets ++ [⟨fold nm, ty, cl, timeT tt, [rfold ty da]⟩] else sets.modify (atTo (keyM (fold nm) ty cl) sets sets.length).toNat (updS (timeT tt) (rfold ty da)) by unfold addR; rw [HOk.out, if_pos rfl])
          generalize fold nm = fn at *
          generalize rfold ty da = fd at *
          go_wp2_with fail
          go_loopw [8, 9] (fun a i wi => ∃ (j q : Nat), j ≤ ps.length ∧ i = .int .i64 j ∧ a = .int .i64 (atTo (keyM fn ty cl) sets j) ∧ wi = w4.drewN q) (fun _ i _ => ps.length - (intOf i).toNat)
          case atStart => exact ⟨0, 0, by omega, rfl, rfl, rfl⟩
          case round =>
            obtain ⟨j, q, hj, rfl, rfl, rfl⟩ := hrel
            have hab := atTo_bd (keyM fn ty cl) sets j
            by_cases hjl : j < ps.length
            · obtain ⟨g, rfl, hgw, hgz, hgf, hgc⟩ := hown4.addr (by omega)
              have hps : ps[j]? = some ps[j] := List.getElem?_eq_getElem hjl
              have hgc' : ∀ i u, (ps.flatMap setCells)[i]? = some u → w4.cell? ⟨g, 0 + i, none⟩ = some u := fun i u hu => by rw [Nat.zero_add]; exact hgc i u hu
              have hcj := sets_cells hgc' j ps[j] hps
              have Hstep := Lib.hid (show atTo (keyM fn ty cl) sets (j + 1) = if keyM fn ty cl (ps[j].1) then (j : Int) else atTo (keyM fn ty cl) sets j by
                have : sets.getD j SetD.zero = ps[j].1 := by rw [← Hsets.out]; simp [hjl]
                rw [← this]; rfl)
              generalize ps[j] = p at *
              generalize atTo (keyM fn ty cl) sets j = aj at *
              obtain ⟨⟨sn, st, sc, stl, sd⟩, sv⟩ := p
              simp only [Nat.zero_add] at hcj
              obtain ⟨y0, y1, y2, y3, y4⟩ := hcj
              dsimp only at *
              have hji : (j : Int) < (ps.length : Int) := by omega
              have hj0 : (0 : Int) ≤ (j : Int) := by omega
              clear hgc hgc' hps
              by_cases e1 : sn = fn
              · have f1 := str_eq e1
                by_cases e2 : st = ty
                · obtain ⟨f2, _⟩ := eq_ints e2
                  by_cases e3 : sc = cl
                  · obtain ⟨f3, _⟩ := eq_ints e3
                    have HK := Lib.hid (show keyM fn ty cl ⟨sn, st, sc, stl, sd⟩ = true by simp [keyM, e1, e2, e3])
                    clear e1 e2 e3
                    go_wp2_with fail
                    go_quiet (fail)
                    go_wp2_with fail
                    go_roundw
                    case rel => exact ⟨j + 1, _, by omega, by go_num, by rw [Hstep.out, HK.out]; rfl, rfl⟩
                    case measure => simp [intOf]; omega
                  · obtain ⟨f3, _⟩ := ne_ints e3
                    have HK := Lib.hid (show keyM fn ty cl ⟨sn, st, sc, stl, sd⟩ = false by simp [keyM, e3])
                    clear e1 e2 e3
                    go_wp2_with fail
                    go_quiet (fail)
                    go_wp2_with fail
                    go_roundw
                    case rel => exact ⟨j + 1, _, by omega, by go_num, by rw [Hstep.out, HK.out]; rfl, rfl⟩
                    case measure => simp [intOf]; omega
                · obtain ⟨f2, _⟩ := ne_ints e2
                  have HK := Lib.hid (show keyM fn ty cl ⟨sn, st, sc, stl, sd⟩ = false by simp [keyM, e2])
                  clear e1 e2
                  go_wp2_with fail
                  go_quiet (fail)
                  go_wp2_with fail
                  go_roundw
                  case rel => exact ⟨j + 1, _, by omega, by go_num, by rw [Hstep.out, HK.out]; rfl, rfl⟩
                  case measure => simp [intOf]; omega
              · have f1 := str_ne e1
                have HK := Lib.hid (show keyM fn ty cl ⟨sn, st, sc, stl, sd⟩ = false by simp [keyM, e1])
                clear e1
                go_wp2_with fail
                go_quiet (fail)
                go_wp2_with fail
                go_roundw
                case rel => exact ⟨j + 1, _, by omega, by go_num, by rw [Hstep.out, HK.out]; rfl, rfl⟩
                case measure => simp [intOf]; omega
            · obtain rfl : j = ps.length := by omega
              rw [Hpl.out] at hab
              rw [show atTo (keyM fn ty cl) sets ps.length = atTo (keyM fn ty cl) sets sets.length by rw [Hpl.out]]
              generalize atTo (keyM fn ty cl) sets sets.length = aj at *
              obtain ⟨W, hW⟩ : ∃ W, W = w4.drewN q := ⟨_, rfl⟩
              rw [← hW]
              have hEW : Ext w4 W := by rw [hW]; exact (Ext.refl _).drewN q
              have hownW := hown4.ext hEW
              have hdatW : ∀ p ∈ ps, OStrs W w.heap.size p.2 p.1.data := fun p hp => (hdat4 p hp).ext hEW
              have hEwW : Ext w W := hEw4.trans hEW
              obtain ⟨hqW, hqfW, hqzW⟩ := ext_new (hE14.trans hEW)
              clear hW hq4 hqf4 hqz4 hown4 hdat4
              by_cases hneg : aj < 0
              · have HF := Lib.hid (HGs.out.trans (HA.out.trans (if_pos hneg)))
                go_wp2_with fail
                have hx1 : W.cell? ⟨wo.heap.size, 1, none⟩ = some (.int .u16 ty) := hqW 1
                have hx2 : W.cell? ⟨wo.heap.size, 2, none⟩ = some (.int .u16 cl) := hqW 2
                have hx3 : W.cell? ⟨wo.heap.size, 3, none⟩ = some (.int .u32 tt) := hqW 3
                go_region_held3 (fun V => V.cell? ⟨wo.heap.size, 1, none⟩ = some (.int .u16 ty) ∧ V.cell? ⟨wo.heap.size, 2, none⟩ = some (.int .u16 cl) ∧ V.cell? ⟨wo.heap.size, 3, none⟩ = some (.int .u32 tt))
                  (first | go_keep | (refine ⟨hg5.cell ?_ (fun e => absurd (hI.own.blk _ e.symm).2 (Nat.lt_irrefl _)), hg5.cell ?_ (fun e => absurd (hI.own.blk _ e.symm).2 (Nat.lt_irrefl _)), hg5.cell ?_ (fun e => absurd (hI.own.blk _ e.symm).2 (Nat.lt_irrefl _))⟩ <;> go_keep))
                  (first
                    | (go_at_call 56; refine (ref_time _ _).mono ?_; rintro e w' ⟨rfl, rfl⟩)
                    | (refine step_app _ (by rfl) (.tmp 79) (.tmp 91) _ (by rfl) w.heap.size 27 i0 _ 5 48 Tryz.underlying22 hi0 hz0 hz1 hz2 rfl (by omega) A ps.length c (ps.flatMap setCells) (by rfl) (by exact hownW.ext (by (repeat (first | with_reducible exact Ext.refl _ | with_reducible assumption | with_reducible refine Ext.alloc ?_ _ | with_reducible refine Ext.drewN ?_ _ | with_reducible refine Ext.drew ?_ | (with_reducible refine Ext.setCell ?_ ?hp _; case hp => (simp <;> omega)))))) 0 _ 1 1 (setCells (⟨fn, ty, cl, timeT tt, [fd]⟩, .slice (some ⟨W.heap.size, 0, none⟩) 1 1)) (by rfl) (by exact (rd_new _ _ (by simp) _ _ 1 5 rfl).drew) (set_oneS _ _ _ _) (by omega) (by omega) (by have := hEwW.size; simp; omega) ?_; intro A5 c5 w5 hown5 hg5 hb5 hat5))
                all_goals
                  go_wp2_with fail
                  go_roundw
                  case rel =>
                    refine ⟨k + 1, ps ++ [(⟨fn, ty, cl, timeT tt, [fd]⟩, .slice (some ⟨W.heap.size, 0, none⟩) 1 1)], A5, c5, by omega, by go_num, by simp, ⟨?_, ?_, ?_, ?_⟩⟩
                    · rw [HF.out, List.map_append, Hsets.out]; rfl
                    · simpa using hown5
                    · intro p hp
                      rcases List.mem_append.1 hp with h | h
                      · exact OStrs.kept (OStrs.ext (hdatW p h) (by (repeat (first | with_reducible exact Ext.refl _ | with_reducible assumption | with_reducible refine Ext.alloc ?_ _ | with_reducible refine Ext.drewN ?_ _ | with_reducible refine Ext.drew ?_ | (with_reducible refine Ext.setCell ?_ ?hp _; case hp => (simp <;> omega)))))) hg5 (ostrs_ne (hdatW p h) hownW)
                      · rw [List.mem_singleton] at h
                        subst h
                        refine OStrs.kept (OStrs.ext (w := W.alloc (.cells #[S fd] 9)) ⟨_, 1, rfl, own_lit W _ _ rfl hEwW.size _ _ 1 1 rfl (by unfold maxLen; omega)⟩ (by (repeat (first | with_reducible exact Ext.refl _ | with_reducible assumption | with_reducible refine Ext.alloc ?_ _ | with_reducible refine Ext.drewN ?_ _ | with_reducible refine Ext.drew ?_ | (with_reducible refine Ext.setCell ?_ ?hp _; case hp => (simp <;> omega)))))) hg5 (.inr fun e => absurd (hownW.blk _ e.symm).2 (Nat.lt_irrefl _))
                    · exact Ext.then (lo := w.heap.size) (hEwW.trans (by (repeat (first | with_reducible exact Ext.refl _ | with_reducible assumption | with_reducible refine Ext.alloc ?_ _ | with_reducible refine Ext.drewN ?_ _ | with_reducible refine Ext.drew ?_ | (with_reducible refine Ext.setCell ?_ ?hp _; case hp => (simp <;> omega)))))) hb5 (Nat.le_refl _)
                  case measure => simp [intOf]; omega
              · have hF := HGs.out.trans (HA.out.trans (if_neg hneg))
                obtain ⟨an, rfl⟩ := Int.eq_ofNat_of_zero_le (show 0 ≤ aj by omega)
                rw [Int.toNat_natCast] at hF
                have HF := Lib.hid hF
                clear hF hneg
                have han : an < ps.length := by rw [Hpl.out]; omega
                obtain ⟨g, rfl, hgw, hgz, hgf, hgc⟩ := hownW.addr (by omega)
                have hps : ps[an]? = some ps[an] := List.getElem?_eq_getElem han
                have hgc' : ∀ i u, (ps.flatMap setCells)[i]? = some u → W.cell? ⟨g, 0 + i, none⟩ = some u := fun i u hu => by rw [Nat.zero_add]; exact hgc i u hu
                have hcj := sets_cells hgc' an ps[an] hps
                have hda := hdatW ps[an] (List.getElem_mem han)
                have hsd := hsb ps[an].1 (by rw [← Hsets.out]; exact List.mem_map.2 ⟨_, List.getElem_mem han, rfl⟩)
                generalize hpe : ps[an] = p at *
                obtain ⟨⟨sn, st, sc, stl, sd⟩, sv⟩ := p
                simp only [Nat.zero_add] at hcj
                obtain ⟨y0, y1, y2, y3, y4⟩ := hcj
                dsimp only at *
                have hani : (an : Int) < (ps.length : Int) := by omega
                have han0 : (0 : Int) ≤ (an : Int) := by omega
                have hx3 : W.cell? ⟨wo.heap.size, 3, none⟩ = some (.int .u32 tt) := hqW 3
                have hgne : g < wo.heap.size := (hI.own.blk g rfl).2
                clear hgc hgc' hpe
                go_wp2_with fail
                go_still_tail 13, (by kernel_rfl)
                still_call ((ref_time tt _).mono fun _ _ ⟨h1, h2⟩ => ⟨h1, h2.symm⟩)
                repeat still_step
                refine wpStill_nil ?_
                go_wp2_with fail
                have hls : (ps.flatMap setCells).length = ps.length * 5 := hownW.1
                have hj3 : an * 5 + 3 < ps.length * 5 := by omega
                have hj4 : an * 5 + 4 < ps.length * 5 := by omega
                have hdW : ∀ p ∈ ps, OStrs (W.setCell ⟨g, an * 5 + 3, none⟩ (.int .u32 (min stl (timeT tt)))).drew w.heap.size p.2 p.1.data := fun p hp => (OStrs.set_other (p := ⟨g, an * 5 + 3, none⟩) (hdatW p hp) (.int .u32 (min stl (timeT tt))) (ostrs_ne (hdatW p hp) hownW)).ext ((Ext.refl _).drew)
                have hoW : Own (W.setCell ⟨g, an * 5 + 3, none⟩ (.int .u32 (min stl (timeT tt)))).drew w.heap.size 27 5 (some ⟨g, 0, none⟩) ps.length c ((ps.set an (⟨sn, st, sc, min stl (timeT tt), sd⟩, sv)).flatMap setCells) := by
                  rw [← flat_set ps an (⟨sn, st, sc, stl, sd⟩, sv) (⟨sn, st, sc, min stl (timeT tt), sd⟩, sv) 3 (.int .u32 (min stl (timeT tt))) hps (by omega) rfl]
                  exact (hownW.stored _ _ hj3).ext ((Ext.refl _).drew)
                have hdaW := (OStrs.set_other (p := ⟨g, an * 5 + 3, none⟩) hda (.int .u32 (min stl (timeT tt))) (ostrs_ne hda hownW)).ext ((Ext.refl _).drew)
                have y4W : (W.setCell ⟨g, an * 5 + 3, none⟩ (.int .u32 (min stl (timeT tt)))).drew.cell? ⟨g, an * 5 + 4, none⟩ = some sv := by
                  show (W.setCell _ _).cell? _ = _
                  rw [World.cell?_setCell_other _ _ _ _ (by simp)]; exact y4
                have hfW : (W.setCell ⟨g, an * 5 + 3, none⟩ (.int .u32 (min stl (timeT tt)))).drew.frozen? ⟨g, an * 5 + 4, none⟩ = false := by
                  show (W.setCell _ _).frozen? _ = _
                  rw [World.frozen?_setCell]; exact hgf _
                have hEwX : Ext w (W.setCell ⟨g, an * 5 + 3, none⟩ (.int .u32 (min stl (timeT tt)))).drew := (hEwW.setCell hgw _).drew
                have hgX : g < (W.setCell ⟨g, an * 5 + 3, none⟩ (.int .u32 (min stl (timeT tt)))).drew.heap.size := by simp; exact hgz
                generalize (W.setCell ⟨g, an * 5 + 3, none⟩ (.int .u32 (min stl (timeT tt)))).drew = X at *
                refine (ref_put w.heap.size sv sd fd X hdaW hEwX.size (by omega)).mono ?_; rintro e w5 ⟨v2, rfl, ho2, hE5⟩
                obtain ⟨A2, c2, rfl, ho2'⟩ := ho2
                have y45 := (hE5.cell (p := ⟨g, _, none⟩) hgX).trans y4W
                have hf5 := (hE5.frozen (p := ⟨g, _, none⟩) hgX).trans hfW
                have hgz5 : g < w5.heap.size := Nat.lt_of_lt_of_le hgX hE5.size
                clear y4W hfW y0 y1 y2 y3 y4
                go_wp2_with fail
                go_roundw
                case rel =>
                  have hoW5 := hoW.ext hE5
                  have hnew : OStrs w5 w.heap.size (.slice A2 (putS sd fd).length c2) (putS sd fd) := ⟨A2, c2, rfl, ho2'⟩
                  refine ⟨k + 1, ps.set an (⟨sn, st, sc, min stl (timeT tt), putS sd fd⟩, .slice A2 (putS sd fd).length c2), some ⟨g, 0, none⟩, c, by omega, by go_num, by simp, ⟨?_, ?_, ?_, ?_⟩⟩
                  · rw [HF.out, ← Hsets.out]
                    apply List.ext_getElem?
                    intro i
                    simp only [List.map_set, List.getElem?_set, List.getElem?_modify, List.getElem?_map, List.length_map]
                    by_cases hi : an = i
                    · subst hi
                      have hpe := (List.getElem?_eq_some_iff.1 hps).2
                      simp [hpe, han, updS]
                    · simp [hi]
                  · have h6 := hoW5.stored (an * 5 + 4) (.slice A2 (putS sd fd).length c2) hj4
                    rw [flat_set _ an (⟨sn, st, sc, min stl (timeT tt), sd⟩, sv) (⟨sn, st, sc, min stl (timeT tt), putS sd fd⟩, .slice A2 (putS sd fd).length c2) 4 _ (by rw [List.getElem?_set_self han]) (by omega) rfl, List.set_set] at h6
                    simpa using h6
                  · intro p hp
                    rcases List.mem_or_eq_of_mem_set hp with h | h
                    · have h7 := (hdW p h).ext hE5
                      exact OStrs.set_other (p := ⟨g, an * 5 + 4, none⟩) h7 _ (ostrs_ne h7 hoW5)
                    · subst h
                      exact OStrs.set_other (p := ⟨g, an * 5 + 4, none⟩) hnew _ (ostrs_ne hnew hoW5)
                  · exact (hEwX.trans hE5).setCell hgw _
                case measure => simp [intOf]; omega
        · have hrm' : rmay ty da = false := by simpa using hrm
          have HOk := Lib.hid (show addR sets ⟨nm, ty, cl, tt, da⟩ = sets by unfold addR; rw [show okRec ⟨nm, ty, cl, tt, da⟩ = false by simp [okRec, hm, hrm'], if_neg (by simp)])
          clear hrm
          go_wp2_with fail
          refine (ref_may nm _ (by omega)).mono ?_; rintro e w1 ⟨rfl, hE1⟩
          rw [hm]
          obtain ⟨hq, hqf, hqz⟩ := ext_new hE1
          go_wp2_with fail
          refine (ref_rmay ty da _ (by omega)).mono ?_; rintro e w2 ⟨rfl, hE2⟩
          rw [hrm']
          have hEo2 : Ext wo w2 := ((Ext.refl _).alloc _).trans (hE1.trans hE2)
          go_wp2_with fail
          go_roundw
          case rel =>
            exact ⟨k + 1, ps, A, c, by omega, by go_num, rfl, ⟨by rw [HGs.out, HOk.out]; exact Hsets.out, hI.own.ext hEo2, fun p hp => (hI.datas p hp).ext hEo2, hEo.trans hEo2⟩⟩
          case measure => simp [intOf]; omega
      · have hm' : may nm = false := by simpa using hm
        have HOk := Lib.hid (show addR sets ⟨nm, ty, cl, tt, da⟩ = sets by unfold addR; rw [show okRec ⟨nm, ty, cl, tt, da⟩ = false by simp [okRec, hm'], if_neg (by simp)])
        clear hm
        go_wp2_with fail
        refine (ref_may nm _ (by omega)).mono ?_; rintro e w1 ⟨rfl, hE1⟩
        rw [hm']
        have hEo2 : Ext wo w1 := ((Ext.refl _).alloc _).trans hE1
        go_wp2_with fail
        go_roundw
        case rel =>
          exact ⟨k + 1, ps, A, c, by omega, by go_num, rfl, ⟨by rw [HGs.out, HOk.out]; exact Hsets.out, hI.own.ext hEo2, fun p hp => (hI.datas p hp).ext hEo2, hEo.trans hEo2⟩⟩
        case measure => simp [intOf]; omega
    · obtain rfl : k = l.length := by omega
      have hG : Hid (G = selF l.length (groupTo l l.length)) := HG
      have hsb := groupTo_bd l l.length (Nat.le_refl _)
      have hgl := groupTo_len l l.length (Nat.le_refl _)
      obtain ⟨hsets, hown, hdat, hext⟩ := hI
      rw [← hsets] at hG hsb hgl
      have hsb' : ∀ p ∈ ps, p.1.name.length ≤ 255 := fun p hp => (hsb p.1 (List.mem_map.2 ⟨p, hp, rfl⟩)).1
      have hpl : ps.length ≤ l.length := by simpa using hgl
      clear hsb hgl hsets hlt
      go_wp2_with fail
      go_loopw [3, 10] (fun s o wr => ∃ (ss os : List (SetD × Value)) (sA : Option Addr) (sc : Nat) (oA : Option Addr) (oc : Nat), s = .slice sA ss.length sc ∧ o = .slice oA os.length oc ∧ SelInv w G l.length ss os sA sc oA oc wr) (fun s _ _ => lenOf s)
      case atStart => exact ⟨ps, [], A, c, none, 0, rfl, rfl, ⟨by simpa using hpl, hown, Own.nil _ _ _ _, hdat, by simp, .inl rfl, hsb', hext, by simpa using hG.out⟩⟩
      case round =>
        obtain ⟨ss, os, sA, sc, oA, oc, rfl, rfl, hJ⟩ := hrel
        obtain ⟨wo, rfl⟩ : ∃ wo : World, wo = wr := ⟨_, rfl⟩
        have hF := hJ.fuel
        clear hown hdat hext hsb' hpl hG
        by_cases hn0 : ss.length = 0
        · have hss : ss = [] := List.eq_nil_of_length_eq_zero hn0
          subst hss
          have HF : Hid (G = os.map Prod.fst) := by
            show G = os.map Prod.fst
            rw [hJ.eq]
            rcases l.length - os.length with _ | n <;> simp [selF]
          go_wp2_with fail
          go_ret
          exact ⟨_, rfl, by rw [HF.out]; exact ⟨os, oA, oc, rfl, rfl, hJ.oown, hJ.odat⟩, hJ.ext⟩
        · have hn1 : 0 < ss.length := by omega
          go_wp2_with fail
          go_loopw [11, 12] (fun m i wi => ∃ (j : Nat), 1 ≤ j ∧ j ≤ ss.length ∧ i = .int .i64 j ∧ m = .int .i64 (minTo (ss.map Prod.fst) j) ∧ Ext wo wi) (fun _ i _ => ss.length - (intOf i).toNat)
          case atStart => exact ⟨1, by omega, by omega, rfl, rfl, Ext.refl _⟩
          case round =>
            obtain ⟨j, hj1, hj2, rfl, rfl, hE⟩ := hrel
            obtain ⟨wi', rfl⟩ : ∃ wi' : World, wi' = wr := ⟨_, rfl⟩
            have hmt := minTo_lt (ss.map Prod.fst) j (by omega)
            by_cases hjl : j < ss.length
            · obtain ⟨g, hgA, hgw, hgz, hgf, hgc⟩ := hJ.sown.addr (by omega)
              have hgA' := hgA
              subst hgA'
              have hgc' : ∀ i u, (ss.flatMap setCells)[i]? = some u → wi'.cell? ⟨g, 0 + i, none⟩ = some u := fun i u hu => by rw [Nat.zero_add]; exact (hE.cell (p := ⟨g, i, none⟩) hgz).trans (hgc i u hu)
              have hmt' : minTo (ss.map Prod.fst) j < ss.length := by omega
              have g1 := sets_cells hgc' j ss[j] (List.getElem?_eq_getElem hjl)
              have g2 := sets_cells hgc' (minTo (ss.map Prod.fst) j) ss[minTo (ss.map Prod.fst) j] (List.getElem?_eq_getElem hmt')
              have s1 := (hJ.sdat ss[j] (List.getElem_mem hjl)).strs.ext hE
              have s2 := (hJ.sdat ss[minTo (ss.map Prod.fst) j] (List.getElem_mem hmt')).strs.ext hE
              have n1 := hJ.names ss[j] (List.getElem_mem hjl)
              have n2 := hJ.names ss[minTo (ss.map Prod.fst) j] (List.getElem_mem hmt')
              have HM := Lib.hid (show minTo (ss.map Prod.fst) (j + 1) = if beforeS ss[j].1 ss[minTo (ss.map Prod.fst) j].1 then j else minTo (ss.map Prod.fst) j by
                conv => lhs; unfold minTo
                rw [if_neg (by omega)]
                have e1 : (ss.map Prod.fst).getD j SetD.zero = ss[j].1 := by simp [hjl]
                have e2 : (ss.map Prod.fst).getD (minTo (ss.map Prod.fst) j) SetD.zero = ss[minTo (ss.map Prod.fst) j].1 := by simp [hmt']
                rw [e1, e2])
              generalize ss[j] = p at *
              generalize ss[minTo (ss.map Prod.fst) j] = r at *
              generalize minTo (ss.map Prod.fst) j = m at *
              obtain ⟨⟨pn, pt, pc, ptl, pd⟩, pv⟩ := p
              obtain ⟨⟨qn, qt, qc, qtl, qd⟩, qv⟩ := r
              dsimp only at *
              obtain ⟨pA, pcc, rfl⟩ := s1.shape
              obtain ⟨qA, qcc, rfl⟩ := s2.shape
              simp only [Nat.zero_add] at g1 g2
              obtain ⟨x0, x1, x2, x3, x4⟩ := g1
              obtain ⟨y0, y1, y2, y3, y4⟩ := g2
              have hji : (j : Int) < (ss.length : Int) := by omega
              have hj0 : (0 : Int) ≤ (j : Int) := by omega
              have hmi : (m : Int) < (ss.length : Int) := by omega
              have hm0 : (0 : Int) ≤ (m : Int) := by omega
              have HC := Lib.hid (fun W (hW : Ext wi' W) => ref_before ⟨pn, pt, pc, ptl, pd⟩ ⟨qn, qt, qc, qtl, qd⟩ (.slice pA pd.length pcc) (.slice qA qd.length qcc) w.heap.size w.heap.size W (s1.ext hW) (s2.ext hW) (by dsimp only; omega) (by dsimp only; omega))
              clear hgc hgc'
              rcases hbf : beforeS ⟨pn, pt, pc, ptl, pd⟩ ⟨qn, qt, qc, qtl, qd⟩ with _ | _
              all_goals
                rw [hbf] at HC HM
                clear hbf
                go_wp2_with fail
                go_still_tail 8, (by kernel_rfl)
                go_wp2_with fail
                refine (HC.out _ ?hW).mono ?_
                case hW => exact (Ext.refl wi').drew
                rintro e w2 ⟨rfl, hE2⟩
                go_wp2_with fail
                go_roundw
                case rel => exact ⟨j + 1, by omega, by omega, by go_num, by rw [HM.out]; rfl, hE.trans (((Ext.refl wi').drew).trans hE2)⟩
                case measure => simp [intOf]; omega
            · obtain rfl : j = ss.length := by omega
              obtain ⟨g, hgA, hgw, hgz, hgf, hgc⟩ := hJ.sown.addr (by omega)
              have hgA' := hgA
              subst hgA'
              have hgc' : ∀ i u, (ss.flatMap setCells)[i]? = some u → wi'.cell? ⟨g, 0 + i, none⟩ = some u := fun i u hu => by rw [Nat.zero_add]; exact (hE.cell (p := ⟨g, i, none⟩) hgz).trans (hgc i u hu)
              have g2 := sets_cells hgc' (minTo (ss.map Prod.fst) ss.length) ss[minTo (ss.map Prod.fst) ss.length] (List.getElem?_eq_getElem hmt)
              have hEq := hJ.eq
              have HS := Lib.hid (show G = (os ++ [ss[minTo (ss.map Prod.fst) ss.length]]).map Prod.fst ++ selF (l.length - (os.length + 1)) ((ss.take (minTo (ss.map Prod.fst) ss.length) ++ ss.drop (minTo (ss.map Prod.fst) ss.length + 1)).map Prod.fst) by
                rw [hEq, show l.length - os.length = (l.length - (os.length + 1)) + 1 by omega]
                conv => lhs; unfold selF
                rw [if_neg (by rw [List.length_map]; exact hn0), List.length_map]
                have e2 : (ss.map Prod.fst).getD (minTo (ss.map Prod.fst) ss.length) SetD.zero = ss[minTo (ss.map Prod.fst) ss.length].1 := by simp [hmt]
                rw [e2]
                simp)
              have s2 := (hJ.sdat ss[minTo (ss.map Prod.fst) ss.length] (List.getElem_mem hmt)).ext hE
              have hmem : ss[minTo (ss.map Prod.fst) ss.length] ∈ ss := List.getElem_mem hmt
              generalize hre : ss[minTo (ss.map Prod.fst) ss.length] = r at *
              generalize minTo (ss.map Prod.fst) ss.length = m at *
              obtain ⟨⟨qn, qt, qc, qtl, qd⟩, qv⟩ := r
              dsimp only at *
              obtain ⟨qA, qcc, rfl, hqo⟩ := s2
              simp only [Nat.zero_add] at g2
              obtain ⟨y0, y1, y2, y3, y4⟩ := g2
              have hmi : (m : Int) < (ss.length : Int) := by omega
              have hm0 : (0 : Int) ≤ (m : Int) := by omega
              have hoo := hJ.oown.ext hE
              have hso := hJ.sown.ext hE
              have hEwi := hJ.ext.trans hE
              clear hgc hgc' hre hEq
              go_wp2_with (first
                | (at_builtin
                   refine wpList_app _ rfl (.tmp 136) (.tmp 141) _ rfl w.heap.size 27 i0 _ 5 48 Tryz.underlying22 hi0 hz0 hz1 hz2 rfl (by omega) oA os.length oc (os.flatMap setCells) rfl (hoo.ext ((Ext.refl _).alloc _)) 0 _ 1 1 (setCells (⟨qn, qt, qc, qtl, qd⟩, .slice qA qd.length qcc)) rfl (rd_new _ _ (by simp) _ _ 1 5 rfl) (set_oneS _ _ _ _) (by omega) (by omega) (by have := hEwi.size; simp; omega) ?_
                   intro A5 c5 w5 hown5 hg5 hb5 hat5))
              have hal : Ext wi' (wi'.alloc (.cells (setCells (⟨qn, qt, qc, qtl, qd⟩, .slice qA qd.length qcc)).toArray 27)) := (Ext.refl _).alloc _
              have hap : (Value.slice (some ⟨g, 0, none⟩) ss.length sc).ownBlock = none ∨ (Value.slice (some ⟨g, 0, none⟩) ss.length sc).ownBlock ≠ (Value.slice oA os.length oc).ownBlock := by
                right
                rcases hJ.apart with h | h
                · rw [h]; simp [Value.ownBlock]
                · exact fun e => h e.symm
              have hso5 := (hso.ext hal).kept hg5 hap
              have hsd5 : ∀ p ∈ ss, OStrs w5 w.heap.size p.2 p.1.data := fun p hp => (((hJ.sdat p hp).ext hE).ext hal).kept hg5 (ostrs_ne ((hJ.sdat p hp).ext hE) hoo)
              have hod5 : ∀ p ∈ os ++ [(⟨qn, qt, qc, qtl, qd⟩, Value.slice qA qd.length qcc)], OStrs w5 w.heap.size p.2 p.1.data := by
                intro p hp
                rcases List.mem_append.1 hp with h | h
                · exact (((hJ.odat p h).ext hE).ext hal).kept hg5 (ostrs_ne ((hJ.odat p h).ext hE) hoo)
                · rw [List.mem_singleton] at h; subst h; exact hsd5 _ hmem
              have hap5 : (Value.slice A5 (os.length + 1) c5).ownBlock = none ∨ (Value.slice A5 (os.length + 1) c5).ownBlock ≠ (Value.slice (some ⟨g, 0, none⟩) ss.length sc).ownBlock := by
                rcases hat5 with e | e
                · rw [e]; exact hJ.apart
                · rw [e]; right; intro e'
                  have h1 := (hso.blk g rfl).2
                  simp [Value.ownBlock] at e'
                  omega
              have hE5 : Ext w w5 := Ext.then (lo := w.heap.size) (hEwi.trans hal) hb5 (Nat.le_refl _)
              have hsc := hso.cap
              have hr1 := hso5.rd.takeS m (by omega) rfl
              have hr2 := hso5.rd.dropS (m + 1) (by omega) rfl
              have ho1 := set_oneL (ss := ss.take m) (fun p hp => hsd5 p (List.mem_of_mem_take hp))
              have ho2 := set_oneL (ss := ss.drop (m + 1)) (fun p hp => hsd5 p (List.mem_of_mem_drop hp))
              clear hoo hal hg5 hb5 hat5 hmt hE hj1 hj2
              have hm1 : (m : Int) + 1 ≤ (ss.length : Int) := by omega
              have hms : (m : Int) ≤ (sc : Int) := by omega
              have hns : (ss.length : Int) ≤ (sc : Int) := by omega
              have hwr : IntKind.i64.wrap ((m : Int) + 1) = ((m + 1 : Nat) : Int) := by first | go_num | (simp [IntKind.wrap, IntKind.bits, IntKind.signed]; omega)
              have hm3 : ((m + 1 : Nat) : Int) ≤ (ss.length : Int) := by omega
              have hm4 : (0 : Int) ≤ (m : Int) + 1 := by omega
              have hapz : (Value.slice (some ⟨g, 0, none⟩) ss.length sc).ownBlock = none ∨ (Value.slice (some ⟨g, 0, none⟩) ss.length sc).ownBlock ≠ (Value.slice (some ⟨w5.heap.size, 0, none⟩) 0 0).ownBlock := .inr fun e => by
                have h1 := (hso5.blk g rfl).2
                simp [Value.ownBlock] at e
                omega
              have hr2f : ∀ W, Own W w.heap.size 27 5 (some ⟨g, 0, none⟩) ss.length sc (ss.flatMap setCells) → Rd W w.heap.size 5 (if sc = m + 1 then some ⟨g, 0, none⟩ else some ⟨g, (m + 1) * 5, none⟩) (ss.length - (m + 1)) ((ss.drop (m + 1)).flatMap setCells) := fun W hW => by
                split
                · have h0 : ss.length = m + 1 := by omega
                  rw [List.drop_eq_nil_of_le (by omega), show ss.length - (m + 1) = 0 by omega]
                  exact Rd.nil _ _ _ _
                · have := hW.rd.dropS (m + 1) (by omega) rfl
                  rwa [Nat.zero_add] at this
              have hoz := (own_zero w5 27 5).lower hE5.size
              have hap6 : (Value.slice A5 (os.length + 1) c5).ownBlock = none ∨ (Value.slice A5 (os.length + 1) c5).ownBlock ≠ (Value.slice (some ⟨w5.heap.size, 0, none⟩) 0 0).ownBlock := by
                rcases h : (Value.slice A5 (os.length + 1) c5).ownBlock with _ | k
                · exact .inl rfl
                · right; intro e
                  have h1 := (hown5.blk k h).2
                  simp [Value.ownBlock] at e
                  omega
              go_region_law (first
                | (refine step_app _ (by rfl) (.tmp 143) (.tmp 146) _ (by rfl) w.heap.size 27 i0 _ 5 48 Tryz.underlying22 hi0 hz0 hz1 hz2 rfl (by omega) (some ⟨w5.heap.size, 0, none⟩) 0 0 [] (by rfl) (by exact hoz.ext (by (repeat (first | with_reducible exact Ext.refl _ | with_reducible assumption | with_reducible refine Ext.alloc ?_ _ | with_reducible refine Ext.drewN ?_ _ | with_reducible refine Ext.drew ?_ | (with_reducible refine Ext.setCell ?_ ?hp _; case hp => (simp <;> omega)))))) w.heap.size (some ⟨g, 0, none⟩) m sc ((ss.take m).flatMap setCells) (by rfl) (by exact hr1.ext (by (repeat (first | with_reducible exact Ext.refl _ | with_reducible assumption | with_reducible refine Ext.alloc ?_ _ | with_reducible refine Ext.drewN ?_ _ | with_reducible refine Ext.drew ?_ | (with_reducible refine Ext.setCell ?_ ?hp _; case hp => (simp <;> omega)))))) ho1 (by omega) (by omega) (by have := hE5.size; simp; omega) ?_; intro A6 c6 w6 hown6 hg6 hb6 hat6; rw [Nat.zero_add, List.nil_append] at hown6; rw [Nat.zero_add] at hat6)
                | (refine step_app _ (by rfl) (.tmp 147) (.tmp 151) _ (by rfl) w.heap.size 27 i0 _ 5 48 Tryz.underlying22 hi0 hz0 hz1 hz2 rfl (by omega) A6 m c6 ((ss.take m).flatMap setCells) (by rfl) (by exact hown6.ext (by (repeat (first | with_reducible exact Ext.refl _ | with_reducible assumption | with_reducible refine Ext.alloc ?_ _ | with_reducible refine Ext.drewN ?_ _ | with_reducible refine Ext.drew ?_ | (with_reducible refine Ext.setCell ?_ ?hp _; case hp => (simp <;> omega)))))) w.heap.size (if sc = m + 1 then some ⟨g, 0, none⟩ else some ⟨g, (m + 1) * 5, none⟩) (ss.length - (m + 1)) (sc - (m + 1)) ((ss.drop (m + 1)).flatMap setCells) (by rfl) (by exact (hr2f _ ((hso5.ext (by (repeat (first | with_reducible exact Ext.refl _ | with_reducible assumption | with_reducible refine Ext.alloc ?_ _ | with_reducible refine Ext.drewN ?_ _ | with_reducible refine Ext.drew ?_ | (with_reducible refine Ext.setCell ?_ ?hp _; case hp => (simp <;> omega)))))).kept hg6 hapz)).ext (by (repeat (first | with_reducible exact Ext.refl _ | with_reducible assumption | with_reducible refine Ext.alloc ?_ _ | with_reducible refine Ext.drewN ?_ _ | with_reducible refine Ext.drew ?_ | (with_reducible refine Ext.setCell ?_ ?hp _; case hp => (simp <;> omega)))))) ho2 (by omega) (by omega) (by exact (Ext.then (lo := w.heap.size) (hE5.trans (by (repeat (first | with_reducible exact Ext.refl _ | with_reducible assumption | with_reducible refine Ext.alloc ?_ _ | with_reducible refine Ext.drewN ?_ _ | with_reducible refine Ext.drew ?_ | (with_reducible refine Ext.setCell ?_ ?hp _; case hp => (simp <;> omega)))))) hb6 (Nat.le_refl _)).size) ?_; intro A7 c7 w7 hown7 hg7 hb7 hat7))
              have k6 : ∀ {v : Value} {d : List (List UInt8)}, OStrs w5 w.heap.size v d → OStrs w6 w.heap.size v d := fun h => (h.ext (by (repeat (first | with_reducible exact Ext.refl _ | with_reducible assumption | with_reducible refine Ext.alloc ?_ _ | with_reducible refine Ext.drewN ?_ _ | with_reducible refine Ext.drew ?_ | (with_reducible refine Ext.setCell ?_ ?hp _; case hp => (simp <;> omega)))))).kept hg6 (ostrs_ne (h.ext ((Ext.refl w5).alloc _)) hoz)
              have k7 : ∀ {v : Value} {d : List (List UInt8)}, OStrs w6 w.heap.size v d → OStrs w7 w.heap.size v d := fun h => (h.ext (by (repeat (first | with_reducible exact Ext.refl _ | with_reducible assumption | with_reducible refine Ext.alloc ?_ _ | with_reducible refine Ext.drewN ?_ _ | with_reducible refine Ext.drew ?_ | (with_reducible refine Ext.setCell ?_ ?hp _; case hp => (simp <;> omega)))))).kept hg7 (ostrs_ne h hown6)
              have ho6 := (hown5.ext (by (repeat (first | with_reducible exact Ext.refl _ | with_reducible assumption | with_reducible refine Ext.alloc ?_ _ | with_reducible refine Ext.drewN ?_ _ | with_reducible refine Ext.drew ?_ | (with_reducible refine Ext.setCell ?_ ?hp _; case hp => (simp <;> omega)))))).kept hg6 hap6
              have hq6 : (Value.slice A5 (os.length + 1) c5).ownBlock = none ∨ (Value.slice A5 (os.length + 1) c5).ownBlock ≠ (Value.slice A6 m c6).ownBlock := apart_step hap6 (fun k hk => by have := (hown5.blk k hk).2; simp; omega) hat6
              have ho7 := (ho6.ext (by (repeat (first | with_reducible exact Ext.refl _ | with_reducible assumption | with_reducible refine Ext.alloc ?_ _ | with_reducible refine Ext.drewN ?_ _ | with_reducible refine Ext.drew ?_ | (with_reducible refine Ext.setCell ?_ ?hp _; case hp => (simp <;> omega)))))).kept hg7 hq6
              have hq7 := apart_step hq6 (fun k hk => by have := (ho6.blk k hk).2; simpa using this) hat7
              have hE6 : Ext w w6 := Ext.then (lo := w.heap.size) (hE5.trans (by (repeat (first | with_reducible exact Ext.refl _ | with_reducible assumption | with_reducible refine Ext.alloc ?_ _ | with_reducible refine Ext.drewN ?_ _ | with_reducible refine Ext.drew ?_ | (with_reducible refine Ext.setCell ?_ ?hp _; case hp => (simp <;> omega)))))) hb6 (Nat.le_refl _)
              have hE7 : Ext w w7 := Ext.then (lo := w.heap.size) (hE6.trans (by (repeat (first | with_reducible exact Ext.refl _ | with_reducible assumption | with_reducible refine Ext.alloc ?_ _ | with_reducible refine Ext.drewN ?_ _ | with_reducible refine Ext.drew ?_ | (with_reducible refine Ext.setCell ?_ ?hp _; case hp => (simp <;> omega)))))) hb7 (Nat.le_refl _)
              have hln : (ss.take m ++ ss.drop (m + 1)).length = m + (ss.length - (m + 1)) := by rw [List.length_append, List.length_take, List.length_drop]; omega
              have hmm : ∀ p ∈ ss.take m ++ ss.drop (m + 1), p ∈ ss := fun p hp => by
                rcases List.mem_append.1 hp with h | h
                · exact List.mem_of_mem_take h
                · exact List.mem_of_mem_drop h
              have hI7 : SelInv w G l.length (ss.take m ++ ss.drop (m + 1)) (os ++ [(⟨qn, qt, qc, qtl, qd⟩, .slice qA qd.length qcc)]) A7 c7 A5 c5 w7 := by
                refine ⟨by rw [hln, List.length_append]; simp; omega, ?_, ?_, fun p hp => k7 (k6 (hsd5 p (hmm p hp))), fun p hp => k7 (k6 (hod5 p hp)), ?_, fun p hp => hJ.names p (hmm p hp), hE7, ?_⟩
                · rw [hln, List.flatMap_append]; exact hown7
                · rw [List.length_append, List.flatMap_append]; simpa using ho7
                · rw [hln, List.length_append]; exact hq7
                · rw [List.length_append]; exact HS.out
              clear k6 k7 ho6 ho7 hq6 hq7 hE6 hmm
              go_wp2_with fail
              go_roundw
              case rel => exact ⟨ss.take m ++ ss.drop (m + 1), os ++ [(⟨qn, qt, qc, qtl, qd⟩, .slice qA qd.length qcc)], A7, c7, ⟨rfl, hln.symm, rfl⟩, A5, c5, ⟨rfl, by simp, rfl⟩, hI7⟩
              case measure => simp [lenOf]; omega
              exact ⟨⟨ss.take m ++ ss.drop (m + 1), os ++ [(⟨qn, qt, qc, qtl, qd⟩, .slice qA qd.length qcc)], A7, c7, ⟨rfl, hln.symm, rfl⟩, A5, c5, ⟨rfl, by simp, rfl⟩, hI7⟩, by simp [lenOf]; omega⟩
end Go.Proofs.YthdlgmfeicikpaaGreatDoor
