/- The walk of rrset.Group. -/
import Derived.Test.YthdlgmfeicikpaaGreatDoorRr1b
import Derived.Deep.RegionHeld3
import Derived.Deep.DeepMust
import Derived.Deep.DeepCutAuto
import Derived.StillTailTactics
namespace Go.Proofs.YthdlgmfeicikpaaGreatDoor
set_option linter.unusedSimpArgs false
set_option linter.unusedVariables false
open Go.RowKit
set_option maxRecDepth 100000

/-- What holds ahead of the two last statements of a round. -/
structure GpMid (w wo : World) (l : List RecD) (k : Nat) (ty cl : Int) (da : List UInt8) (T : Int) (J g c : Nat) (PS : List (SetD × Value)) (sn : List UInt8) (sl : Int) (sd : List (List UInt8)) (dA : Option Addr) (dc : Nat) (KS : List SetD) (X : World) : Prop where
  jp : PS[J]? = some (⟨sn, ty, cl, sl, sd⟩, .slice dA sd.length dc)
  own : Own X w.heap.size 27 5 (some ⟨g, 0, none⟩) PS.length c (PS.flatMap setCells)
  datas : ∀ p ∈ PS, OStrs X w.heap.size p.2 p.1.data
  apart : PS.Pairwise fun p q => p.2.ownBlock = none ∨ p.2.ownBlock ≠ q.2.ownBlock
  kmap : KMap X w.heap.size KS
  ext : Ext w X
  b1 : X.cell? ⟨wo.heap.size, 1, none⟩ = some (.int .u16 ty)
  b4 : X.cell? ⟨wo.heap.size, 4, none⟩ = some (S da)
  gne : wo.heap.size ≠ g
  wo : wo.heap.size < X.heap.size
  len : PS.length ≤ 8192 ∧ sd.length ≤ 4096
  ends : rawTo l (k + 1) = (PS.set J (⟨sn, ty, cl, min sl T, sd ++ [rfold ty da]⟩, .slice none 0 0)).map Prod.fst
  keys : (rawTo l (k + 1)).map keyT = KS.map keyT

theorem mod_set {ps : List (SetD × Value)} {j : Nat} {s : SetD} {v : Value} (h : ps[j]? = some (s, v)) (f : SetD → SetD) (u : Value) : (ps.map Prod.fst).modify j f = (ps.set j (f s, u)).map Prod.fst := by
  apply List.ext_getElem?
  intro i
  have hj := (List.getElem?_eq_some_iff.1 h).1
  simp only [List.map_set, List.getElem?_set, List.getElem?_modify, List.getElem?_map, List.length_map]
  by_cases e : j = i
  · subst e
    rw [h, if_pos rfl, if_pos hj]; simp
  · rw [if_neg e]
    cases ps[i]? <;> simp [e]
theorem apart_set {PS : List (SetD × Value)} {J : Nat} {s : SetD} {v : Value} (h : PS.Pairwise fun p q => p.2.ownBlock = none ∨ p.2.ownBlock ≠ q.2.ownBlock) (hj : PS[J]? = some (s, v)) (s' : SetD) : (PS.set J (s', v)).Pairwise fun p q => p.2.ownBlock = none ∨ p.2.ownBlock ≠ q.2.ownBlock := by
  have hJ := (List.getElem?_eq_some_iff.1 hj).1
  have hje := (List.getElem?_eq_some_iff.1 hj).2
  have key : ∀ i (hi : i < PS.length), ((PS.set J (s', v))[i]'(by simpa using hi)).2 = PS[i].2 := fun i hi => by
    rw [List.getElem_set]
    split
    · rename_i e; subst e; rw [hje]
    · rfl
  rw [List.pairwise_iff_getElem] at h ⊢
  intro i j hi hj' hij
  rw [List.length_set] at hi hj'
  rw [key i hi, key j hj']
  exact h i j hi hj' hij

def GrPost (L : List SetD) (w : World) (e : Ending) (w' : World) : Prop := ∃ v R, e = .returned v ∧ R.Perm (L.map cleanS) ∧ RisesW R ∧ OSets w' w.heap.size v R ∧ Ext w w'

set_option maxHeartbeats 8000000 in
theorem rrset_group (lo : Nat) (v : Value) (l : List RecD) (w : World) (hg : Laid w) (h : Recs w lo v l) (hbd : RecsBd l) (hok : RecsOk l) :
    Calls Tryz.prog 22 #[v] w (GrPost (rawTo l l.length) w) := by
  obtain ⟨A0, c0, rfl, h1, h2, hrd⟩ := h
  unfold maxLen at h2
  have hl4 := hbd.1
  obtain ⟨i0, hi0, hz0, hz1, hz2⟩ := info_parts info_set
  obtain ⟨j0, hj0, hy0, hy1, hy2⟩ := info_parts info_str
  have hLb := rawTo_bd l 300000 (fun r hr => ⟨(hbd.2 r hr).2, hok r hr⟩) l.length (Nat.le_refl _)
  have hLl := rawTo_len l l.length (Nat.le_refl _)
  obtain ⟨L0, hL0⟩ : ∃ L0, L0 = rawTo l l.length := ⟨_, rfl⟩
  rw [← hL0]
  rw [← hL0] at hLb hLl
  have HL0 := Lib.hid hL0
  clear hL0
  have hmm := @run_makeMap Tryz.prog
  go_enter Tryz.func22, Tryz.ntmps22
  go_wp2_with fail
  clear hmm
  go_loopw [4, 15] (fun s i wr => ∃ (k : Nat) (ps : List (SetD × Value)) (A : Option Addr) (c : Nat), k ≤ l.length ∧ i = .int .i64 k ∧ s = .slice A ps.length c ∧ GpInv w (rawTo l k) ps A c w.heap.size wr) (fun _ i _ => l.length - (intOf i).toNat)
  case atStart => exact ⟨0, [], none, 0, by omega, rfl, rfl, ⟨rfl, Own.nil _ _ _ _, by simp, List.Pairwise.nil, KMap.made w, Nat.le_refl _, (Ext.refl _).alloc _⟩⟩
  case round =>
    obtain ⟨k, ps, A, c, hk, rfl, rfl, hI⟩ := hrel
    obtain ⟨wo, rfl⟩ : ∃ wo : World, wo = wr := ⟨_, rfl⟩
    have hEo := hI.ext
    by_cases hlt : k < l.length
    · obtain ⟨b, off, rfl, _, hbz, hc⟩ := hrd.2 (by omega)
      have hcs := recs_cells hc k l[k] (List.getElem?_eq_getElem hlt)
      have hxb := hbd.2 l[k] (List.getElem_mem hlt)
      have hxo := hok l[k] (List.getElem_mem hlt)
      have hGs := rawTo_step l k hlt
      have hsb := rawTo_bd l 300000 (fun r hr => ⟨(hbd.2 r hr).2, hok r hr⟩) k hk
      have hgl := rawTo_len l k hk
      have hnd := rawTo_nodup l k hk
      generalize l[k] = x at *
      have hsets := hI.eq
      generalize rawTo l k = sets at *
      have hpl : ps.length = sets.length := by rw [← hsets]; simp
      obtain ⟨nm, ty, cl, tt, da⟩ := x
      dsimp only at *
      obtain ⟨x0, x1, x2, x3, x4⟩ := hcs
      rw [← hEo.cell (p := ⟨b, _, none⟩) hbz] at x0 x1 x2 x3 x4
      have hbz2 : b < wo.heap.size := Nat.lt_of_lt_of_le hbz hEo.size
      have hki : (k : Int) < (l.length : Int) := by omega
      have hk0 : (0 : Int) ≤ (k : Int) := by omega
      have hpsb : ps.length ≤ 4096 := by omega
      have HGs := Lib.hid hGs
      have Hsets := Lib.hid hsets
      have Hpl := Lib.hid hpl
      clear hc hGs hsets hpl
      have HM := Lib.hid (fun W => name_may nm W (by unfold maxLen; omega))
      have HRM := Lib.hid (fun W (hW : Ext w W) => rdata_may ty da W (hg.ext hW) (by omega))
      have HF := Lib.hid (fun W => name_fold nm W (by unfold maxLen; omega))
      have HRF := Lib.hid (fun W (hW : Ext w W) => rdata_fold ty da W (hg.ext hW) (by omega))
      by_cases hm : may nm = true
      · rw [hm] at HM
        by_cases hrm : rmay ty da = true
        · rw [hrm] at HRM
          have HOk := Lib.hid (show okRec ⟨nm, ty, cl, tt, da⟩ = true by simp [okRec, hm, hrm])
          go_wp2_with fail
          refine (HM.out _).mono ?_; rintro e w' ⟨rfl, rfl⟩
          go_wp2_with fail
          refine (HRM.out _ (hEo.trans ((Ext.refl _).alloc _))).mono ?_; rintro e w2 ⟨rfl, hE2⟩
          obtain ⟨hq, hqf, hqz⟩ := ext_new hE2
          have q0 : w2.cell? ⟨wo.heap.size, 0, none⟩ = some (S nm) := hq 0
          have q1 : w2.cell? ⟨wo.heap.size, 1, none⟩ = some (.int .u16 ty) := hq 1
          have q2 : w2.cell? ⟨wo.heap.size, 2, none⟩ = some (.int .u16 cl) := hq 2
          have q3 : w2.cell? ⟨wo.heap.size, 3, none⟩ = some (.int .u32 tt) := hq 3
          have q4 : w2.cell? ⟨wo.heap.size, 4, none⟩ = some (S da) := hq 4
          clear hq hqf
          go_upto_if 37 with (fail)
          go_cut [7] (fun s7 wx => s7 = .int .u32 (timeT tt) ∧ w2 = wx)
          case first =>
            by_cases htt : 2147483647 < tt
            · have HTt : Hid (timeT tt = 0) := by show timeT tt = _; unfold timeT; rw [if_pos htt]
              go_wp2_with fail
              go_meet
              exact ⟨by rw [HTt.out], rfl⟩
            · have HTt : Hid (timeT tt = tt) := by show timeT tt = _; unfold timeT; rw [if_neg htt]
              have htd : decide (2147483647 < tt) = false := by simpa using htt
              go_wp2_with fail
              go_meet
              exact ⟨by rw [HTt.out], rfl⟩
          case rest =>
            obtain ⟨rfl, rfl⟩ := hcut
            go_upto_region 11 with fail
            go_cut [8] (fun s8 wx => ∃ gk : Nat, s8 = .pointer (some ⟨gk, 0, none⟩) ∧ wx.cell? ⟨gk, 0, none⟩ = some (S (fold nm)) ∧ wx.cell? ⟨gk, 1, none⟩ = some (.int .u16 ty) ∧ wx.cell? ⟨gk, 2, none⟩ = some (.int .u16 cl) ∧ w2.heap.size ≤ gk ∧ gk < wx.heap.size ∧ Ext w2 wx)
            case first =>
              go_region_held3 (fun V => V.cell? ⟨wo.heap.size, 0, none⟩ = some (S nm) ∧ V.cell? ⟨wo.heap.size, 1, none⟩ = some (.int .u16 ty) ∧ V.cell? ⟨wo.heap.size, 2, none⟩ = some (.int .u16 cl))
                (first | go_keep | exact keep3 (by (repeat (first | (with_reducible exact Ext.trans (by (repeat (first | with_reducible exact Ext.refl _ | with_reducible assumption | with_reducible refine Ext.alloc ?_ _ | with_reducible refine Ext.drewN ?_ _ | with_reducible refine Ext.drew ?_ | (with_reducible refine Ext.setCell ?_ ?hp _; case hp => (simp <;> omega))))) hE3) | with_reducible exact Ext.refl _ | with_reducible refine Ext.alloc ?_ _ | with_reducible refine Ext.drew ?_ | (with_reducible refine Ext.setCell ?_ ?hp _; case hp => (simp <;> omega))))) hqz q0 q1 q2)
                (first | (go_at_call 24; refine (HF.out _).mono ?_; rintro e w3 ⟨rfl, hE3⟩; try (obtain ⟨hz, hzf, hzz⟩ := ext_new (Ext.of_drewN 1 hE3); have z0 : w3.cell? ⟨w2.heap.size, 0, none⟩ = some (S []) := hz 0; have z1 : w3.cell? ⟨w2.heap.size, 1, none⟩ = some (.int .u16 0) := hz 1; have z2 : w3.cell? ⟨w2.heap.size, 2, none⟩ = some (.int .u16 0) := hz 2; have y0 := hzf 0; have y1 := hzf 1; have y2 := hzf 2; clear hz hzf)))
              all_goals
                go_wp2_with fail
                go_meet
                first
                  | exact ⟨w2.heap.size, rfl, by rw [World.cell?_setCell_other _ _ _ _ (by simp), World.cell?_setCell_other _ _ _ _ (by simp)]; exact World.cell?_setCell_same _ _ _ z0, by rw [World.cell?_setCell_other _ _ _ _ (by simp)]; exact World.cell?_setCell_same _ _ _ ((World.cell?_setCell_other _ _ _ _ (by simp)).trans z1), World.cell?_setCell_same _ _ _ ((World.cell?_setCell_other _ _ _ _ (by simp)).trans ((World.cell?_setCell_other _ _ _ _ (by simp)).trans z2)), Nat.le_refl _, by simp; exact hzz, (((Ext.trans ((Ext.refl w2).alloc _) (Ext.of_drewN 1 hE3)).setCell (Nat.le_refl _) _).setCell (Nat.le_refl _) _).setCell (Nat.le_refl _) _⟩
                  | exact ⟨w3.heap.size, rfl, by simp, by simp, by simp, (Ext.of_drewN 1 hE3).size, by simp, (Ext.of_drewN 1 hE3).alloc _⟩
            case rest =>
              obtain ⟨gk, rfl, kc0, kc1, kc2, hgk, hgk2, hE2W⟩ := hcut
              obtain ⟨W, rfl⟩ : ∃ W : World, W = wc := ⟨_, rfl⟩
              have hEow : Ext wo W := (((Ext.refl wo).alloc _).trans hE2).trans hE2W
              have r1 := (hE2W.cell (p := ⟨wo.heap.size, 1, none⟩) hqz).trans q1
              have r2 := (hE2W.cell (p := ⟨wo.heap.size, 2, none⟩) hqz).trans q2
              have r3 := (hE2W.cell (p := ⟨wo.heap.size, 4, none⟩) hqz).trans q4
              have hgk3 : wo.heap.size < gk := Nat.lt_of_lt_of_le hqz hgk
              have hEwW : Ext w W := hEo.trans hEow
              have hownW := hI.own.ext hEow
              have hdatW : ∀ p ∈ ps, OStrs W w.heap.size p.2 p.1.data := fun p hp => (hI.datas p hp).ext hEow
              have hkmW := hI.kmap.ext hEow
              have hwoW : wo.heap.size < W.heap.size := Nat.lt_of_lt_of_le hqz hE2W.size
              have hmbo : w.heap.size < wo.heap.size := hI.kmap.lt
              have hfn := fold_le nm
              have HA := Lib.hid (show addP sets ⟨nm, ty, cl, tt, da⟩ = if atTo (keyM (fold nm) ty cl) sets sets.length < 0 then sets ++ [⟨fold nm, ty, cl, timeT tt, [rfold ty da]⟩] else sets.modify (atTo (keyM (fold nm) ty cl) sets sets.length).toNat (updP (timeT tt) (rfold ty da)) by unfold addP; rw [HOk.out, if_pos rfl])
              generalize timeT tt = T at *
              clear hE2 hE2W hqz hgk HF HM HRM q0 q1 q2 q3 q4
              obtain ⟨aj, bj, hlook, hcase⟩ : ∃ (aj : Int) (bj : Bool), (Instr.lookup 62 (.map (some w.heap.size)) (keyV (fold nm) ty cl) true).run Tryz.prog W = .ok (.tuple #[.int .i64 aj, .bool bj]) W ∧ Hid ((bj = false ∧ ∀ s ∈ sets, keyM (fold nm) ty cl s = false) ∨ (bj = true ∧ ∃ (j : Nat) (s : SetD), aj = j ∧ sets[j]? = some s ∧ keyM (fold nm) ty cl s = true)) := by
                rcases hkmW.look (fold nm) ty cl (by unfold maxLen; omega) hxo.1 hxo.2 with ⟨h1, h2⟩ | ⟨j, sj, h1, h2, h3⟩
                · exact ⟨_, _, h1, .inl ⟨rfl, h2⟩⟩
                · exact ⟨_, _, h1, .inr ⟨rfl, j, sj, rfl, h2, h3⟩⟩
              go_upto_if 53 with (fail)
              go_cut [4, 9] (fun s4 s9 wx => ∃ (J g c' : Nat) (PS : List (SetD × Value)) (sn : List UInt8) (sl : Int) (sd : List (List UInt8)) (dA : Option Addr) (dc : Nat) (KS : List SetD), s4 = .slice (some ⟨g, 0, none⟩) PS.length c' ∧ s9 = .int .i64 J ∧ GpMid w wo l k ty cl da T J g c' PS sn sl sd dA dc KS wx)
              case first =>
                have Hc := hcase
                clear hcase
                rcases bj with _ | _
                · have hno : ∀ s ∈ sets, keyM (fold nm) ty cl s = false := by
                    rcases Hc.out with ⟨_, h⟩ | ⟨h, _⟩
                    · exact h
                    · cases h
                  have HF1 := Lib.hid (HGs.out.trans (HA.out.trans (if_pos (by rw [atTo_none hno _ (Nat.le_refl _)]; omega))))
                  obtain ⟨W1, hup, hkm1, hgr1⟩ := hkmW.store ⟨fold nm, ty, cl, T, [rfold ty da]⟩ ⟨by unfold maxLen; dsimp only; omega, hxo.1, hxo.2⟩ hno
                  rw [← Hpl.out] at hup
                  unfold keyS at hup
                  dsimp only at hup
                  clear hlook
                  generalize fold nm = fn at *
                  have hne : ∀ g, g ≠ w.heap.size → some g ≠ some w.heap.size := fun g h e => h (by injection e)
                  have k0 := hgr1.cell kc0 (hne _ (by dsimp only; omega))
                  have s1 := hgr1.cell r1 (hne _ (by dsimp only; omega))
                  have s2 := hgr1.cell r2 (hne _ (by dsimp only; omega))
                  have s3 := hgr1.cell r3 (hne _ (by dsimp only; omega))
                  have hE1w : Ext w W1 := ⟨hgr1.os.trans hEwW.os, hgr1.tape.trans hEwW.tape, hgr1.output.trans hEwW.output, Nat.le_trans hEwW.size hgr1.size, fun k hk => (hgr1.block k (Nat.lt_of_lt_of_le hk hEwW.size) (hne _ (by omega))).trans (hEwW.block k hk)⟩
                  have hown1 := hownW.kept hgr1 (own_map hownW hkmW)
                  have hdat1 : ∀ p ∈ ps, OStrs W1 w.heap.size p.2 p.1.data := fun p hp => by
                    obtain ⟨B, d, e, ho⟩ := hdatW p hp
                    exact ⟨B, d, e, ho.kept hgr1 (own_map ho hkmW)⟩
                  have hw1 : wo.heap.size < W1.heap.size := Nat.lt_of_lt_of_le hwoW hgr1.size
                  have hgk1 : gk < W1.heap.size := Nat.lt_of_lt_of_le hgk2 hgr1.size
                  clear hkmW hownW hdatW hgr1 r1 r2 r3 hwoW
                  have hab : some wo.heap.size ≠ (Value.slice A ps.length c).ownBlock := fun e => absurd (hI.own.blk _ e.symm).2 (Nat.lt_irrefl _)
                  go_wp2_with (at_builtin; refine wpList_app _ rfl (.tmp 59) (.tmp 68) _ rfl w.heap.size 27 i0 _ 5 48 Tryz.underlying22 hi0 hz0 hz1 hz2 rfl (by omega) A ps.length c (ps.flatMap setCells) rfl (hown1.ext ((Ext.refl _).alloc _)) 0 _ 1 1 (setCells (newP fn ty cl T)) rfl (rd_new _ _ (by simp) _ _ 1 5 rfl) (set_oneS _ _ _ _) (by omega) (by omega) (by have := hE1w.size; simp; omega) ?_; intro A5 c5 w5 hown5 hg5 hb5 hat5)
                  have hal : Ext W1 (W1.alloc (.cells (setCells (newP fn ty cl T)).toArray 27)) := (Ext.refl _).alloc _
                  have hE5 : Ext w w5 := Ext.then (lo := w.heap.size) (hE1w.trans hal) hb5 (Nat.le_refl _)
                  obtain ⟨g5, hA5, hgw5, hgz5, hgf5, hgc5⟩ := hown5.addr (by omega)
                  subst hA5
                  have hPl : (ps ++ [newP fn ty cl T]).length = ps.length + 1 := by simp
                  have hoA : Own w5 w.heap.size 27 5 (some ⟨g5, 0, none⟩) (ps ++ [newP fn ty cl T]).length c5 ((ps ++ [newP fn ty cl T]).flatMap setCells) := by rw [hPl, List.flatMap_append]; simpa using hown5
                  go_meet
                  refine ⟨ps.length, g5, c5, ps ++ [newP fn ty cl T], fn, T, [], none, 0, sets ++ [⟨fn, ty, cl, T, [rfold ty da]⟩], by rw [hPl], rfl, ⟨by simp, hoA, fun p hp => ?_, ?_, (hkm1.ext hal).kept hg5 (map_own hown1 hkm1), hE5, ?_, ?_, fun e => ?_, Nat.lt_of_lt_of_le hw1 (Nat.le_trans hal.size hb5.size), by rw [hPl]; simp; omega, ?_, by rw [HF1.out]⟩⟩
                  · rcases List.mem_append.1 hp with h | h
                    · exact ((hdat1 p h).ext hal).kept hg5 (ostrs_ne (hdat1 p h) hown1)
                    · rw [List.mem_singleton] at h; subst h; exact ⟨none, 0, rfl, Own.nil _ _ _ _⟩
                  · rw [List.pairwise_append]
                    refine ⟨hI.apart, by simp, fun p hp q hq => ?_⟩
                    rw [List.mem_singleton] at hq; subst hq
                    rcases hb : p.2.ownBlock with _ | z
                    · exact .inl rfl
                    · exact .inr (by simp [Value.ownBlock])
                  · exact hg5.cell (a := ⟨wo.heap.size, 1, none⟩) ((hal.cell (p := ⟨wo.heap.size, 1, none⟩) hw1).trans s1) hab
                  · exact hg5.cell (a := ⟨wo.heap.size, 4, none⟩) ((hal.cell (p := ⟨wo.heap.size, 4, none⟩) hw1).trans s3) hab
                  · rcases hat5 with h | h
                    · exact hab (by rw [← h]; simp [Value.ownBlock, e])
                    · simp [Value.ownBlock] at h; omega
                  · rw [HF1.out, ← Hsets.out]; simp [newP]
                · obtain ⟨j, s, haj, hsj, hkj⟩ : ∃ (j : Nat) (s : SetD), aj = j ∧ sets[j]? = some s ∧ keyM (fold nm) ty cl s = true := by
                    rcases Hc.out with ⟨h, _⟩ | ⟨_, h⟩
                    · cases h
                    · exact h
                  have hjl : j < sets.length := (List.getElem?_eq_some_iff.1 hsj).1
                  have hjp : j < ps.length := by rw [Hpl.out]; exact hjl
                  have HF1 := Lib.hid (HGs.out.trans (HA.out.trans (if_neg (by rw [atTo_one hnd hsj hkj _ hjl (Nat.le_refl _)]; omega))))
                  rw [atTo_one hnd hsj hkj _ hjl (Nat.le_refl _), Int.toNat_natCast] at HF1
                  have hpe : ps[j].1 = s := by
                    have := hsj
                    rw [← Hsets.out] at this
                    simpa [hjp] using this
                  have hdj := hdatW ps[j] (List.getElem_mem hjp)
                  have hbj := hsb s (List.mem_of_getElem? hsj)
                  obtain ⟨dA, dc, hdv⟩ := hdj.strs.shape
                  rw [hpe] at hdv
                  have hps : ps[j]? = some (s, .slice dA s.data.length dc) := by
                    rw [List.getElem?_eq_getElem hjp]
                    exact congrArg some (Prod.ext hpe hdv)
                  rw [keyM_iff] at hkj
                  obtain ⟨sn, st, sc, sl, sd⟩ := s
                  simp only [keyT, Prod.mk.injEq] at hkj
                  obtain ⟨e1, e2, e3⟩ := hkj
                  subst e2 e3
                  obtain ⟨g, hA, hgw, hgz, _, _⟩ := hownW.addr (by omega)
                  subst hA
                  have hgb : wo.heap.size ≠ g := fun e => absurd (hI.own.blk g rfl).2 (by omega)
                  have Hjl := Lib.hid haj
                  subst haj
                  clear hpe hdj hdv Hc Hjl hlook
                  go_wp2_with fail
                  go_meet
                  refine ⟨j, g, c, ps, sn, sl, sd, dA, dc, sets, rfl, rfl, ⟨hps, hownW, hdatW, hI.apart, hkmW, hEwW, r1, r3, hgb, hwoW, ⟨by omega, by have := hbj.2.1; dsimp only at this; omega⟩, ?_, by rw [HF1.out]; exact keyT_modify _ _ _ _⟩⟩
                  rw [HF1.out, ← Hsets.out]
                  exact mod_set hps (updP T _) _
              case rest =>
                obtain ⟨J, g, c', PS, sn, sl, sd, dA, dc, KS, rfl, rfl, hM⟩ := hcut
                obtain ⟨X0, rfl⟩ : ∃ X0 : World, X0 = wc := ⟨_, rfl⟩
                have hJ : J < PS.length := (List.getElem?_eq_some_iff.1 hM.jp).1
                obtain ⟨g', eg, hgw, hgz, hgf, hgc⟩ := hM.own.addr (by omega)
                injection eg with eg
                injection eg with eg _ _
                subst eg
                have hcs := sets_cells (off := 0) (fun j u hu => by rw [Nat.zero_add]; exact hgc j u hu) J _ hM.jp
                simp only [Nat.zero_add] at hcs
                obtain ⟨_, _, _, y3, y4⟩ := hcs
                have f3 := hgf (J * 5 + 3)
                have f4 := hgf (J * 5 + 4)
                have b1 := hM.b1
                have b4 := hM.b4
                have hgne := hM.gne
                have hlen := hM.len
                have hJi : (J : Int) < (PS.length : Int) := by omega
                have hJ0 : (0 : Int) ≤ (J : Int) := by omega
                clear hgc hgf kc0 kc1 kc2 hlook hcase hkmW hownW hdatW r1 r2 r3
                go_upto_region 18 with fail
                have hst := hM.own.stored (J * 5 + 3) (.int .u32 (min sl T)) (by omega)
                rw [flat_set PS J _ (⟨sn, ty, cl, min sl T, sd⟩, .slice dA sd.length dc) 3 _ hM.jp (by omega) rfl] at hst
                have hdX : ∀ p ∈ PS.set J (⟨sn, ty, cl, min sl T, sd⟩, .slice dA sd.length dc), OStrs (X0.setCell ⟨g, J * 5 + 3, none⟩ (.int .u32 (min sl T))) w.heap.size p.2 p.1.data := fun p hp => by
                  rcases List.mem_or_eq_of_mem_set hp with h | h
                  · exact (hM.datas p h).set_other (p := ⟨g, _, none⟩) _ (ostrs_ne (hM.datas p h) hM.own)
                  · subst h
                    have h8 := hM.datas _ (List.mem_of_getElem? hM.jp)
                    exact OStrs.set_other (p := ⟨g, _, none⟩) h8 _ (ostrs_ne h8 hM.own)
                have hkX : KMap (X0.setCell ⟨g, J * 5 + 3, none⟩ (.int .u32 (min sl T))) w.heap.size KS := hM.kmap.set (p := ⟨g, _, none⟩) (fun e => map_own hM.own hM.kmap (by simp [Value.ownBlock]; exact e)) _
                have hEX : Ext w (X0.setCell ⟨g, J * 5 + 3, none⟩ (.int .u32 (min sl T))) := hM.ext.setCell hgw _
                have HjP := Lib.hid (show (PS.set J (⟨sn, ty, cl, min sl T, sd⟩, .slice dA sd.length dc))[J]? = some (⟨sn, ty, cl, min sl T, sd⟩, .slice dA sd.length dc) from List.getElem?_set_self hJ)
                have HapA := Lib.hid (apart_set hM.apart hM.jp (⟨sn, ty, cl, min sl T, sd⟩ : SetD))
                have HEnd := Lib.hid (show rawTo l (k + 1) = ((PS.set J (⟨sn, ty, cl, min sl T, sd⟩, .slice dA sd.length dc)).set J (⟨sn, ty, cl, min sl T, sd ++ [rfold ty da]⟩, .slice none 0 0)).map Prod.fst by rw [List.set_set]; exact hM.ends)
                have HK := Lib.hid hM.keys
                have HPl := Lib.hid (show (PS.set J (⟨sn, ty, cl, min sl T, sd⟩, .slice dA sd.length dc)).length = PS.length by simp)
                have yJ4 : (X0.setCell ⟨g, J * 5 + 3, none⟩ (.int .u32 (min sl T))).cell? ⟨g, J * 5 + 4, none⟩ = some (.slice dA sd.length dc) := (World.cell?_setCell_other _ _ _ _ (by simp)).trans y4
                have fJ4 : (X0.setCell ⟨g, J * 5 + 3, none⟩ (.int .u32 (min sl T))).frozen? ⟨g, J * 5 + 4, none⟩ = false := (World.frozen?_setCell _ _ _ _).trans f4
                have b1' := (World.cell?_setCell_far X0 ⟨g, J * 5 + 3, none⟩ ⟨wo.heap.size, 1, none⟩ (.int .u32 (min sl T)) (by simp; omega)).trans b1
                have b4' := (World.cell?_setCell_far X0 ⟨g, J * 5 + 3, none⟩ ⟨wo.heap.size, 4, none⟩ (.int .u32 (min sl T)) (by simp; omega)).trans b4
                have hgX : g < (X0.setCell ⟨g, J * 5 + 3, none⟩ (.int .u32 (min sl T))).heap.size := by simp; exact hgz
                have hwX : wo.heap.size < (X0.setCell ⟨g, J * 5 + 3, none⟩ (.int .u32 (min sl T))).heap.size := by simp; exact hM.wo
                have hl7 : ∀ q, ((PS.set J (⟨sn, ty, cl, min sl T, sd⟩, .slice dA sd.length dc)).set J q).length = PS.length := fun q => by simp
                generalize X0.setCell ⟨g, J * 5 + 3, none⟩ (.int .u32 (min sl T)) = X at *
                generalize PS.set J (⟨sn, ty, cl, min sl T, sd⟩, .slice dA sd.length dc) = PT at *
                clear hM b1 b4 y3 y4 f3 f4 hgz
                have HRFX := Lib.hid (fun V (hV : Ext X V) => HRF.out V (hEX.trans hV))
                have hfdl := rfold_len ty da
                generalize rfold ty da = fd at *
                have hoD : Own X w.heap.size 9 1 dA sd.length dc (sd.map S) := by
                  obtain ⟨B, d, e, h⟩ := hdX _ (List.mem_of_getElem? HjP.out)
                  injection e with e1 _ e3
                  subst e1 e3; exact h
                have hnb : some g ≠ (Value.slice dA sd.length dc).ownBlock := fun e => by
                  rcases own_ne hst hoD (by decide) with h | h
                  · simp [Value.ownBlock] at h
                  · exact h e
                have hdl := hlen.2
                go_region_law (first
                  | (go_simp; go_at_call 25; refine (HRFX.out _ (by (repeat (first | with_reducible exact Ext.refl _ | with_reducible assumption | with_reducible refine Ext.alloc ?_ _ | with_reducible refine Ext.drewN ?_ _ | with_reducible refine Ext.drew ?_ | (with_reducible refine Ext.setCell ?_ ?hp _; case hp => (simp <;> omega)))))).mono ?_; rintro e w6 ⟨rfl, hE6⟩; have y6 := ((Ext.trans (by (repeat (first | with_reducible exact Ext.refl _ | with_reducible assumption | with_reducible refine Ext.alloc ?_ _ | with_reducible refine Ext.drewN ?_ _ | with_reducible refine Ext.drew ?_ | (with_reducible refine Ext.setCell ?_ ?hp _; case hp => (simp <;> omega))))) hE6 : Ext X w6).cell (p := ⟨g, J * 5 + 4, none⟩) hgX).trans yJ4; have hg6 : g < w6.heap.size := Nat.lt_of_lt_of_le hgX (Ext.trans (by (repeat (first | with_reducible exact Ext.refl _ | with_reducible assumption | with_reducible refine Ext.alloc ?_ _ | with_reducible refine Ext.drewN ?_ _ | with_reducible refine Ext.drew ?_ | (with_reducible refine Ext.setCell ?_ ?hp _; case hp => (simp <;> omega))))) hE6 : Ext X w6).size)
                  | (refine step_app _ (by rfl) (.tmp 87) (.tmp 93) _ (by rfl) w.heap.size 9 j0 _ 1 16 Tryz.underlying25 hj0 hy0 hy1 hy2 rfl (by omega) dA sd.length dc (sd.map S) (by rfl) (by exact hoD.ext (by (repeat (first | (with_reducible exact Ext.trans (by (repeat (first | with_reducible exact Ext.refl _ | with_reducible assumption | with_reducible refine Ext.alloc ?_ _ | with_reducible refine Ext.drewN ?_ _ | with_reducible refine Ext.drew ?_ | (with_reducible refine Ext.setCell ?_ ?hp _; case hp => (simp <;> omega))))) hE6) | with_reducible exact Ext.refl _ | with_reducible refine Ext.alloc ?_ _ | with_reducible refine Ext.drew ?_)))) 0 _ 1 1 ([fd].map S) (by rfl) (by exact rd_new _ _ rfl _ _ 1 1 rfl) (str_one _) (by omega) (by omega) (by have := hEX.size; have := (Ext.trans (by (repeat (first | with_reducible exact Ext.refl _ | with_reducible assumption | with_reducible refine Ext.alloc ?_ _ | with_reducible refine Ext.drewN ?_ _ | with_reducible refine Ext.drew ?_ | (with_reducible refine Ext.setCell ?_ ?hp _; case hp => (simp <;> omega))))) hE6 : Ext X w6).size; simp; omega) ?_; intro A7 c7 w7 hown7 hg7 hb7 hat7
                     have y7 := hg7.cell ((((Ext.trans (by (repeat (first | with_reducible exact Ext.refl _ | with_reducible assumption | with_reducible refine Ext.alloc ?_ _ | with_reducible refine Ext.drewN ?_ _ | with_reducible refine Ext.drew ?_ | (with_reducible refine Ext.setCell ?_ ?hp _; case hp => (simp <;> omega))))) hE6 : Ext X w6).alloc (.cells #[S fd] 9)).cell (p := ⟨g, J * 5 + 4, none⟩) hgX).trans yJ4) hnb
                     have f7 := frozen_kept hg7 (Nat.lt_of_lt_of_le hgX ((Ext.trans (by (repeat (first | with_reducible exact Ext.refl _ | with_reducible assumption | with_reducible refine Ext.alloc ?_ _ | with_reducible refine Ext.drewN ?_ _ | with_reducible refine Ext.drew ?_ | (with_reducible refine Ext.setCell ?_ ?hp _; case hp => (simp <;> omega))))) hE6 : Ext X w6).alloc (.cells #[S fd] 9)).size) hnb ((((Ext.trans (by (repeat (first | with_reducible exact Ext.refl _ | with_reducible assumption | with_reducible refine Ext.alloc ?_ _ | with_reducible refine Ext.drewN ?_ _ | with_reducible refine Ext.drew ?_ | (with_reducible refine Ext.setCell ?_ ?hp _; case hp => (simp <;> omega))))) hE6 : Ext X w6).alloc (.cells #[S fd] 9)).frozen (p := ⟨g, J * 5 + 4, none⟩) hgX).trans fJ4)))
                all_goals
                  have hXY : Ext X (w6.alloc (.cells #[S fd] 9)) := (Ext.trans (by (repeat (first | with_reducible exact Ext.refl _ | with_reducible assumption | with_reducible refine Ext.alloc ?_ _ | with_reducible refine Ext.drewN ?_ _ | with_reducible refine Ext.drew ?_ | (with_reducible refine Ext.setCell ?_ ?hp _; case hp => (simp <;> omega))))) hE6 : Ext X w6).alloc _
                  have hst2 := hst.ext hXY
                  rw [← HPl.out] at hst2
                  have hI7 := gp_step HjP.out hst2 (fun p hp => (hdX p hp).ext hXY) HapA.out (hkX.ext hXY) (Nat.le_refl _) (hEX.trans hXY) hown7 hg7 hb7 hat7 HEnd.out HK.out
                  clear hXY hown7 hg7 hb7 hat7 hst hst2 hdX hkX hEX hoD
                  go_wp2_with fail
                  go_roundw
                  case rel => exact ⟨k + 1, _, some ⟨g, 0, none⟩, c', by omega, by go_num, by rw [hl7], hI7⟩
                  case measure => simp [intOf]; omega
        · have hrm' : rmay ty da = false := by simpa using hrm
          rw [hrm'] at HRM
          have HOk := Lib.hid (show addP sets ⟨nm, ty, cl, tt, da⟩ = sets by unfold addP; rw [show okRec ⟨nm, ty, cl, tt, da⟩ = false by simp [okRec, hm, hrm'], if_neg (by simp)])
          clear hrm
          go_wp2_with fail
          refine (HM.out _).mono ?_; rintro e w' ⟨rfl, rfl⟩
          go_wp2_with fail
          refine (HRM.out _ (hEo.trans ((Ext.refl _).alloc _))).mono ?_; rintro e w2 ⟨rfl, hE2⟩
          have hEo2 : Ext wo w2 := ((Ext.refl _).alloc _).trans hE2
          go_wp2_with fail
          go_roundw
          case rel =>
            exact ⟨k + 1, ps, A, c, by omega, by go_num, rfl, ⟨by rw [HGs.out, HOk.out]; exact Hsets.out, hI.own.ext hEo2, fun p hp => (hI.datas p hp).ext hEo2, hI.apart, by rw [HGs.out, HOk.out]; exact hI.kmap.ext hEo2, Nat.le_refl _, hEo.trans hEo2⟩⟩
          case measure => simp [intOf]; omega
      · have hm' : may nm = false := by simpa using hm
        rw [hm'] at HM
        have HOk := Lib.hid (show addP sets ⟨nm, ty, cl, tt, da⟩ = sets by unfold addP; rw [show okRec ⟨nm, ty, cl, tt, da⟩ = false by simp [okRec, hm'], if_neg (by simp)])
        clear hm
        go_wp2_with fail
        refine (HM.out _).mono ?_; rintro e w' ⟨rfl, rfl⟩
        have hEo2 := (Ext.refl wo).alloc (.cells #[S nm, .int .u16 ty, .int .u16 cl, .int .u32 tt, S da] 38)
        go_wp2_with fail
        go_roundw
        case rel =>
          exact ⟨k + 1, ps, A, c, by omega, by go_num, rfl, ⟨by rw [HGs.out, HOk.out]; exact Hsets.out, hI.own.ext hEo2, fun p hp => (hI.datas p hp).ext hEo2, hI.apart, by rw [HGs.out, HOk.out]; exact hI.kmap.ext hEo2, Nat.le_refl _, hEo.trans hEo2⟩⟩
        case measure => simp [intOf]; omega
    · obtain rfl : k = l.length := by omega
      rw [← HL0.out] at hI
      have hC0 : ClInv w L0 ps.length 0 ps A c wo := ⟨rfl, by rw [hI.eq]; simp [cleanTo], hI.own, hI.datas, hI.apart, hI.ext⟩
      have hnl : ps.length = L0.length := by rw [← hI.eq]; simp
      have hn4 : ps.length ≤ 4096 := by omega
      generalize ps.length = n at *
      have Hnl := Lib.hid hnl
      have hcapc := hC0.own.cap
      have hcap2 := hcapc.2
      unfold maxLen at hcap2
      clear hI hlt hnl hcapc
      go_wp2_with fail
      go_loopw [100] (fun t wr => ∃ (i : Nat) (qs : List (SetD × Value)), i ≤ n ∧ t = .int .i64 i ∧ ClInv w L0 n i qs A c wr) (fun t _ => n - (intOf t).toNat)
      case atStart => exact ⟨0, ps, by omega, rfl, hC0⟩
      case round =>
        obtain ⟨i, qs, hi, rfl, hC⟩ := hrel
        obtain ⟨wi, rfl⟩ : ∃ wi : World, wi = wr := ⟨_, rfl⟩
        clear hC0 hEo
        by_cases hil : i < n
        · obtain ⟨g, rfl, hgw, hgz, hgf, hgc⟩ := hC.own.addr (by omega)
          have hql : i < qs.length := by rw [hC.len]; exact hil
          have hqi : qs[i]? = some qs[i] := List.getElem?_eq_getElem hql
          have hcs := sets_cells (off := 0) (fun j u hu => by rw [Nat.zero_add]; exact hgc j u hu) i _ hqi
          have hdi := hC.datas qs[i] (List.getElem_mem hql)
          have hlb : qs[i].1.data.length ≤ 4096 := by
            have h7 : (cleanTo L0 i)[i]? = some qs[i].1 := by rw [← hC.eq, List.getElem?_map, hqi]; rfl
            unfold cleanTo at h7
            have h8 : ((L0.take i).map cleanS).length = i := by have := Hnl.out; rw [List.length_map, List.length_take]; omega
            rw [List.getElem?_append_right (by omega), h8, Nat.sub_self, List.getElem?_drop, Nat.add_zero] at h7
            have := (hLb _ (List.mem_of_getElem? h7)).2.1
            omega
          generalize qs[i] = q at *
          obtain ⟨⟨sn, st, sc, sl, sd⟩, dv⟩ := q
          simp only [Nat.zero_add] at hcs
          obtain ⟨_, _, _, _, y4⟩ := hcs
          dsimp only at hdi hlb y4
          have hgo : (Value.slice (some ⟨g, 0, none⟩) n c).ownBlock = none ∨ (Value.slice (some ⟨g, 0, none⟩) n c).ownBlock ≠ dv.ownBlock := by
            obtain ⟨B, d, rfl, ho⟩ := hdi
            exact own_ne hC.own ho (by decide)
          have hgd : some g ≠ dv.ownBlock := by
            rcases hgo with h | h
            · simp [Value.ownBlock] at h
            · exact h
          have f4 := hgf (i * 5 + 4)
          obtain ⟨dA, dc, hdv⟩ := hdi.strs.shape
          subst hdv
          have HS := Lib.hid (sl_sort w.heap.size _ sd wi hdi (by omega))
          have hii : (i : Int) < (n : Int) := by omega
          have hi0' : (0 : Int) ≤ (i : Int) := by omega
          have Hqi := Lib.hid hqi
          clear hgc hgf hqi
          go_wp2_with fail
          refine HS.out.mono ?_; rintro e w1 ⟨rfl, ho1, hg1⟩
          have y41 := hg1.cell y4 hgd
          have f41 := frozen_kept hg1 hgz hgd f4
          have hgz1 : g < w1.heap.size := Nat.lt_of_lt_of_le hgz hg1.size
          have HCm := Lib.hid (sl_compact w.heap.size _ (sortB sd) w1 ho1)
          go_wp2_with fail
          refine HCm.out.mono ?_; rintro e w2 ⟨v', rfl, ho2, hg2, hv'⟩
          have y42 := hg2.cell y41 hgd
          have f42 := frozen_kept hg2 hgz1 hgd f41
          have hgz2 : g < w2.heap.size := Nat.lt_of_lt_of_le hgz1 hg2.size
          have hC' := cl_step hC Hnl.out hil Hqi.out hg1 ho2 hg2 hv'
          obtain ⟨eA, ec, hev, _⟩ := ho2
          subst hev
          clear y4 y41 f4 f41 ho1 hg1 hg2 hv'
          go_wp2_with fail
          go_roundw
          case rel => exact ⟨i + 1, _, by omega, by go_num, hC'⟩
          case measure => simp [intOf]; omega
        · obtain rfl : i = n := by omega
          have hEq : qs.map Prod.fst = L0.map cleanS := by
            rw [hC.eq]
            unfold cleanTo
            rw [List.take_of_length_le (by rw [← Hnl.out]; omega), List.drop_of_length_le (by rw [← Hnl.out]; omega), List.append_nil]
          have hok2 : ∀ p ∈ qs, SetOk p := fun p hp => by
            have h1 : p.1 ∈ L0.map cleanS := by rw [← hEq]; exact List.mem_map.2 ⟨p, hp, rfl⟩
            obtain ⟨s, hs, hse⟩ := List.mem_map.1 h1
            obtain ⟨B, d, e, _⟩ := hC.datas p hp
            exact ⟨by rw [← hse]; exact (hLb s hs).1.1, B, _, d, e⟩
          have hown := hC.own
          have hlen := hC.len
          have HEq := Lib.hid hEq
          clear hEq
          by_cases h0 : i = 0
          · subst h0
            have hqe : qs = [] := List.eq_nil_of_length_eq_zero hlen
            subst hqe
            have HS0 := Lib.hid (sl_sortFunc0 A c wi)
            go_wp2_with fail
            refine HS0.out.mono ?_; rintro e w1 ⟨rfl, rfl⟩
            go_wp2_with fail
            go_ret
            exact ⟨_, [], rfl, by rw [← HEq.out]; exact List.Perm.refl _, List.Pairwise.nil, ⟨[], A, c, rfl, rfl, hown, by simp⟩, hC.ext⟩
          · rw [← hlen] at hown
            have HSF := Lib.hid (sl_sortFunc w.heap.size A c qs wi hown hok2 (by omega) (by omega))
            rw [hlen] at HSF
            have Hlen := Lib.hid hlen
            clear hlen
            go_wp2_with fail
            refine HSF.out.mono ?_; rintro e w1 ⟨rfl, qs', hperm, hrise, hown1, hg1⟩
            go_wp2_with fail
            go_ret
            refine ⟨_, qs'.map Prod.fst, rfl, ?_, hrise, ⟨qs', A, c, rfl, ?_, ?_, fun p hp => ?_⟩, ext_grown hC.ext hg1 (fun k hk => (hC.own.blk k (by rw [Hlen.out] at hk; exact hk)).1)⟩
            · rw [← HEq.out]; exact hperm.map _
            · have e9 : qs'.length = i := hperm.length_eq.trans Hlen.out
              rw [e9]; rfl
            · rw [hperm.length_eq]; exact hown1
            · have hp' := hperm.mem_iff.1 hp
              rw [Hlen.out] at hg1
              exact (hC.datas p hp').kept hg1 (ostrs_ne (hC.datas p hp') hC.own)
end Go.Proofs.YthdlgmfeicikpaaGreatDoor
