/- The walk of hustingslaw09.ChainWay. -/
import Derived.Test.YthdlgmfeicikpaaGreatDoorSame8
import Derived.Test.YthdlgmfeicikpaaGreatDoorLaw9c
import Derived.Test.YthdlgmfeicikpaaGreatDoorLarge9
import Derived.Deep.RegionHeld3
import Derived.Deep.DeepMust
import Derived.Test.YthdlgmfeicikpaaGreatDoorPlWay
namespace Go.Proofs.YthdlgmfeicikpaaGreatDoor
set_option linter.unusedSimpArgs false
set_option linter.unusedVariables false
open Go.RowKit
set_option maxRecDepth 100000

theorem recsOk_of' {l : List RecD} (h : ∀ r ∈ l, RecOk r) : RecsOk l := fun r hr => ⟨(h r hr).2.2.1, (h r hr).2.2.2.1⟩
theorem strs_one8 {w : World} {lo : Nat} {d : Value} {x : List UInt8} (h : Strs w lo d [x]) : ∃ b off c, d = .slice (some ⟨b, off, none⟩) 1 c ∧ b < w.heap.size ∧ w.cell? ⟨b, off, none⟩ = some (S x) ∧ 1 ≤ c ∧ c ≤ maxLen := by
  obtain ⟨A, c, rfl, h1, h2, hrd⟩ := h
  obtain ⟨b, off, rfl, _, hb, hc⟩ := hrd.2 (by simp)
  exact ⟨b, off, c, rfl, hb, hc 0 _ rfl, h1, h2⟩

set_option maxHeartbeats 4000000 in
theorem law_chainWay (n : List UInt8) (ty cl : Int) (v : Value) (l : List RecD) (w : World) (hg : Laid w) (h : Recs w 0 v l) (hok : ∀ r ∈ l, RecOk r) (hn : n.length ≤ maxLen) :
    Calls Tryz.prog 13 #[.agg #[S n, .int .u16 ty, .int .u16 cl], v] w fun e w' => e = .returned (.bool true) ∧ Ext w w' := by
  have HL := Lib.hid (fun W (hW : Ext w W) => law_large 0 v l W (h.ext hW) hok)
  have HA := Lib.hid (fun W (hW : Ext w W) => law_awake W (hg.ext hW))
  have HNF := Lib.hid (fun W => name_fold n W hn)
  obtain ⟨A, c, rfl, h1, h2, h3⟩ := h
  have h : Recs w 0 (.slice A l.length c) l := ⟨A, c, rfl, h1, h2, h3⟩
  have Hh := Lib.hid h
  clear h h3
  unfold maxLen at hn h2
  rcases hlg : largeB l with _ | _
  · have hbd := recsBd_of hlg
    rw [hlg] at HL
    have HG := Lib.hid (fun W (hW : Ext w W) => rrset_groupR 0 _ l W (hg.ext hW) (Hh.out.ext hW) hbd (recsOk_of' hok))
    have hsb := groupR_bd hbd
    clear hlg
    by_cases hq : n.length ≤ 1000
    · have hqi : ¬ (1000 : Int) < (n.length : Int) := by omega
      have hqd : decide ((1000 : Int) < (n.length : Int)) = false := by simpa using hqi
      have hF0 := follow_ok (groupR l) n ty cl
      have HF := Lib.hid (fun W (hW : Ext w W) x g (hS : Sets W x g (groupR l)) => chain_follow x n ty cl g (groupR l) W (hg.ext hW) hS hsb (by omega))
      have hhl := follow_here n ty cl (groupR l)
      have hwy := follow_way n ty cl l (recsOk_of' hok)
      generalize groupR l = sets at *
      generalize followOf n ty cl sets = R at *
      obtain ⟨path, here, fin, err⟩ := R
      dsimp only at hhl hwy
      have HW := Lib.hid hwy
      clear hwy
      have HFi := Lib.hid (fun m (hm : m.length ≤ 1048576) W x g (hS : Sets W x g sets) => rrset_find x g sets m 5 cl W hS hsb hm)
      have Hsb := Lib.hid hsb
      have HF0 := Lib.hid hF0
      clear hbd hsb hF0
      go_enter Tryz.func13, Tryz.ntmps13
      go_wp2_with fail
      refine (HL.out _ ((Ext.refl _).alloc _)).mono ?_; rintro e w1 ⟨rfl, hE1⟩
      obtain ⟨b1, _, bz1⟩ := ext_new hE1
      have b10 : w1.cell? ⟨w.heap.size, 0, none⟩ = some (S n) := b1 0
      clear b1
      go_wp2_with fail
      refine (HA.out _ (((Ext.refl _).alloc _).trans hE1)).mono ?_; rintro e w2 ⟨rfl, hE2⟩
      go_wp2_with fail
      refine (HG.out _ ((((Ext.refl _).alloc _).trans hE1).trans hE2)).mono ?_; rintro e w3 ⟨g3, rfl, ho3, hE3⟩
      obtain ⟨gA3, gc3, rfl, k1, k2⟩ := ho3.shape
      obtain ⟨b3, _, bz3⟩ := ext_new ((hE1.trans hE2).trans hE3)
      have b30 : w3.cell? ⟨w.heap.size, 0, none⟩ = some (S n) := b3 0
      have b31 : w3.cell? ⟨w.heap.size, 1, none⟩ = some (.int .u16 ty) := b3 1
      have b32 : w3.cell? ⟨w.heap.size, 2, none⟩ = some (.int .u16 cl) := b3 2
      have hEq3 := (hE1.trans hE2).trans hE3
      have hEw3 : Ext w w3 := ((Ext.refl w).alloc _).trans hEq3
      clear b3 b10 bz1 hE1 hE2 hE3
      go_wp2_with fail
      refine (HF.out _ hEw3 _ _ ho3.sets).mono ?_; rintro e w4 ⟨v4, u4, wm, rfl, hv4, hEm, hu4, hEn⟩
      dsimp only at hv4 hu4 ⊢
      obtain ⟨vA, vc, rfl, hv1, hv2⟩ := hv4.shape
      have hE4 := hEm.trans hEn
      have hEq4 := hEq3.trans hE4
      obtain ⟨b4, _, bz4⟩ := ext_new hEq4
      have b40 : w4.cell? ⟨w.heap.size, 0, none⟩ = some (S n) := b4 0
      have b41 : w4.cell? ⟨w.heap.size, 1, none⟩ = some (.int .u16 ty) := b4 1
      have b42 : w4.cell? ⟨w.heap.size, 2, none⟩ = some (.int .u16 cl) := b4 2
      have hEw4 := hEw3.trans hE4
      clear b4 b30 b31 b32 bz3
      unfold maxLen at hv2
      by_cases he : err = 0
      · have f1 : ((err : Int) == 0) = true := by rw [beq_iff_eq]; omega
        have f2 : ((err : Int) != 0) = false := by rw [bne, f1]; rfl
        have hfin := HF0.out.fin he
        dsimp only at hfin
        obtain ⟨hp8, hway⟩ := HW.out he
        have hfl : fin.length ≤ 1 := by rw [hfin]; cases findS sets here ty cl <;> simp
        obtain ⟨uA, uc, rfl, hu1, hu2⟩ := hu4.shape
        obtain ⟨pq, qA, qc, hq1, hq2, hq3, hq4⟩ := hv4
        injection hq2 with hq2 hq2b hq2c
        subst hq2 hq2c
        have hpql : pq.length = path.length := by rw [← hq1]; simp
        have hp8' : ¬ (8 : Int) < (path.length : Int) := by omega
        have hp8d : decide ((8 : Int) < (path.length : Int)) = false := by simpa using hp8'
        have hfd : decide ((1 : Int) < (fin.length : Int)) = false := by simp; omega
        have hff := fold_le n
        have HWay := Lib.hid hway
        have Hq1 := Lib.hid hq1
        clear he hfin hway hq2b
        go_wp2_with fail
        refine (HNF.out _).mono ?_; rintro e w5 ⟨rfl, hE5⟩
        generalize fold n = here0 at *
        have hE45 := hE4.trans hE5
        go_wp2_with fail
        have hq3' := hq3.ext hEn
        go_loopw [10, 11, 12] (fun h m i wr => ∃ (k : Nat) (hr : List UInt8) (seen : List (List UInt8)) (sA : Option Addr) (sc : Nat), k ≤ path.length ∧ i = .int .i64 k ∧ h = S hr ∧ m = .slice sA seen.length sc ∧ hr.length ≤ 1048576 ∧ seen.length = k + 1 ∧ Own wr w5.heap.size 9 1 sA seen.length sc (seen.map S) ∧ Way sets cl hr seen (path.drop k) here ∧ Ext w5 wr) (fun _ _ i _ => path.length - (intOf i).toNat)
        case atStart => exact ⟨0, here0, [here0], _, 1, by omega, rfl, rfl, rfl, by omega, rfl, own_lit w5 _ _ rfl (Nat.le_refl _) _ _ 1 1 rfl (by unfold maxLen; omega), HWay.out, (Ext.refl _).alloc _⟩
        case round =>
          obtain ⟨k, hr, seen, sA, sc, hk, rfl, rfl, rfl, hhr, hsl, hown, hwy, hE⟩ := hrel
          obtain ⟨wo, rfl⟩ : ∃ wo : World, wo = wr := ⟨_, rfl⟩
          have hEq := (hEq4.trans hE5).trans hE
          obtain ⟨bq, _, bqz⟩ := ext_new hEq
          have bq2 : wo.cell? ⟨w.heap.size, 2, none⟩ = some (.int .u16 cl) := bq 2
          clear bq
          have Hsl := Lib.hid hsl
          by_cases hlt : k < path.length
          · rw [List.drop_eq_getElem_cons hlt] at hwy
            obtain ⟨hfa, hnm, d, hdd, hno, hwy'⟩ := hwy
            have hlp : k < pq.length := by omega
            have hpe : pq[k].1 = path[k] := by simp [← Hq1.out]
            have hdk := hq4 pq[k] (List.getElem_mem hlp)
            have hpk : pq[k]? = some pq[k] := List.getElem?_eq_getElem hlp
            have hfs := find_same hfa
            have hbd := Hsb.out path[k] (findS_mem hfa)
            generalize path[k] = a at *
            generalize pq[k] = p at *
            obtain ⟨an, at_, ac, al, ad⟩ := a
            obtain ⟨p1, pv⟩ := p
            dsimp only at hpe hdk hfs hbd hdd hnm
            subst hpe hdd hnm
            obtain ⟨e1, e2, _⟩ := hfs
            subst e1 e2
            dsimp only at hdk
            obtain ⟨xb, xo, xc, rfl, hxz, hxc, hxc1, hxc2⟩ := strs_one8 hdk.strs
            obtain ⟨gq, rfl, _, hqz, _, hqc⟩ := hq3.addr (by omega)
            have hcs := sets_cells (off := 0) (fun j u hu => by rw [Nat.zero_add]; exact hqc j u hu) k _ hpk
            simp only [Nat.zero_add] at hcs
            obtain ⟨z0, z1, z2, z3, z4⟩ := hcs
            have hEm5 := (hEn.trans hE5).trans hE
            have hdl := hbd.2.2 d (by simp)
            have Hno := Lib.hid hno
            have Hwy := Lib.hid hwy'
            have hki : (k : Int) < (path.length : Int) := by omega
            have hk0 : (0 : Int) ≤ (k : Int) := by omega
            clear hno hwy' hqc hpk hsl
            go_wp2_with fail
            refine (HFi.out an hhr _ _ _ ((ho3.sets.ext hE45).ext hE)).mono ?_; rintro e w6 ⟨d6, rfl, ho6, hE6⟩
            rw [hfa] at ho6 ⊢
            dsimp only [Option.getD, Option.isSome] at ho6 ⊢
            obtain ⟨dA6, dc6, rfl⟩ := ho6.strs.shape
            dsimp only [List.length_singleton] at ho6 ⊢
            have hEm6 := hEm5.trans hE6
            have hqz6 : gq < w6.heap.size := Nat.lt_of_lt_of_le hqz hEm6.size
            have hxz6 : xb < w6.heap.size := Nat.lt_of_lt_of_le hxz hEm6.size
            have y0 := (hEm6.cell (p := ⟨gq, k * 5, none⟩) hqz).trans z0
            have y1 := (hEm6.cell (p := ⟨gq, k * 5 + 1, none⟩) hqz).trans z1
            have y2 := (hEm6.cell (p := ⟨gq, k * 5 + 2, none⟩) hqz).trans z2
            have y3 := (hEm6.cell (p := ⟨gq, k * 5 + 3, none⟩) hqz).trans z3
            have y4 := (hEm6.cell (p := ⟨gq, k * 5 + 4, none⟩) hqz).trans z4
            have hx6 := (hEm6.cell (p := ⟨xb, xo, none⟩) hxz).trans hxc
            go_wp2_with fail
            have HSm := Lib.hid (fun V (hV : Ext w6 V) => rrset_same ⟨an, 5, ac, al, [d]⟩ ⟨an, 5, ac, al, [d]⟩ _ _ _ _ V (ho6.strs.ext hV) ((hdk.strs.ext hEm6).ext hV))
            rw [decide_eq_true rfl] at HSm
            obtain ⟨bx, _, bxz⟩ := ext_new (Ext.refl (w6.alloc (.cells #[S an, .int .u16 5, .int .u16 ac, .int .u32 al, .slice dA6 1 dc6] 27)))
            have x0 : (w6.alloc (.cells #[S an, .int .u16 5, .int .u16 ac, .int .u32 al, .slice dA6 1 dc6] 27)).cell? ⟨w6.heap.size, 0, none⟩ = some (S an) := bx 0
            have x1 : (w6.alloc (.cells #[S an, .int .u16 5, .int .u16 ac, .int .u32 al, .slice dA6 1 dc6] 27)).cell? ⟨w6.heap.size, 1, none⟩ = some (.int .u16 5) := bx 1
            have x2 : (w6.alloc (.cells #[S an, .int .u16 5, .int .u16 ac, .int .u32 al, .slice dA6 1 dc6] 27)).cell? ⟨w6.heap.size, 2, none⟩ = some (.int .u16 ac) := bx 2
            have x3 : (w6.alloc (.cells #[S an, .int .u16 5, .int .u16 ac, .int .u32 al, .slice dA6 1 dc6] 27)).cell? ⟨w6.heap.size, 3, none⟩ = some (.int .u32 al) := bx 3
            have x4 : (w6.alloc (.cells #[S an, .int .u16 5, .int .u16 ac, .int .u32 al, .slice dA6 1 dc6] 27)).cell? ⟨w6.heap.size, 4, none⟩ = some (.slice dA6 1 dc6) := bx 4
            clear bx
            have hsz6 : w6.heap.size ≤ (w6.alloc (.cells #[S an, .int .u16 5, .int .u16 ac, .int .u32 al, .slice dA6 1 dc6] 27)).heap.size := by simp
            have hE6b : Ext w6 (w6.alloc (.cells #[S an, .int .u16 5, .int .u16 ac, .int .u32 al, .slice dA6 1 dc6] 27)) := (Ext.refl w6).alloc _
            go_region_held3 (fun V => V.cell? ⟨w6.heap.size, 0, none⟩ = some (S an) ∧ V.cell? ⟨w6.heap.size, 1, none⟩ = some (.int .u16 5) ∧ V.cell? ⟨w6.heap.size, 2, none⟩ = some (.int .u16 ac) ∧ V.cell? ⟨w6.heap.size, 3, none⟩ = some (.int .u32 al) ∧ V.cell? ⟨w6.heap.size, 4, none⟩ = some (.slice dA6 1 dc6) ∧ V.cell? ⟨gq, k * 5, none⟩ = some (S an) ∧ V.cell? ⟨gq, k * 5 + 1, none⟩ = some (.int .u16 5) ∧ V.cell? ⟨gq, k * 5 + 2, none⟩ = some (.int .u16 ac) ∧ V.cell? ⟨gq, k * 5 + 3, none⟩ = some (.int .u32 al) ∧ V.cell? ⟨gq, k * 5 + 4, none⟩ = some (.slice (some ⟨xb, xo, none⟩) 1 xc))
              (first | go_keep | (have hK : Ext (w6.alloc (.cells #[S an, .int .u16 5, .int .u16 ac, .int .u32 al, .slice dA6 1 dc6] 27)) w7 := Ext.trans (by (repeat (first | with_reducible exact Ext.refl _ | with_reducible assumption | with_reducible refine Ext.alloc ?_ _ | with_reducible refine Ext.drewN ?_ _ | with_reducible refine Ext.drew ?_ | (with_reducible refine Ext.setCell ?_ ?hp _; case hp => (simp <;> omega))))) hE7; exact ⟨(hK.cell (p := ⟨w6.heap.size, 0, none⟩) bxz).trans x0, (hK.cell (p := ⟨w6.heap.size, 1, none⟩) bxz).trans x1, (hK.cell (p := ⟨w6.heap.size, 2, none⟩) bxz).trans x2, (hK.cell (p := ⟨w6.heap.size, 3, none⟩) bxz).trans x3, (hK.cell (p := ⟨w6.heap.size, 4, none⟩) bxz).trans x4, ((hE6b.trans hK).cell (p := ⟨gq, k * 5, none⟩) hqz6).trans y0, ((hE6b.trans hK).cell (p := ⟨gq, k * 5 + 1, none⟩) hqz6).trans y1, ((hE6b.trans hK).cell (p := ⟨gq, k * 5 + 2, none⟩) hqz6).trans y2, ((hE6b.trans hK).cell (p := ⟨gq, k * 5 + 3, none⟩) hqz6).trans y3, ((hE6b.trans hK).cell (p := ⟨gq, k * 5 + 4, none⟩) hqz6).trans y4⟩))
              (first | (go_at_call 20; refine (HSm.out _ (by (repeat (first | with_reducible exact Ext.refl _ | with_reducible assumption | with_reducible refine Ext.alloc ?_ _ | with_reducible refine Ext.drewN ?_ _ | with_reducible refine Ext.drew ?_ | (with_reducible refine Ext.setCell ?_ ?hp _; case hp => (simp <;> omega)))))).mono ?_; rintro e w7 ⟨rfl, hE7⟩))
            have hK : Ext (w6.alloc (.cells #[S an, .int .u16 5, .int .u16 ac, .int .u32 al, .slice dA6 1 dc6] 27)) w7 := Ext.trans (by (repeat (first | with_reducible exact Ext.refl _ | with_reducible assumption | with_reducible refine Ext.alloc ?_ _ | with_reducible refine Ext.drewN ?_ _ | with_reducible refine Ext.drew ?_ | (with_reducible refine Ext.setCell ?_ ?hp _; case hp => (simp <;> omega))))) hE7
            have hE67 : Ext w6 w7 := hE6b.trans hK
            have v0 := (hE67.cell (p := ⟨gq, k * 5, none⟩) hqz6).trans y0
            have v4 := (hE67.cell (p := ⟨gq, k * 5 + 4, none⟩) hqz6).trans y4
            have hx7 := (hE67.cell (p := ⟨xb, xo, none⟩) hxz6).trans hx6
            have hEo7 : Ext wo w7 := hE6.trans hE67
            have hos7 := hown.ext hEo7
            have hE57 : Ext w5 w7 := hE.trans hEo7
            have hs9 : seen.length ≤ 9 := by have := Hsl.out; omega
            clear x0 x1 x2 x3 x4 y0 y1 y2 y3 y4 z0 z1 z2 z3 z4 hx6 hxc bq2 HSm
            go_wp2_with fail
            go_loop [15] (fun i => ∃ j : Nat, j ≤ seen.length ∧ i = .int .i64 j) (fun i => seen.length - (intOf i).toNat)
            case atStart => exact ⟨0, by omega, rfl⟩
            case round =>
              obtain ⟨j, hj, rfl⟩ := hrel
              by_cases hjl : j < seen.length
              · obtain ⟨gs, rfl, _, hgsz, _, hgc⟩ := hos7.addr (by omega)
                have hck := hgc j (S seen[j]) (by simp [List.getElem?_eq_getElem hjl])
                have hyx : seen[j] ≠ d := fun e => by have := Hno.out; rw [List.contains_eq_any_beq, List.any_eq_false] at this; exact this _ (List.getElem_mem hjl) (by rw [e]; exact beq_self_eq_true _)
                generalize seen[j] = y at *
                have f1 := str_ne hyx
                have hji : (j : Int) < (seen.length : Int) := by omega
                have hj0 : (0 : Int) ≤ (j : Int) := by omega
                clear hgc hyx
                go_wp2_with fail
                go_round
                case rel => exact ⟨j + 1, by omega, by go_num⟩
                case measure => simp [intOf]; omega
              · obtain rfl : j = seen.length := by omega
                obtain ⟨i0, hi0, hz0, hz1, hz2⟩ := info_parts info_str
                go_wp2_with (first
                  | (at_builtin
                     refine wpList_app _ rfl (.tmp 128) (.tmp 130) _ rfl w5.heap.size 9 i0 _ 1 16 Tryz.underlying25 hi0 hz0 hz1 hz2 rfl (by omega) sA seen.length sc (seen.map S) rfl (hos7.ext ((Ext.refl _).alloc _)) 0 _ 1 1 ([d].map S) rfl (rd_new _ _ rfl _ _ 1 1 rfl) (str_one _) (by omega) (by omega) (by have := hE57.size; simp; omega) ?_
                     intro A8 c8 w8 hown8 hg8 hb8 hat8))
                have hE8 : Ext w5 w8 := (hE57.alloc _).then hb8 (Nat.le_refl _)
                go_roundw
                case rel =>
                  refine ⟨k + 1, d, seen ++ [d], A8, c8, by omega, by go_num, rfl, by simp, by omega, by simp [Hsl.out], ?_, Hwy.out, hE8⟩
                  rw [List.length_append, List.map_append]; exact hown8
                case measure => simp [intOf]; omega
          · obtain rfl : k = path.length := by omega
            rw [List.drop_length] at hwy
            have hfe : hr = here := hwy
            subst hfe
            go_wp2_with fail
            go_ret
            exact ⟨ret_bool (by simp), (hEw4.trans hE5).trans hE⟩
      · have f1 : ((err : Int) == 0) = false := by rw [beq_eq_false_iff_ne]; omega
        have f2 : ((err : Int) != 0) = true := by rw [bne, f1]; rfl
        obtain ⟨uA, uc, rfl, hu1, hu2⟩ := hu4.shape
        obtain ⟨e1, e2, e3⟩ := HF0.out.bad he
        dsimp only at e1 e2 e3
        subst e1 e2 e3
        clear he
        go_wp2_with fail
        go_ret
        exact ⟨rfl, hEw4⟩
    · have hqi : (1000 : Int) < (n.length : Int) := by omega
      go_enter Tryz.func13, Tryz.ntmps13
      go_wp2_with fail
      refine (HL.out _ ((Ext.refl _).alloc _)).mono ?_; rintro e w1 ⟨rfl, hE1⟩
      obtain ⟨b1, _, bz1⟩ := ext_new hE1
      have b10 : w1.cell? ⟨w.heap.size, 0, none⟩ = some (S n) := b1 0
      clear b1
      go_wp2_with fail
      refine (HA.out _ (((Ext.refl _).alloc _).trans hE1)).mono ?_; rintro e w2 ⟨rfl, hE2⟩
      go_wp2_with fail
      go_ret
      exact ⟨rfl, (((Ext.refl _).alloc _).trans hE1).trans hE2⟩
  · rw [hlg] at HL
    clear hlg
    go_enter Tryz.func13, Tryz.ntmps13
    go_wp2_with fail
    refine (HL.out _ ((Ext.refl _).alloc _)).mono ?_; rintro e w1 ⟨rfl, hE1⟩
    go_wp2_with fail
    refine (HA.out _ (((Ext.refl _).alloc _).trans hE1)).mono ?_; rintro e w2 ⟨rfl, hE2⟩
    go_wp2_with fail
    go_ret
    exact ⟨rfl, (((Ext.refl _).alloc _).trans hE1).trans hE2⟩
end Go.Proofs.YthdlgmfeicikpaaGreatDoor
