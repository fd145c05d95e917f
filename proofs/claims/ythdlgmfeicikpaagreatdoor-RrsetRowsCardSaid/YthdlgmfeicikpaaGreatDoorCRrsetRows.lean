/- hustingslaw08.RrsetRows returns true for every input, and every argument reads behind the call as it read before; the listed variable (errors.errorType) is tied to the program's text. No condition of ours. -/
import Derived.Test.YthdlgmfeicikpaaGreatDoorBm
import Derived.Test.YthdlgmfeicikpaaGreatDoorBo
import Derived.Test.YthdlgmfeicikpaaGreatDoorBq
import Derived.Test.YthdlgmfeicikpaaGreatDoorBn
import Derived.Test.YthdlgmfeicikpaaGreatDoorBg
namespace Go.Proofs.YthdlgmfeicikpaaGreatDoor
set_option linter.unusedSimpArgs false
set_option linter.unusedVariables false
open Go.RowKit
set_option maxRecDepth 100000

theorem recsOk8e {l : List RecD} (h : ∀ r ∈ l, RecOk r) : RecsOk l := fun r hr => ⟨(h r hr).2.2.1, (h r hr).2.2.2.1⟩
theorem u64_nat (x : Int) : ∃ U : Nat, IntKind.u64.wrap x = (U : Int) ∧ U < 18446744073709551616 := by
  have h1 : 0 ≤ IntKind.u64.wrap x := by show 0 ≤ x % _; exact Int.emod_nonneg _ (by decide)
  have h2 : IntKind.u64.wrap x < 18446744073709551616 := by show x % _ < _; exact Int.emod_lt_of_pos _ (by decide)
  exact ⟨(IntKind.u64.wrap x).toNat, by omega, by omega⟩
theorem u64_in (n : Nat) (h : n < 18446744073709551616) : IntKind.u64.wrap (n : Int) = (n : Int) := by
  show (n : Int) % _ = _
  exact Int.emod_eq_of_lt (by omega) (by show (n : Int) < 18446744073709551616; omega)

theorem group_turned' (l : List RecD) (U r : Nat) (h : U % l.length = r) : groupR (turnTo l r l.length) = groupR l := by
  by_cases h0 : l.length = 0
  · rw [List.eq_nil_of_length_eq_zero h0]; rfl
  · exact group_turned l r (by rw [← h]; exact Nat.mod_lt _ (by omega))
theorem turnTo_mem' {l : List RecD} {r : Nat} {x : RecD} (h : x ∈ turnTo l r l.length) : x ∈ l := by
  by_cases h0 : l.length = 0
  · rw [List.eq_nil_of_length_eq_zero h0] at h; simp [turnTo] at h
  · exact turnTo_mem (by omega) h
theorem backTo_mem' {l : List RecD} {x : RecD} (h : x ∈ backTo l l.length) : x ∈ l := by
  by_cases h0 : l.length = 0
  · rw [List.eq_nil_of_length_eq_zero h0] at h; simp [backTo] at h
  · exact backTo_mem (by omega) h
theorem own_apart {w : World} {lo : Nat} {e : TypeId} {sz n c : Nat} {A : Option Addr} {xs : List Value} (h : Own w lo e sz A n c xs) {H : Nat} (hH : w.heap.size ≤ H) : (Value.slice A n c).ownBlock ≠ some H := fun e => by
  have := h.blk _ e; omega
theorem rd_takeR {w : World} {lo : Nat} {A : Option Addr} {l : List RecD} (h : Rd w lo 5 A l.length (l.flatMap recCells)) (g : Nat) (hg : g ≤ l.length) : Rd w lo 5 A g ((l.take g).flatMap recCells) := by
  have hp : (l.take g).flatMap recCells <+: l.flatMap recCells := ⟨(l.drop g).flatMap recCells, by rw [← List.flatMap_append, List.take_append_drop]⟩
  refine ⟨by rw [flatR_len, List.length_take]; congr 1; omega, fun h0 => ?_⟩
  obtain ⟨b, off, e, h1, h2, h3⟩ := h.2 (by omega)
  refine ⟨b, off, e, h1, h2, fun j u hu => h3 j u ?_⟩
  obtain ⟨t, ht⟩ := hp
  rw [← ht, List.getElem?_append_left ((List.getElem?_eq_some_iff.1 hu).1)]; exact hu

set_option maxHeartbeats 8000000 in
theorem law_rrsetRows (v : Value) (l : List RecD) (by_ ag : Int) (w : World) (hg : Laid w) (h : Recs w 0 v l) (hre : ∀ r ∈ l, RecRe r) (hok : ∀ r ∈ l, RecOk r)
    (hb1 : -9223372036854775808 ≤ by_) (hb2 : by_ ≤ 9223372036854775807) (ha1 : -9223372036854775808 ≤ ag) (ha2 : ag ≤ 9223372036854775807) :
    Calls Tryz.prog 4 #[v, .int .i64 by_, .int .i64 ag] w fun e w' => e = .returned (.bool true) ∧ Ext w w' := by
  have HL := Lib.hid (fun W (hW : Ext w W) => law_long 0 v l W (h.ext hW) hre)
  have HA := Lib.hid (fun W (hW : Ext w W) => law8_awake W (hg.ext hW))
  obtain ⟨A, c, rfl, h1, h2, hrd⟩ := h
  have h : Recs w 0 (.slice A l.length c) l := ⟨A, c, rfl, h1, h2, hrd⟩
  have Hh := Lib.hid h
  clear h
  unfold maxLen at h2
  rcases hb : longB l with _ | _
  · have hsm := recs8 hb
    rw [hb] at HL
    have HG := Lib.hid (fun W lo v' (hW : Ext w W) m (hr : Recs W lo v' m) (hm : ∀ x ∈ m, x ∈ l) (hl : m.length ≤ 400) => rrset_groupR lo v' m W (hg.ext hW) hr ⟨by omega, fun r hr => by have := (recsBd8 hb).2 r (hm r hr); exact this⟩ (fun r hr => recsOk8e hok r (hm r hr)))
    have hl200 : l.length < 200 := hsm.1
    have Hrd := Lib.hid hrd
    clear hb hsm hrd
    obtain ⟨U, hU, hU2⟩ := u64_nat by_
    obtain ⟨G, hG, hG2⟩ := u64_nat ag
    have hll := u64_in l.length (by omega)
    obtain ⟨i0, hi0, hz0, hz1, hz2⟩ := info_parts info_rec8
    go_enter Tryz.func4, Tryz.ntmps4
    go_wp2_with fail
    refine (HL.out _ (Ext.refl _)).mono ?_; rintro e w1 ⟨rfl, hE1⟩
    go_wp2_with fail
    refine (HA.out _ hE1).mono ?_; rintro e w2 ⟨rfl, hx2⟩
    have hE2 : Ext w w2 := hE1.trans hx2
    clear hx2 hE1
    go_wp2_with fail
    refine (HG.out _ 0 _ hE2 l (Hh.out.ext hE2) (fun _ h => h) (by omega)).mono ?_; rintro e w3 ⟨g3, rfl, ho3, hE3⟩
    have hEw3 := hE2.trans hE3
    obtain ⟨gA, gc, rfl, _, _⟩ := ho3.shape
    go_wp2_with fail
    have hrr : ∃ r : Nat, U % l.length = r := ⟨_, rfl⟩
    obtain ⟨r, hr⟩ := hrr
    have HGt := Lib.hid (group_turned' l U r hr)
    have Hr := Lib.hid hr
    have HGb := Lib.hid (group_backw l)
    have hg1 : G % (l.length + 1) < l.length + 1 := Nat.mod_lt _ (by omega)
    obtain ⟨g, hgg⟩ : ∃ g : Nat, G % (l.length + 1) = g := ⟨_, rfl⟩
    have e9 : (G : Int) % ((l.length : Int) + 1) = (g : Int) := by rw [← hgg]; push_cast; rfl
    rw [hgg] at hg1
    have HGw := Lib.hid (group_twice l g)
    clear hr hgg
    go_loopw [8, 9, 10] (fun t bk i wr => ∃ (k : Nat) (tA bA : Option Addr) (tc bc : Nat), k ≤ l.length ∧ i = .int .i64 k ∧ t = .slice tA k tc ∧ bk = .slice bA k bc ∧
      Own wr w3.heap.size 38 5 tA k tc ((turnTo l r k).flatMap recCells) ∧ Own wr w3.heap.size 38 5 bA k bc ((backTo l k).flatMap recCells) ∧ ((Value.slice bA k bc).ownBlock = none ∨ (Value.slice bA k bc).ownBlock ≠ (Value.slice tA k tc).ownBlock) ∧ Ext w3 wr) (fun _ _ i _ => l.length - (intOf i).toNat)
    case atStart => exact ⟨0, none, none, 0, 0, by omega, rfl, rfl, rfl, Own.nil _ _ _ _, Own.nil _ _ _ _, .inl rfl, Ext.refl _⟩
    case round =>
      obtain ⟨k, tA, bA, tc, bc, hk, rfl, rfl, rfl, hot, hob, hD, hE⟩ := hrel
      obtain ⟨wo, rfl⟩ : ∃ wo : World, wo = wr := ⟨_, rfl⟩
      have hzo := hE.size
      by_cases hlt : k < l.length
      · have hrl : r < l.length := by rw [← Hr.out]; exact Nat.mod_lt _ (by omega)
        have e1 : (U : Int) % (l.length : Int) = (r : Int) := by rw [← Hr.out]; rfl
        have hjl : (k + r) % l.length < l.length := Nat.mod_lt _ (by omega)
        obtain ⟨j, hj⟩ : ∃ j, (k + r) % l.length = j := ⟨_, rfl⟩
        have e2 : ((k : Int) + (r : Int)) % (l.length : Int) = (j : Int) := by rw [← hj]; push_cast; rfl
        have e3 : ((k : Int) + (r : Int)).tmod (l.length : Int) = (j : Int) := by rw [Int.tmod_eq_emod_of_nonneg (by omega)]; exact e2
        rw [hj] at hjl
        have hql : l.length - 1 - k < l.length := by omega
        obtain ⟨q, hq⟩ : ∃ q, l.length - 1 - k = q := ⟨_, rfl⟩
        have e4 : (l.length : Int) - 1 - (k : Int) = (q : Int) := by omega
        rw [hq] at hql
        have HT := Lib.hid (turnTo_step l r k j hjl hj)
        have HB := Lib.hid (backTo_step l k q hql hq)
        obtain ⟨b, bo, rfl, _, hbz, hc⟩ := Hrd.out.2 (by omega)
        have hcj := recs_cells hc j l[j] (List.getElem?_eq_getElem hjl)
        have hcq := recs_cells hc q l[q] (List.getElem?_eq_getElem hql)
        generalize l[j] = x at *
        generalize l[q] = y at *
        obtain ⟨x0, x1, x2, x3, x4⟩ := hcj
        obtain ⟨y0, y1, y2, y3, y4⟩ := hcq
        have hEwo := hEw3.trans hE
        have hbo : b < wo.heap.size := Nat.lt_of_lt_of_le hbz hEwo.size
        have u0 := (hEwo.cell (p := ⟨b, bo + j * 5, none⟩) hbz).trans x0
        have u1 := (hEwo.cell (p := ⟨b, bo + j * 5 + 1, none⟩) hbz).trans x1
        have u2 := (hEwo.cell (p := ⟨b, bo + j * 5 + 2, none⟩) hbz).trans x2
        have u3 := (hEwo.cell (p := ⟨b, bo + j * 5 + 3, none⟩) hbz).trans x3
        have u4 := (hEwo.cell (p := ⟨b, bo + j * 5 + 4, none⟩) hbz).trans x4
        have hj1 : (j : Int) < (l.length : Int) := by omega
        have hq1 : (q : Int) < (l.length : Int) := by omega
        have hne : ((l.length : Int) == 0) = false := by rw [beq_eq_false_iff_ne]; omega
        have hr2 : (r : Int) ≤ 200 := by omega
        clear hc hj hq
        go_wp2_with (first
          | (at_builtin
             refine wpList_app _ rfl (.tmp 27) (.tmp 43) _ rfl w3.heap.size 38 i0 _ 5 40 Tryz.underlying34 hi0 hz0 hz1 hz2 rfl (by omega) tA k tc ((turnTo l r k).flatMap recCells) rfl (hot.ext ((Ext.refl _).alloc _)) 0 _ 1 1 (recCells x) rfl (rd_new _ _ rfl _ _ 1 5 rfl) (rec_one8 x) (by omega) (by omega) (by simp; omega) ?_
             intro A4 c4 w4 hown4 hg4 hb4 hat4
             have hE4 : Ext w3 w4 := (hE.alloc _).then hb4 (Nat.le_refl _)
             have hob4 := Own.kept (hob.ext ((Ext.refl _).alloc _)) hg4 hD
             have hD4 : (Value.slice bA k bc).ownBlock = none ∨ (Value.slice bA k bc).ownBlock ≠ (Value.slice A4 (k + 1) c4).ownBlock := by
               rcases hat4 with e | e
               · rw [e]; exact hD
               · exact .inr (by rw [e]; exact own_apart hob (by simp))
             have hz4 := hE4.size
             have v0 := (hb4.cell (p := ⟨b, bo + q * 5, none⟩) (show b < w3.heap.size from Nat.lt_of_lt_of_le hbz hEw3.size)).trans ((World.cell?_alloc_lt _ _ ⟨b, bo + q * 5, none⟩ hbo).trans ((hEwo.cell (p := ⟨b, bo + q * 5, none⟩) hbz).trans y0))
             have v1 := (hb4.cell (p := ⟨b, bo + q * 5 + 1, none⟩) (show b < w3.heap.size from Nat.lt_of_lt_of_le hbz hEw3.size)).trans ((World.cell?_alloc_lt _ _ ⟨b, bo + q * 5 + 1, none⟩ hbo).trans ((hEwo.cell (p := ⟨b, bo + q * 5 + 1, none⟩) hbz).trans y1))
             have v2 := (hb4.cell (p := ⟨b, bo + q * 5 + 2, none⟩) (show b < w3.heap.size from Nat.lt_of_lt_of_le hbz hEw3.size)).trans ((World.cell?_alloc_lt _ _ ⟨b, bo + q * 5 + 2, none⟩ hbo).trans ((hEwo.cell (p := ⟨b, bo + q * 5 + 2, none⟩) hbz).trans y2))
             have v3 := (hb4.cell (p := ⟨b, bo + q * 5 + 3, none⟩) (show b < w3.heap.size from Nat.lt_of_lt_of_le hbz hEw3.size)).trans ((World.cell?_alloc_lt _ _ ⟨b, bo + q * 5 + 3, none⟩ hbo).trans ((hEwo.cell (p := ⟨b, bo + q * 5 + 3, none⟩) hbz).trans y3))
             have v4 := (hb4.cell (p := ⟨b, bo + q * 5 + 4, none⟩) (show b < w3.heap.size from Nat.lt_of_lt_of_le hbz hEw3.size)).trans ((World.cell?_alloc_lt _ _ ⟨b, bo + q * 5 + 4, none⟩ hbo).trans ((hEwo.cell (p := ⟨b, bo + q * 5 + 4, none⟩) hbz).trans y4)))
          | (at_builtin
             refine wpList_app _ rfl (.tmp 45) (.tmp 54) _ rfl w3.heap.size 38 i0 _ 5 40 Tryz.underlying34 hi0 hz0 hz1 hz2 rfl (by omega) bA k bc ((backTo l k).flatMap recCells) rfl (hob4.ext ((Ext.refl _).alloc _)) 0 _ 1 1 (recCells y) rfl (rd_new _ _ rfl _ _ 1 5 rfl) (rec_one8 y) (by omega) (by omega) (by simp; omega) ?_
             intro A5 c5 w5 hown5 hg5 hb5 hat5))
        have hE5 : Ext w3 w5 := (hE4.alloc _).then hb5 (Nat.le_refl _)
        have hsym : (Value.slice A4 (k + 1) c4).ownBlock = none ∨ (Value.slice A4 (k + 1) c4).ownBlock ≠ (Value.slice bA k bc).ownBlock := by
          rcases hD4 with e | e
          · by_cases h0 : (Value.slice A4 (k + 1) c4).ownBlock = none
            · exact .inl h0
            · exact .inr (by rw [e]; exact h0)
          · exact .inr (fun h => e h.symm)
        have hot5 := Own.kept (hown4.ext ((Ext.refl _).alloc _)) hg5 hsym
        have hD5 : (Value.slice A5 (k + 1) c5).ownBlock = none ∨ (Value.slice A5 (k + 1) c5).ownBlock ≠ (Value.slice A4 (k + 1) c4).ownBlock := by
          rcases hat5 with e | e
          · rw [e]; exact hD4
          · exact .inr (by rw [e]; exact fun h => own_apart hown4 (by simp) h.symm)
        go_roundw
        case rel =>
          refine ⟨k + 1, A4, A5, c4, c5, by omega, by go_num, rfl, rfl, ?_, ?_, hD5, hE5⟩
          · rw [HT.out, List.flatMap_append]; simpa using hot5
          · rw [HB.out, List.flatMap_append]; simpa using hown5
        case measure => simp [intOf]; omega
      · obtain rfl : k = l.length := by omega
        have hEwo := hEw3.trans hE
        have hrt : Recs wo w3.heap.size (.slice tA l.length tc) (turnTo l r l.length) := ⟨tA, tc, by rw [turnTo_len], by rw [turnTo_len]; exact hot.cap.1, hot.cap.2, by rw [turnTo_len]; exact hot.rd⟩
        have hrb : Recs wo w3.heap.size (.slice bA l.length bc) (backTo l l.length) := ⟨bA, bc, by rw [backTo_len], by rw [backTo_len]; exact hob.cap.1, hob.cap.2, by rw [backTo_len]; exact hob.rd⟩
        have hl1 : IntKind.u64.wrap ((l.length : Int) + 1) = (l.length : Int) + 1 := by have := u64_in (l.length + 1) (by omega); push_cast at this; exact this
        have hne2 : ¬ ((l.length : Int) + 1 = 0) := by omega
        have hl0 : IntKind.i64.wrap ((l.length : Int) + 1) = (l.length : Int) + 1 := IntWalk.i64_in _ (by omega)
        have hg4 : IntKind.i64.wrap (g : Int) = (g : Int) := IntWalk.i64_in _ (by omega)
        have e9t : (G : Int).tmod ((l.length : Int) + 1) = (g : Int) := by rw [Int.tmod_eq_emod_of_nonneg (by omega)]; exact e9
        have hrl := Hrd.out.ext hEwo
        have hgl : (g : Int) ≤ (l.length : Int) := by omega
        have hg0 : (0 : Int) ≤ (g : Int) := by omega
        have hgc : (g : Int) ≤ (c : Int) := by omega
        have hne : ((l.length : Int) + 1 == 0) = false := by rw [beq_eq_false_iff_ne]; omega
        have hsrc : Rd wo 0 5 A g ((l.take g).flatMap recCells) := rd_takeR hrl g (by omega)
        clear hot hob hD
        go_wp2_with fail
        refine wp_region_noPanic ?_
        refine wp_region_seq (S := (fun V => Ext wo V)) [(1, true), (3, true), (4, true), (5, true), (6, true), (7, true), (8, true), (9, true), (10, true), (11, true), (12, true), (0, false), (2, false), (13, false), (14, true)] (by kernel_rfl) (by kernel_rfl) (fun _ _ _ _ _ h => h) ((Ext.refl wo).drew) ?_
        repeat ((with_reducible refine heldIs ?_); first
          | (refine heldTake (v := ?_) (by rfl) (by rfl) ?_ ?_; rotate_left; (focus (intro V hV; (try dsimp only at hV); (go_simp <;> with_reducible rfl))); (try simp only [Act.put, List.setIfInBounds_toArray, List.set_cons_zero, List.set_cons_succ]))
          | (refine heldSkip (by rfl) (by rfl) ?_; (try simp only [Act.put, List.setIfInBounds_toArray, List.set_cons_zero, List.set_cons_succ])))
        refine heldRun (by rfl) (fun K hK => ?_)
        go_simp
        refine hK.out _ _ ?_ ?_
        · exact ((Ext.refl wo).drew).alloc _
        clear hK K
        (try simp only [Act.put, List.setIfInBounds_toArray, List.set_cons_zero, List.set_cons_succ])
        repeat ((with_reducible refine heldIs ?_); first
          | (refine heldTake (v := ?_) (by rfl) (by rfl) ?_ ?_; rotate_left; (focus (intro V hV; (try dsimp only at hV); (go_simp <;> with_reducible rfl))); (try simp only [Act.put, List.setIfInBounds_toArray, List.set_cons_zero, List.set_cons_succ]))
          | (refine heldSkip (by rfl) (by rfl) ?_; (try simp only [Act.put, List.setIfInBounds_toArray, List.set_cons_zero, List.set_cons_succ])))
        refine heldRun (by rfl) (fun K hK => ?_)
        refine step_app _ (by rfl) (.tmp 56) (.tmp 57) _ (by rfl) wo.heap.size 38 i0 _ 5 40 Tryz.underlying34 hi0 hz0 hz1 hz2 rfl (by omega) (some ⟨wo.heap.size, 0, none⟩) 0 0 [] (by rfl) (own_zero wo.drew 38 5) 0 A l.length c (l.flatMap recCells) (by rfl) (hrl.ext (((Ext.refl wo).drew).alloc _)) (recs_one8 l) (by omega) (by omega) (by simp) ?_
        intro A5 c5 w5 hown5 hg5 hb5 hat5
        rw [Nat.zero_add, List.nil_append] at hown5
        rw [Nat.zero_add]
        have hEo5 : Ext wo w5 := (((Ext.refl wo).drew).alloc _).then hb5 (by simp)
        refine hK.out _ _ ?_ ?_
        · exact hEo5
        clear hK K
        (try simp only [Act.put, List.setIfInBounds_toArray, List.set_cons_zero, List.set_cons_succ])
        repeat ((with_reducible refine heldIs ?_); first
          | (refine heldTake (v := ?_) (by rfl) (by rfl) ?_ ?_; rotate_left; (focus (intro V hV; (try dsimp only at hV); (go_simp <;> with_reducible rfl))); (try simp only [Act.put, List.setIfInBounds_toArray, List.set_cons_zero, List.set_cons_succ]))
          | (refine heldSkip (by rfl) (by rfl) ?_; (try simp only [Act.put, List.setIfInBounds_toArray, List.set_cons_zero, List.set_cons_succ])))
        refine heldRun (by rfl) (fun K hK => ?_)
        refine step_app _ (by rfl) (.tmp 58) (.tmp 68) _ (by rfl) wo.heap.size 38 i0 _ 5 40 Tryz.underlying34 hi0 hz0 hz1 hz2 rfl (by omega) A5 l.length c5 (l.flatMap recCells) (by rfl) hown5 0 A g c ((l.take g).flatMap recCells) (by rfl) (hsrc.ext hEo5) (recs_one8 _) (by omega) (by omega) hEo5.size ?_
        intro A6 c6 w6 hown6 hg6 hb6 hat6
        refine hK.out _ _ ?_ ?_
        · exact hEo5.then hb6 (Nat.le_refl _)
        clear hK K
        (try simp only [Act.put, List.setIfInBounds_toArray, List.set_cons_zero, List.set_cons_succ])
        repeat ((with_reducible refine heldIs ?_); first
          | (refine heldTake (v := ?_) (by rfl) (by rfl) ?_ ?_; rotate_left; (focus (intro V hV; (try dsimp only at hV); (go_simp <;> with_reducible rfl))); (try simp only [Act.put, List.setIfInBounds_toArray, List.set_cons_zero, List.set_cons_succ]))
          | (refine heldSkip (by rfl) (by rfl) ?_; (try simp only [Act.put, List.setIfInBounds_toArray, List.set_cons_zero, List.set_cons_succ])))
        refine heldDone ?_
        refine NoPanic.normal ?_
        have hrw : Recs w6 wo.heap.size (.slice A6 (l.length + g) c6) (l ++ l.take g) := ⟨A6, c6, by simp; omega, by have := hown6.cap.1; simp; omega, hown6.cap.2, by
          have := hown6.rd
          rw [List.flatMap_append]
          have e : (l ++ l.take g).length = l.length + g := by simp; omega
          rw [e]; exact this⟩
        have hE6 : Ext wo w6 := hEo5.then hb6 (by simp)
        go_wp2_with fail
        refine (HG.out _ _ _ (hEwo.trans hE6) _ (hrt.ext hE6) (fun x hx => turnTo_mem' hx) (by rw [turnTo_len]; omega)).mono ?_; rintro e w7 ⟨g7, rfl, ho7, hE7⟩
        rw [HGt.out] at ho7
        obtain ⟨aA, ac, rfl, _, _⟩ := ho7.shape
        go_wp2_with fail
        refine (ref_sameAll _ _ _ _ _ _ _ ho7.sets (ho3.sets.ext ((hE.trans hE6).trans hE7))).mono ?_; rintro e w8 ⟨rfl, hE8⟩
        rw [decide_eq_true rfl]
        have hE68 := hE7.trans hE8
        go_wp2_with fail
        refine (HG.out _ _ _ ((hEwo.trans hE6).trans hE68) _ ((hrb.ext hE6).ext hE68) (fun x hx => backTo_mem' hx) (by rw [backTo_len]; omega)).mono ?_; rintro e w9 ⟨g9, rfl, ho9, hE9⟩
        rw [HGb.out] at ho9
        obtain ⟨aA9, ac9, rfl, _, _⟩ := ho9.shape
        have hE69 := hE68.trans hE9
        go_wp2_with fail
        refine (ref_sameAll _ _ _ _ _ _ _ ho9.sets (ho3.sets.ext ((hE.trans hE6).trans hE69))).mono ?_; rintro e w10 ⟨rfl, hE10⟩
        rw [decide_eq_true rfl]
        have hE610 := hE69.trans hE10
        go_wp2_with fail
        refine (HG.out _ _ _ ((hEwo.trans hE6).trans hE610) _ (hrw.ext hE610) (fun x hx => (twice_mem l g x).1 hx) (by simp; omega)).mono ?_; rintro e w11 ⟨g11, rfl, ho11, hE11⟩
        rw [HGw.out] at ho11
        obtain ⟨aA11, ac11, rfl, _, _⟩ := ho11.shape
        have hE611 := hE610.trans hE11
        go_wp2_with fail
        refine (ref_sameAll _ _ _ _ _ _ _ ho11.sets (ho3.sets.ext ((hE.trans hE6).trans hE611))).mono ?_; rintro e w12 ⟨rfl, hE12⟩
        rw [decide_eq_true rfl]
        go_wp2_with fail
        go_ret
        exact ⟨rfl, ((hEwo.trans hE6).trans hE611).trans hE12⟩
  · rw [hb] at HL
    clear hb
    go_enter Tryz.func4, Tryz.ntmps4
    go_wp2_with fail
    refine (HL.out _ (Ext.refl _)).mono ?_; rintro e w1 ⟨rfl, hE1⟩
    go_wp2_with fail
    refine (HA.out _ hE1).mono ?_; rintro e w2 ⟨rfl, hE2⟩
    go_wp2_with fail
    go_ret
    exact ⟨rfl, hE1.trans hE2⟩
end Go.Proofs.YthdlgmfeicikpaaGreatDoor
namespace Go.Proofs.YthdlgmfeicikpaaGreatDoor
set_option linter.unusedSimpArgs false
set_option linter.unusedVariables false
open Go.ChangeShapes Go.WideShapes Go.ChangeAt Go.RowKit
set_option maxRecDepth 100000

theorem rrsetRows_contract (H : Type) (enc : TypeId × Value → H) (W : World) (base : Nat) (args : Array Value) (ds gs : List (DataW H)) (before : List MemPlace)
    (hval : ∀ (j : Nat) t v, Tryz.f4.params[j]? = some t → args[j]? = some v → Value.okWide Tryz.prog W .any base t v)
    (hW : DataW.Whole enc Tryz.prog Tryz.f4.params.toList Rows.rrsetRowsSpec.vars false W args.toList ds gs before)
    (hsz : (DataW.weightsEach Tryz.prog (Tryz.f4.params.toList ++ (OpenSpec.ofChange Rows.rrsetRowsSpec).bare.plain.varTypes Tryz.prog) (ds ++ gs)).all (· ≤ reachBytes) = true)
    (hL : laidMetH Tryz.prog laidL W) :
    Calls Tryz.prog 4 args W fun e W' => ∃ v, e = .returned v ∧ Rows.rrsetRowsSpec.post enc Tryz.prog Tryz.f4 false true false false W args v W' := by
  have hW' := hW
  have hp : ∀ t ∈ Tryz.f4.params.toList, Tryz.prog.readableRec t = true ∧ t < Tryz.prog.types.size := by
    have h : (Tryz.f4.params.toList.all fun t => Tryz.prog.readableRec t && decide (t < Tryz.prog.types.size)) = true := by kernel_rfl
    simpa only [List.all_eq_true, Bool.and_eq_true, decide_eq_true_eq] using h
  have hg := laid_of hL
  obtain ⟨p, q, hA0, hV, rfl, _, _⟩ := hW
  have hA : DataW.TrodAll enc Tryz.prog W 0 (fun _ => true) true Tryz.f4.params.toList args.toList ds p := hA0
  clear hA0
  rw [Tryz.params4] at hA hval hsz
  obtain ⟨rfl, rfl⟩ := trodVars_none hV
  obtain ⟨v0, v1, v2, d0, d1, d2, p0, p1, p2, rfl, rfl, rfl, h0, h1, h2⟩ := trodAll_three hA
  obtain ⟨l, hr, hlo⟩ := open_recsW (hval 0 _ _ rfl rfl) h0
  obtain ⟨by_, rfl, hb1, hb2⟩ := open_i64 (hval 1 _ _ rfl rfl) h1
  obtain ⟨ag, rfl, ha1, ha2⟩ := open_i64 (hval 2 _ _ rfl rfl) h2
  refine (law_rrsetRows v0 l by_ ag W hg hr (fun r hr => ⟨reach_of hsz (j := 0) rfl rfl (hlo r hr).2.1, reach_of hsz (j := 0) rfl rfl (hlo r hr).2.2⟩) (fun r hr => (hlo r hr).1) hb1 hb2 ha1 ha2).mono ?_
  rintro e W' ⟨rfl, hE⟩
  exact ⟨_, rfl, post_true laid_out rfl (by kernel_rfl) Tryz.underlying4 hp hW' rfl hE⟩

theorem rrsetRows_reads (os : Os) {H : Type} (enc : TypeId × Value → H) : ∃ places, DataW.whole enc Tryz.prog ((laidWorld os).forCall (fun _ _ => 0) ⟨#[], #[.slice none 0 0, .int .i64 0, .int .i64 0], []⟩).memory Tryz.f4.params.toList Rows.rrsetRowsSpec.vars false (#[.slice none 0 0, .int .i64 0, .int .i64 0] : Array Value).toList 8 = some ([.nil, .lit (.int .i64 0), .lit (.int .i64 0)], [], places) :=
  ⟨[], by kernel_rfl⟩
theorem rrsetRows_lifted (os : Os) (started : os.Started) (H : Type) (enc : TypeId × Value → H) (F : Stop.Interp) :
    ReturnsInHanded {} Tryz.checked os 4 .any ((OpenSpec.ofChange Rows.rrsetRowsSpec).preRow enc Tryz.prog Tryz.f4 Rows.rrsetRowsRow.domain false Rows.rrsetRowsRow.laid) (((OpenSpec.ofChange Rows.rrsetRowsSpec).at F).post enc Tryz.prog Tryz.f4 false true false false) := by
  obtain ⟨places, hx⟩ := rrsetRows_reads os enc
  refine returnsInHanded_of_row (C := Tryz.checked) (s := OpenSpec.ofChange Rows.rrsetRowsSpec) own_knob started (by kernel_rfl) Tryz.func4
    (witness_row_at (enc := enc) (C := Tryz.checked) false (laidWorld os) #[.slice none 0 0, .int .i64 0, .int .i64 0] rfl (by kernel_rfl) (by kernel_rfl) (by kernel_rfl)
      (OpenSpec.preRow_of_cond 8 hx (by kernel_rfl) (fun k hk => by cases hk) (by kernel_rfl) (laid_met os _))) ?_
  intro W base args ds gs before hval hW _ _ hsz hL _ _
  exact rrsetRows_contract H enc W base args ds gs before hval hW hsz hL
theorem rrsetRows_said : Rows.RrsetRowsSaid :=
  OpenClaim.holds_of_cond 4 Tryz.f4 rfl rfl rfl rfl rfl rfl rfl ⟨rfl, rfl, rfl, rfl, rfl⟩ rfl rfl rfl rfl rfl (by kernel_rfl) Tryz.func4 (by kernel_rfl)
    (of_decide_eq_true (by kernel_rfl)) (by unfold Func.isWrapper; first | (rw [if_pos (by decide +kernel)]; kernel_rfl) | (rw [if_neg (by decide +kernel)]; exact ⟨rfl, rfl⟩))
    (fun os started H enc _ F => by rw [OpenClaim.pre_eq_preRow]; exact rrsetRows_lifted os started H enc F)
/-- THE CARD. -/
theorem rrsetRows_card : Rows.RrsetRowsCardSaid :=
  Claim7.holds_tied_plain_at .later [] _ _ _ _ rrsetRows_said (fun _ h => by cases h) (by kernel_rfl) (fun _ h => by cases h) rrsetRows_row_tie rfl ⟨rfl, rfl⟩ (by kernel_rfl) rfl
    (fun f fn hf hfn => by
      obtain rfl : f = 4 := Option.some.inj ((show Tryz.prog.funcNamed Rows.rrsetRowsRow.func = some 4 by kernel_rfl).symm.trans hf) |>.symm
      obtain rfl : fn = Tryz.f4 := (Option.some.inj (Tryz.func4.symm.trans hfn)).symm
      refine ⟨by kernel_rfl, fun j t ht => ?_⟩
      have h : (Tryz.f4.params.toList.all fun t => !Tryz.prog.wantsStandIn t) = true := by kernel_rfl
      have h2 := List.all_eq_true.1 h t (by simpa using Array.mem_of_getElem? ht)
      exact (by simpa using h2 : Tryz.prog.wantsStandIn t = false))
    (by kernel_rfl)
#print axioms rrsetRows_card
end Go.Proofs.YthdlgmfeicikpaaGreatDoor
