/- hustingslaw28.AnswerRows returns true for every input, and every argument reads behind the call as it read before; the listed variables are tied to the program's text. No condition of ours. -/
import Derived.Test.YtebkdcamblifoaaGreatDoorBrz
import Derived.Test.YtebkdcamblifoaaGreatDoorBrr
import Derived.Test.YtebkdcamblifoaaGreatDoorBhx
import Derived.Test.YtebkdcamblifoaaGreatDoorBrw
import Derived.Test.YtebkdcamblifoaaGreatDoorBc7
namespace Go.Proofs.YtebkdcamblifoaaGreatDoor
set_option linter.unusedSimpArgs false
set_option linter.unusedVariables false
open Go.RowKit
set_option maxRecDepth 100000

theorem cell_lt7 {w : World} {p : Addr} {v : Value} (h : w.cell? p = some v) : p.block < w.heap.size := by
  rcases Nat.lt_or_ge p.block w.heap.size with h' | h'
  · exact h'
  · simp [World.cell?, Array.getElem?_eq_none h'] at h
theorem recs_one7 (l : List RecD) : ∀ u ∈ l.flatMap recCells, u.oneCell' = true := by
  intro u hu
  obtain ⟨r, _, hr⟩ := List.mem_flatMap.1 hu
  exact rec_one7 r u hr
/-- Records of the call's own, off one box. -/
def RowB (w : World) (b : Nat) (v : Value) (l : List RecD) : Prop := ∃ lo, b < lo ∧ ORec7 w lo v l
theorem RowB.nil (w : World) (b : Nat) : RowB w b (.slice none 0 0) [] := ⟨b + 1, Nat.lt_succ_self _, none, 0, rfl, Own.nil _ _ _ _⟩
theorem RowB.ext {w w' : World} {b : Nat} {v : Value} {l : List RecD} (h : RowB w b v l) (hE : Ext w w') : RowB w' b v l := by
  obtain ⟨lo, h1, A, c, e, h2⟩ := h; exact ⟨lo, h1, A, c, e, h2.ext hE⟩
theorem RowB.by_ {w w' : World} {b : Nat} {v : Value} {l : List RecD} (h : RowB w b v l) (hk : ∀ x, x < w.heap.size → x ≠ b → w'.heap[x]? = w.heap[x]?) : RowB w' b v l := by
  obtain ⟨lo, h1, h2⟩ := h; exact ⟨lo, h1, h2.by_ fun x hx hx2 => hk x hx2 (by omega)⟩
set_option maxHeartbeats 8000000 in
theorem law28_rows (d : List UInt8) (vc ttl n : Int) (vs vo : Value) (sets soa : List SetD) (w : World) (hg : Laid w) (hb : BitsAt w) (h : Arg28 w d vc ttl vs vo sets soa) :
    Calls Tryz.prog 8 #[S d, .agg #[.int .u8 vc, vs, vo], .int .u32 ttl, .int .i64 n] w (AwPost w) := by
  have HAw := Lib.hid (fun V (hV : Ext w V) => law28_awake V (hg.ext hV) (hb.ext hV))
  have HSm := Lib.hid (fun V (hV : Ext w V) => law28_small vc vs vo sets soa V (h.vs.ext hV) (h.vo.ext hV))
  have H := Lib.hid h
  obtain ⟨sps, sA, sc, hspe, rfl, hsp1, hsp2, hsrd, hsst⟩ := h.vs
  obtain ⟨ops, oA, oc, hope, rfl, hop1, hop2, hord, host⟩ := h.vo
  have Hspe := Lib.hid hspe
  have Hope := Lib.hid hope
  clear hspe hope
  have hdl := h.d
  unfold maxLen at hdl
  clear h
  obtain ⟨X0, hX0⟩ : ∃ X0, X0 = w.alloc (.cells #[.int .u8 vc, .slice sA sps.length sc, .slice oA ops.length oc] 36) := ⟨_, rfl⟩
  have hw0 : Ext w X0 := by rw [hX0]; exact (Ext.refl _).alloc _
  have r0 : X0.heap[w.heap.size]? = some (.cells #[.int .u8 vc, .slice sA sps.length sc, .slice oA ops.length oc] 36) := by rw [hX0]; exact heap_alloc_new _ _
  have z0 : X0.cell? ⟨w.heap.size, 0, none⟩ = some (.int .u8 vc) := box_cell r0 rfl
  have z1 : X0.cell? ⟨w.heap.size, 1, none⟩ = some (.slice sA sps.length sc) := box_cell r0 rfl
  have z2 : X0.cell? ⟨w.heap.size, 2, none⟩ = some (.slice oA ops.length oc) := box_cell r0 rfl
  go_enter Tryz.func8, Tryz.ntmps8
  go_upto_region 1 with fail
  have hzz : w.alloc (.cells #[.int .u8 vc, .slice sA sps.length sc, .slice oA ops.length oc] 36) = X0 := hX0.symm
  rw [hzz]
  clear hzz hX0
  by_cases hlong : 3000 < d.length
  · have hli : (3000 : Int) < (d.length : Int) := by omega
    clear z0 z1 z2
    go_wp2_with fail
    refine (HAw.out _ hw0).mono ?_
    rintro e w1 ⟨rfl, hE1⟩
    go_wp2_with fail
    go_ret
    exact ⟨rfl, hw0.trans hE1⟩
  have hli : ¬ (3000 : Int) < (d.length : Int) := by omega
  go_upto_region 2 with (first
    | (go_at_call 14; refine (HSm.out _ hw0).mono ?_; rintro e w1 ⟨B, rfl, hB, hE1⟩; (rcases B with _ | _))
    | (go_at_call 11; refine (HAw.out _ (hw0.trans hE1)).mono ?_; rintro e w2 ⟨rfl, hE2⟩)
    | fail)
  · go_wp2_with fail
    refine (HAw.out _ (hw0.trans hE1)).mono ?_
    rintro e w2 ⟨rfl, hE2⟩
    go_wp2_with fail
    go_ret
    exact ⟨rfl, hw0.trans (hE1.trans hE2)⟩
  obtain ⟨hsm1, hsm2⟩ : SmL sets ∧ SmL soa := by first | exact hB rfl | exact hB trivial | exact hB
  have hw2 : Ext w w2 := (hw0.trans hE1).trans hE2
  have HLk := Lib.hid (int_look d w2 (hg.ext hw2) (hb.ext hw2) (by omega))
  have HLo := Lib.hid (look_ok d)
  have hcn : (lookOf d).q.name.length ≤ 1048576 := by
    rcases hq : (lookOf d).hasQ with _ | _
    · rw [look_noq hq]; simp [qNone]
    · exact Nat.le_trans (may_le (HLo.out.q hq)) (by omega)
  obtain ⟨c, hc⟩ : ∃ c, c = lookOf d := ⟨_, rfl⟩
  rw [← hc] at HLk HLo hcn
  clear hc
  have HOf := Lib.hid (fun t V (ht : 0 ≤ t ∧ t ≤ 4294967295) (hV : Ext w V) => ans_of c vc (.slice sA sps.length sc) (.slice oA ops.length oc) sets soa t n V (hg.ext hV) (hb.ext hV) HLo.out.wf hcn (H.out.vs.ext hV) (H.out.vo.ext hV) (hsm1.ok H.out.ws) (hsm2.ok H.out.wo) ht)
  refine HLk.out.mono ?_
  rintro e w3 ⟨rfl, hE3⟩
  dsimp only
  iterate 1 go_step
  obtain ⟨b11, hb11⟩ : ∃ b11, b11 = w3.heap.size := ⟨_, rfl⟩
  have hz11 : (w3.alloc (.cells cameZ 31)).heap[b11]? = some (.cells cameZ 31) := by rw [hb11]; exact heap_alloc_new _ _
  refine Go.Great.wpList_allocTo rfl (some 9) rfl (.pointer (some ⟨w3.heap.size, 0, none⟩)) (.cells cameZ 31) (by kernel_rfl) ?_
  rw [← hb11]
  refine Go.wpList_store_rowTo rfl 31 (.tmp 9) (.tmp 33) rfl rfl b11 (caRow c.kind c.code c.hd c.hasQ c.q c.hasE c.size) rfl rfl 31 _ hz11 (by kernel_rfl) rfl (by kernel_rfl) ?_
  rw [alloc_setRow7 w3 cameZ (caRow c.kind c.code c.hd c.hasQ c.q c.hasE c.size) 31 b11 hb11]
  refine wpList_nil ?_
  have r11 : (w3.alloc (.cells (caRow c.kind c.code c.hd c.hasQ c.q c.hasE c.size) 31)).heap[b11]? = some (.cells (caRow c.kind c.code c.hd c.hasQ c.q c.hasE c.size) 31) := by rw [hb11]; exact heap_alloc_new _ _
  have hw4 : Ext w (w3.alloc (.cells (caRow c.kind c.code c.hd c.hasQ c.q c.hasE c.size) 31)) := (hw2.trans hE3).alloc _
  have h03 : Ext X0 (w3.alloc (.cells (caRow c.kind c.code c.hd c.hasQ c.q c.hasE c.size) 31)) := ((hE1.trans hE2).trans hE3).alloc _
  obtain ⟨X4, hX⟩ : ∃ X4, X4 = w3.alloc (.cells (caRow c.kind c.code c.hd c.hasQ c.q c.hasE c.size) 31) := ⟨_, rfl⟩
  rw [← hX] at r11 hw4 h03 ⊢
  clear hX hz11 hb11 hE3 hE2 hE1 hB HLk HAw HSm z0 z1 z2 hw2 hli
  have r04 := (h03.block _ (Array.getElem?_eq_some_iff.1 r0).1).trans r0
  have hC0 : X4.cell? ⟨b11, 0, none⟩ = some (.int .u8 c.kind) := box_cell r11 rfl
  go_upto_region 4 with fail
  have r114 := r11
  obtain ⟨s, hs⟩ : ∃ s, s = ansOf c vc sets soa ttl n := ⟨_, rfl⟩
  have HO1 := Lib.hid (fun V hV => HOf.out ttl V H.out.ttl hV)
  rw [← hs] at HO1
  unfold StrPost at HO1
  have Hs := Lib.hid hs
  clear hs
  go_upto_region 5 with (first | (refine wpList_load_part (by rfl) 31 (.tmp 9) rfl b11 0 rfl [.int .u8 c.kind, .int .i64 c.code, .int .u16 c.hd.id, .bool c.hd.qr, .int .u8 c.hd.op, .bool c.hd.aa, .bool c.hd.tc, .bool c.hd.rd, .bool c.hd.ra, .bool c.hd.z, .bool c.hd.ad, .bool c.hd.cd, .int .u8 c.hd.code, .bool c.hasQ, S c.q.name, .int .u16 c.q.typ, .int .u16 c.q.cls, .bool c.hasE, .int .i64 c.size] (row_all r114) _ Tryz.underlying31 rfl (by kernel_rfl) ?_) | (refine wpList_load_part (by rfl) 36 (.tmp 5) rfl w.heap.size 0 rfl [.int .u8 vc, .slice sA sps.length sc, .slice oA ops.length oc] (row_all r04) _ Tryz.underlying36 rfl (by kernel_rfl) ?_) | (go_at_call 16; refine (HO1.out _ hw4).mono ?_; rintro e w5 ⟨rfl, hE5⟩) | fail)
  have hw5 : Ext w w5 := hw4.trans hE5
  have r115 := (hE5.block _ (Array.getElem?_eq_some_iff.1 r11).1).trans r11
  have r05 := (hE5.block _ (Array.getElem?_eq_some_iff.1 r04).1).trans r04
  clear hC0 r114 HO1
  have hC0 := box_cell (j := 0) r115 rfl
  have hV0 := box_cell (j := 0) r05 rfl
  have hV1 := box_cell (j := 1) r05 rfl
  have hV2 := box_cell (j := 2) r05 rfl
  go_cut [11] (fun s11 wx => s11 = .bool (decide (ansMay c vc sets soa ttl n)) ∧ w5 = wx)
  case first =>
    by_cases hk : c.kind = 3
    · have hk1 : (c.kind == 3) = true := by rw [hk]; rfl
      replace hk := Lib.hid hk
      by_cases h0 : vc = 0
      · have h01 : (vc == 0) = true := by rw [h0]; rfl
        replace h0 := Lib.hid h0
        by_cases ht : ttl ≤ 2147483647
        · have ht1 : decide (ttl ≤ 2147483647) = true := decide_eq_true ht
          by_cases h5 : 512 ≤ n
          · have h51 : decide (512 ≤ n) = true := decide_eq_true h5
            by_cases h4 : n ≤ 4096
            · have h41 : decide (n ≤ 4096) = true := decide_eq_true h4
              have hM : ansMay c vc sets soa ttl n := ⟨hk.out, ⟨h5, h4⟩, .inl h0.out, ht⟩
              go_wp2_with fail
              go_meet
              exact ⟨by rw [decide_eq_true hM], rfl⟩
            · have h41 : decide (n ≤ 4096) = false := decide_eq_false h4
              have hM : ¬ ansMay c vc sets soa ttl n := fun x => h4 x.2.1.2
              go_wp2_with fail
              go_meet
              exact ⟨by rw [decide_eq_false hM], rfl⟩
          · have h51 : decide (512 ≤ n) = false := decide_eq_false h5
            have hM : ¬ ansMay c vc sets soa ttl n := fun x => h5 x.2.1.1
            go_wp2_with fail
            go_meet
            exact ⟨by rw [decide_eq_false hM], rfl⟩
        · have ht1 : decide (ttl ≤ 2147483647) = false := decide_eq_false ht
          have hM : ¬ ansMay c vc sets soa ttl n := fun x => ht x.2.2.2
          go_wp2_with fail
          go_meet
          exact ⟨by rw [decide_eq_false hM], rfl⟩
      · have h01 : (vc == 0) = false := by rw [beq_eq_false_iff_ne]; exact h0
        by_cases h3 : vc = 3
        · have h31 : (vc == 3) = true := by rw [h3]; rfl
          replace h3 := Lib.hid h3
          by_cases ht : ttl ≤ 2147483647
          · have ht1 : decide (ttl ≤ 2147483647) = true := decide_eq_true ht
            by_cases h5 : 512 ≤ n
            · have h51 : decide (512 ≤ n) = true := decide_eq_true h5
              by_cases h4 : n ≤ 4096
              · have h41 : decide (n ≤ 4096) = true := decide_eq_true h4
                have hM : ansMay c vc sets soa ttl n := ⟨hk.out, ⟨h5, h4⟩, .inr h3.out, ht⟩
                go_wp2_with fail
                go_meet
                exact ⟨by rw [decide_eq_true hM], rfl⟩
              · have h41 : decide (n ≤ 4096) = false := decide_eq_false h4
                have hM : ¬ ansMay c vc sets soa ttl n := fun x => h4 x.2.1.2
                go_wp2_with fail
                go_meet
                exact ⟨by rw [decide_eq_false hM], rfl⟩
            · have h51 : decide (512 ≤ n) = false := decide_eq_false h5
              have hM : ¬ ansMay c vc sets soa ttl n := fun x => h5 x.2.1.1
              go_wp2_with fail
              go_meet
              exact ⟨by rw [decide_eq_false hM], rfl⟩
          · have ht1 : decide (ttl ≤ 2147483647) = false := decide_eq_false ht
            have hM : ¬ ansMay c vc sets soa ttl n := fun x => ht x.2.2.2
            go_wp2_with fail
            go_meet
            exact ⟨by rw [decide_eq_false hM], rfl⟩
        · have h31 : (vc == 3) = false := by rw [beq_eq_false_iff_ne]; exact h3
          have hM : ¬ ansMay c vc sets soa ttl n := fun x => x.2.2.1.elim h0 h3
          go_wp2_with fail
          go_meet
          exact ⟨by rw [decide_eq_false hM], rfl⟩
    · have hk1 : (c.kind == 3) = false := by rw [beq_eq_false_iff_ne]; exact hk
      have hM : ¬ ansMay c vc sets soa ttl n := fun x => hk x.1
      go_wp2_with fail
      go_meet
      exact ⟨by rw [decide_eq_false hM], rfl⟩
  case rest =>
    obtain ⟨rfl, rfl⟩ := hcut
    obtain ⟨M, hM⟩ : ∃ M, M = decide (ansMay c vc sets soa ttl n) := ⟨_, rfl⟩
    rw [← hM]
    have HM0 := Lib.hid hM
    clear hM
    obtain ⟨b12, hb12⟩ : ∃ b12, b12 = w5.heap.size := ⟨_, rfl⟩
    obtain ⟨X6, hX6⟩ : ∃ X6, X6 = w5.alloc (.cells #[.slice none 0 0, .slice none 0 0] 69) := ⟨_, rfl⟩
    have r12 : X6.heap[b12]? = some (.cells #[.slice none 0 0, .slice none 0 0] 69) := by rw [hX6, hb12]; exact heap_alloc_new _ _
    have hE6 : Ext w5 X6 := by rw [hX6]; exact (Ext.refl _).alloc _
    go_upto_region 7 with fail
    rw [← hX6, ← hb12]
    have hb125 : w5.heap.size ≤ b12 := by rw [hb12]; exact Nat.le_refl _
    clear hX6 hb12
    have v1 := (hE6.cell (p := ⟨w.heap.size, 1, none⟩) (cell_lt7 hV1)).trans hV1
    have v2 := (hE6.cell (p := ⟨w.heap.size, 2, none⟩) (cell_lt7 hV2)).trans hV2
    obtain ⟨b68, hb68⟩ : ∃ b68, b68 = X6.heap.size := ⟨_, rfl⟩
    obtain ⟨X7, hX7⟩ : ∃ X7, X7 = X6.alloc (.cells #[.slice sA sps.length sc, .slice oA ops.length oc] 34) := ⟨_, rfl⟩
    have r687 : X7.heap[b68]? = some (.cells #[.slice sA sps.length sc, .slice oA ops.length oc] 34) := by rw [hX7, hb68]; exact heap_alloc_new _ _
    have hE67 : Ext X6 X7 := by rw [hX7]; exact (Ext.refl _).alloc _
    have hb68ne : b68 ≠ b12 := by have := (Array.getElem?_eq_some_iff.1 r12).1; omega
    have r127 := (hE67.block _ (Array.getElem?_eq_some_iff.1 r12).1).trans r12
    go_wp2_with fail
    rw [← hX7, ← hb68]
    clear hX7 hb68 hV1 hV2 hC0
    go_loopw [11, 13, 14, 15, 16, 70] (fun s11 _ _ _ _ s70 wr => ∃ (k : Nat) (v0 v1 : Value), k ≤ 2 ∧ s70 = .int .i64 k ∧ s11 = .bool (mayK M sets soa k) ∧ wr.heap[b12]? = some (.cells #[v0, v1] 69) ∧ RowB wr b12 v0 (if 0 < k then rowsOf sets else []) ∧ RowB wr b12 v1 (if 1 < k then rowsOf soa else []) ∧ (k = 0 → v0 = .slice none 0 0) ∧ (k ≤ 1 → v1 = .slice none 0 0) ∧ wr.heap[b68]? = some (.cells #[.slice sA sps.length sc, .slice oA ops.length oc] 34) ∧ Ext w5 wr) (fun _ _ _ _ _ s70 _ => 2 - (intOf s70).toNat)
    case atStart => exact ⟨0, _, _, by omega, rfl, rfl, r127, by rw [if_neg (by omega)]; exact RowB.nil _ _, by rw [if_neg (by omega)]; exact RowB.nil _ _, fun _ => rfl, fun _ => rfl, r687, hE6.trans hE67⟩
    case round =>
      obtain ⟨k, v0, v1, hk, rfl, rfl, hr12o, hv0, hv1, hn0, hn1, r68, hwo5⟩ := hrel
      obtain ⟨wo, rfl⟩ : ∃ wo : World, wo = wr := ⟨_, rfl⟩
      have hb12o : b12 < wo.heap.size := (Array.getElem?_eq_some_iff.1 hr12o).1
      have hwo5s : w5.heap.size ≤ wo.heap.size := hwo5.size
      obtain ⟨i0, hi0, hz0, hz1, hz2⟩ := info_parts info_rec7
      by_cases hk0 : k = 0
      · subst hk0
        obtain rfl := hn0 rfl
        obtain rfl := hn1 (by omega)
        clear hv0 hv1 hn0 hn1
        rw [show ((0 : Nat) : Int) = 0 from rfl]
        have HmK := Lib.hid (show mayK M sets soa 1 = (mayK M sets soa 0 && (rowsOf sets).all rowOk) from rfl)
        obtain ⟨mK, hmK⟩ : ∃ mK, mK = mayK M sets soa 0 := ⟨_, rfl⟩
        rw [← hmK] at HmK ⊢
        clear hmK
        have c68 : wo.cell? ⟨b68, 0, none⟩ = some (.slice sA sps.length sc) := box_cell r68 rfl
        have HT0 := Lib.hid (show rowsOf (sets.take 0) = [] from rfl)
        have hpl : sps.length = sets.length := by rw [← Hspe.out, List.length_map]
        have HPl := Lib.hid hpl
        have hsl40 := hsm1.1
        clear hpl
        go_wp2_with fail
        go_loopw [15] (fun s15 wr => ∃ (i : Nat) (B : Option Addr) (c9 : Nat), i ≤ sps.length ∧ s15 = .int .i64 i ∧ wr.heap[b12]? = some (.cells #[.slice B (rowsOf (sets.take i)).length c9, .slice none 0 0] 69) ∧ Own wr wo.heap.size 65 5 B (rowsOf (sets.take i)).length c9 ((rowsOf (sets.take i)).flatMap recCells) ∧ Ext w5 wr ∧ wo.heap.size ≤ wr.heap.size ∧ (∀ x, x < wo.heap.size → x ≠ b12 → wr.heap[x]? = wo.heap[x]?)) (fun s15 _ => sps.length - (intOf s15).toNat)
        case atStart => exact ⟨0, none, 0, Nat.zero_le _, rfl, by rw [HT0.out]; exact hr12o, by rw [HT0.out]; exact Own.nil _ _ _ _, hwo5, Nat.le_refl _, fun _ _ _ => rfl⟩
        case round =>
          obtain ⟨i, B, c9, hi, rfl, hr12, hown, hEq5, hwq, hkq⟩ := hrel
          obtain ⟨wq, rfl⟩ : ∃ wq : World, wq = wr := ⟨_, rfl⟩
          have hww : Ext w wq := hw5.trans hEq5
          by_cases hil : i < sps.length
          · obtain ⟨bs, os, rfl, _, hbz, hbc⟩ := (hsrd.ext hww).2 (by omega)
            have hp : sps[i]? = some sps[i] := List.getElem?_eq_getElem hil
            obtain ⟨x0, x1, x2, x3, x4⟩ := sets_cells hbc i sps[i] hp
            have hli : sets[i]? = some sps[i].1 := by rw [← Hspe.out, List.getElem?_map, hp]; rfl
            have hsd := hsst sps[i] (List.getElem_mem hil)
            have hsm := hsm1.2 sps[i].1 (List.mem_of_getElem? hli)
            have HT := Lib.hid (rows_step sets i _ hli)
            have HIl := Lib.hid hil
            have hi40 : i ≤ 40 := by have := HPl.out; omega
            have halb := rows_take_len hsm1 i
            generalize sps[i] = p at *
            obtain ⟨⟨nm, ty, cl, tt, da⟩, dv⟩ := p
            dsimp only at *
            have hdal : da.length ≤ 400 := hsm.2.1
            obtain ⟨dA, dc, rfl, hd1, hd2, hdrd⟩ := hsd
            have HRec := Lib.hid (fun V (hV : Ext w V) => rrset_records7 ⟨nm, ty, cl, tt, da⟩ (.slice dA da.length dc) 0 V ⟨dA, dc, rfl, hd1, hd2, hdrd.ext hV⟩ (by show da.length ≤ _; omega))
            unfold ORec7Post at HRec
            dsimp only at HRec
            have hrn : (recs1 ⟨nm, ty, cl, tt, da⟩ tt da.length).length ≤ 400 := by unfold recs1; rw [List.length_map, List.length_take]; omega
            generalize recs1 ⟨nm, ty, cl, tt, da⟩ tt da.length = rn at *
            generalize hal : rowsOf (sets.take i) = al at *
            have HAl := Lib.hid hal
            clear hal hsm hdrd hd1 hd2 hli hp
            have hki : (i : Int) < (sps.length : Int) := by omega
            have hk0 : (0 : Int) ≤ (i : Int) := by omega
            have k12 := box_cell (j := 0) hr12 rfl
            have HS13 := Lib.hid (fun V (hV : Ext wq V) => (show V.cell? ⟨b12, 0, none⟩ = some (.slice B al.length c9) ∧ V.cell? ⟨bs, os + i * 5, none⟩ = some (S nm) ∧ V.cell? ⟨bs, os + i * 5 + 1, none⟩ = some (.int .u16 ty) ∧ V.cell? ⟨bs, os + i * 5 + 2, none⟩ = some (.int .u16 cl) ∧ V.cell? ⟨bs, os + i * 5 + 3, none⟩ = some (.int .u32 tt) ∧ V.cell? ⟨bs, os + i * 5 + 4, none⟩ = some (.slice dA da.length dc) from
              ⟨(hV.cell (cell_lt7 k12)).trans k12, (hV.cell (cell_lt7 x0)).trans x0, (hV.cell (cell_lt7 x1)).trans x1, (hV.cell (cell_lt7 x2)).trans x2, (hV.cell (cell_lt7 x3)).trans x3, (hV.cell (cell_lt7 x4)).trans x4⟩))
            clear x0 x1 x2 x3 x4 hbc hbz k12
            go_upto_region 13 with fail
            refine wp_region_noPanic ?_
            refine wp_region_tree (S := (fun _ => True)) (.take 0 (.take 1 (.take 2 (.take 4 (.take 5 (.take 6 (.run2 3 (.run 7 (.run 8 (.run 9 (.take 10 (.run 11 (.done)))))) 7 (.run2 3 (.run 8 (.run 9 (.take 10 (.run 11 (.done))))) 8 (.run 3 (.run 9 (.take 10 (.run 11 (.done))))))))))))) (by kernel_rfl) (by kernel_rfl) (fun _ _ _ _ _ h => h) (trivial) ?_
            repeat ((with_reducible refine treeIs ?_); first
              | (refine treeTakeX (a' := ?_) ⟨wq, trivial⟩ (by rfl) rfl (by kernel_rfl) rfl ?_ ?_; rotate_left; (focus (intro V Q' hV hq; (repeat (first | go_guarded | go_skip | go_step)); (first | exact hq | exact wpList_nil hq)))))
            refine treeRun2 ?_ ?_
            · refine treeRun (by rfl) (fun K hK => ?_)
              obtain ⟨f0, f1, f2, f3, f4, f5⟩ := HS13.out _ ((Ext.refl wq).drew)
              go_simp
              refine hK.out _ _ ?_ ?_
              · exact trivial
              clear hK K
              (try simp only [Act.put, List.setIfInBounds_toArray, List.set_cons_zero, List.set_cons_succ])
              refine treeRun (by rfl) (fun K hK => ?_)
              obtain ⟨f0, f1, f2, f3, f4, f5⟩ := HS13.out _ ((Ext.refl wq).drew)
              go_simp
              refine hK.out _ _ ?_ ?_
              · exact trivial
              clear hK K
              (try simp only [Act.put, List.setIfInBounds_toArray, List.set_cons_zero, List.set_cons_succ])
              refine treeRun (by rfl) (fun K hK => ?_)
              go_simp
              refine (HRec.out _ (hww.trans ((Ext.refl wq).drew))).mono ?_
              rintro e w8 ⟨v8, rfl, ⟨A8, c8, rfl, ho8⟩, hEq⟩
              have hE8 : Ext wq w8 := ((Ext.refl wq).drew).trans hEq
              have hw8 : wq.heap.size ≤ w8.heap.size := hE8.size
              have ho8' := ho8
              clear hEq
              refine hK.out _ _ ?_ ?_
              · exact trivial
              clear hK K
              (try simp only [Act.put, List.setIfInBounds_toArray, List.set_cons_zero, List.set_cons_succ])
              refine treeRun (by rfl) (fun K hK => ?_)
              have hrd8 := ho8.rd
              have hcap8 := ho8.cap
              refine step_app w8 rfl (.tmp 84) (.tmp 89) _ rfl wo.heap.size 65 i0 _ 5 40 Tryz.underlying47 hi0 hz0 hz1 hz2 rfl (by omega) B al.length c9 (al.flatMap recCells) rfl (hown.ext (hE8)) _ A8 rn.length c8 (rn.flatMap recCells) rfl hrd8 (recs_one7 rn) (by omega) (by omega) (by omega) ?_
              intro A9 d9 w9 hown9 hg9 hb9 hat9
              have hk9 : ∀ x, x < wo.heap.size → w9.heap[x]? = wq.heap[x]? := fun x hx => by
                first | exact (hb9.block x hx).trans (hE8.block x (by omega)) | exact (hb9 x hx).trans (hE8.block x (by omega))
              have hE9 : Ext w5 w9 := (hEq5.trans hE8).then hb9 hwo5s
              have hz9 : w8.heap.size ≤ w9.heap.size := by first | exact hb9.size | exact hg9.size | exact hb9.1 | exact hg9.1
              refine hK.out _ _ ?_ ?_
              · exact trivial
              clear hK K
              (try simp only [Act.put, List.setIfInBounds_toArray, List.set_cons_zero, List.set_cons_succ])
              repeat ((with_reducible refine treeIs ?_); first
                | (refine treeTakeX (a' := ?_) ⟨wq, trivial⟩ (by rfl) rfl (by kernel_rfl) rfl ?_ ?_; rotate_left; (focus (intro V Q' hV hq; (repeat (first | go_guarded | go_skip | go_step)); (first | exact hq | exact wpList_nil hq)))))
              refine treeRun (by rfl) (fun K hK => ?_)
              have r129 := (hk9 b12 hb12o).trans hr12
              have k9 := box_cell (j := 0) r129 rfl
              have g9 := box_free (j := 0) r129
              go_simp
              refine hK.out _ _ ?_ ?_
              · exact trivial
              clear hK K
              (try simp only [Act.put, List.setIfInBounds_toArray, List.set_cons_zero, List.set_cons_succ])
              refine treeDone ?_
              refine NoPanic.normal ?_
              go_upto_region 12 with fail
              obtain ⟨W9, hW9⟩ : ∃ W9, W9 = w9.setCell ⟨b12, 0, none⟩ (.slice A9 (al.length + rn.length) d9) := ⟨_, rfl⟩
              rw [← hW9]
              have r12w : W9.heap[b12]? = some (.cells #[.slice A9 (al.length + rn.length) d9, .slice none 0 0] 69) := by rw [hW9]; exact row_set r129 0 _
              have hEW : Ext w5 W9 := by rw [hW9]; exact hE9.setCell hb125 _
              have hownW : Own W9 wo.heap.size 65 5 A9 (al.length + rn.length) d9 (al.flatMap recCells ++ rn.flatMap recCells) := by rw [hW9]; exact hown9.set_other hb12o _
              have hzW : wo.heap.size ≤ W9.heap.size := by
                have h1 : W9.heap.size = w9.heap.size := by rw [hW9]; simp [World.setCell]
                omega
              have hkW : ∀ x, x < wo.heap.size → x ≠ b12 → W9.heap[x]? = wo.heap[x]? := fun x hx hne => by
                rw [hW9]; exact ((Below.heap_setCell _ ⟨b12, 0, none⟩ _ x hne).trans (hk9 x hx)).trans (hkq x hx hne)
              clear hW9 hk9 k9 g9 r129 hg9 hb9 hat9 hown9
              go_wp2_with fail
              go_roundw
              case rel =>
                have hl1 : rowsOf (sets.take (i + 1)) = al ++ rn := by rw [HT.out, ← HAl.out]
                refine ⟨i + 1, A9, d9, by have := HIl.out; omega, by go_num, ?_, ?_, hEW, hzW, hkW⟩
                · rw [hl1, List.length_append]; exact r12w
                · rw [hl1, List.length_append, List.flatMap_append]; exact hownW
              case measure => (have := HIl.out); simp [intOf]; omega
            · refine treeRun (by rfl) (fun K hK => ?_)
              obtain ⟨f0, f1, f2, f3, f4, f5⟩ := HS13.out _ ((Ext.refl wq).drew)
              go_simp
              refine hK.out _ _ ?_ ?_
              · exact trivial
              clear hK K
              (try simp only [Act.put, List.setIfInBounds_toArray, List.set_cons_zero, List.set_cons_succ])
              refine treeRun2 ?_ ?_
              · refine treeRun (by rfl) (fun K hK => ?_)
                obtain ⟨f0, f1, f2, f3, f4, f5⟩ := HS13.out _ ((Ext.refl wq).drew)
                go_simp
                refine hK.out _ _ ?_ ?_
                · exact trivial
                clear hK K
                (try simp only [Act.put, List.setIfInBounds_toArray, List.set_cons_zero, List.set_cons_succ])
                refine treeRun (by rfl) (fun K hK => ?_)
                go_simp
                refine (HRec.out _ (hww.trans ((Ext.refl wq).drew))).mono ?_
                rintro e w8 ⟨v8, rfl, ⟨A8, c8, rfl, ho8⟩, hEq⟩
                have hE8 : Ext wq w8 := ((Ext.refl wq).drew).trans hEq
                have hw8 : wq.heap.size ≤ w8.heap.size := hE8.size
                have ho8' := ho8
                clear hEq
                refine hK.out _ _ ?_ ?_
                · exact trivial
                clear hK K
                (try simp only [Act.put, List.setIfInBounds_toArray, List.set_cons_zero, List.set_cons_succ])
                refine treeRun (by rfl) (fun K hK => ?_)
                have hrd8 := ho8.rd
                have hcap8 := ho8.cap
                refine step_app w8 rfl (.tmp 84) (.tmp 89) _ rfl wo.heap.size 65 i0 _ 5 40 Tryz.underlying47 hi0 hz0 hz1 hz2 rfl (by omega) B al.length c9 (al.flatMap recCells) rfl (hown.ext (hE8)) _ A8 rn.length c8 (rn.flatMap recCells) rfl hrd8 (recs_one7 rn) (by omega) (by omega) (by omega) ?_
                intro A9 d9 w9 hown9 hg9 hb9 hat9
                have hk9 : ∀ x, x < wo.heap.size → w9.heap[x]? = wq.heap[x]? := fun x hx => by
                  first | exact (hb9.block x hx).trans (hE8.block x (by omega)) | exact (hb9 x hx).trans (hE8.block x (by omega))
                have hE9 : Ext w5 w9 := (hEq5.trans hE8).then hb9 hwo5s
                have hz9 : w8.heap.size ≤ w9.heap.size := by first | exact hb9.size | exact hg9.size | exact hb9.1 | exact hg9.1
                refine hK.out _ _ ?_ ?_
                · exact trivial
                clear hK K
                (try simp only [Act.put, List.setIfInBounds_toArray, List.set_cons_zero, List.set_cons_succ])
                repeat ((with_reducible refine treeIs ?_); first
                  | (refine treeTakeX (a' := ?_) ⟨wq, trivial⟩ (by rfl) rfl (by kernel_rfl) rfl ?_ ?_; rotate_left; (focus (intro V Q' hV hq; (repeat (first | go_guarded | go_skip | go_step)); (first | exact hq | exact wpList_nil hq)))))
                refine treeRun (by rfl) (fun K hK => ?_)
                have r129 := (hk9 b12 hb12o).trans hr12
                have k9 := box_cell (j := 0) r129 rfl
                have g9 := box_free (j := 0) r129
                go_simp
                refine hK.out _ _ ?_ ?_
                · exact trivial
                clear hK K
                (try simp only [Act.put, List.setIfInBounds_toArray, List.set_cons_zero, List.set_cons_succ])
                refine treeDone ?_
                refine NoPanic.normal ?_
                go_upto_region 12 with fail
                obtain ⟨W9, hW9⟩ : ∃ W9, W9 = w9.setCell ⟨b12, 0, none⟩ (.slice A9 (al.length + rn.length) d9) := ⟨_, rfl⟩
                rw [← hW9]
                have r12w : W9.heap[b12]? = some (.cells #[.slice A9 (al.length + rn.length) d9, .slice none 0 0] 69) := by rw [hW9]; exact row_set r129 0 _
                have hEW : Ext w5 W9 := by rw [hW9]; exact hE9.setCell hb125 _
                have hownW : Own W9 wo.heap.size 65 5 A9 (al.length + rn.length) d9 (al.flatMap recCells ++ rn.flatMap recCells) := by rw [hW9]; exact hown9.set_other hb12o _
                have hzW : wo.heap.size ≤ W9.heap.size := by
                  have h1 : W9.heap.size = w9.heap.size := by rw [hW9]; simp [World.setCell]
                  omega
                have hkW : ∀ x, x < wo.heap.size → x ≠ b12 → W9.heap[x]? = wo.heap[x]? := fun x hx hne => by
                  rw [hW9]; exact ((Below.heap_setCell _ ⟨b12, 0, none⟩ _ x hne).trans (hk9 x hx)).trans (hkq x hx hne)
                clear hW9 hk9 k9 g9 r129 hg9 hb9 hat9 hown9
                go_wp2_with fail
                go_roundw
                case rel =>
                  have hl1 : rowsOf (sets.take (i + 1)) = al ++ rn := by rw [HT.out, ← HAl.out]
                  refine ⟨i + 1, A9, d9, by have := HIl.out; omega, by go_num, ?_, ?_, hEW, hzW, hkW⟩
                  · rw [hl1, List.length_append]; exact r12w
                  · rw [hl1, List.length_append, List.flatMap_append]; exact hownW
                case measure => (have := HIl.out); simp [intOf]; omega
              · refine treeRun (by rfl) (fun K hK => ?_)
                go_simp
                refine (HRec.out _ (hww.trans ((Ext.refl wq).drew))).mono ?_
                rintro e w8 ⟨v8, rfl, ⟨A8, c8, rfl, ho8⟩, hEq⟩
                have hE8 : Ext wq w8 := ((Ext.refl wq).drew).trans hEq
                have hw8 : wq.heap.size ≤ w8.heap.size := hE8.size
                have ho8' := ho8
                clear hEq
                refine hK.out _ _ ?_ ?_
                · exact trivial
                clear hK K
                (try simp only [Act.put, List.setIfInBounds_toArray, List.set_cons_zero, List.set_cons_succ])
                refine treeRun (by rfl) (fun K hK => ?_)
                obtain ⟨f0, f1, f2, f3, f4, f5⟩ := HS13.out _ (hE8)
                go_simp
                refine hK.out _ _ ?_ ?_
                · exact trivial
                clear hK K
                (try simp only [Act.put, List.setIfInBounds_toArray, List.set_cons_zero, List.set_cons_succ])
                refine treeRun (by rfl) (fun K hK => ?_)
                have hrd8 := ho8.rd
                have hcap8 := ho8.cap
                refine step_app w8 rfl (.tmp 84) (.tmp 89) _ rfl wo.heap.size 65 i0 _ 5 40 Tryz.underlying47 hi0 hz0 hz1 hz2 rfl (by omega) B al.length c9 (al.flatMap recCells) rfl (hown.ext (hE8)) _ A8 rn.length c8 (rn.flatMap recCells) rfl hrd8 (recs_one7 rn) (by omega) (by omega) (by omega) ?_
                intro A9 d9 w9 hown9 hg9 hb9 hat9
                have hk9 : ∀ x, x < wo.heap.size → w9.heap[x]? = wq.heap[x]? := fun x hx => by
                  first | exact (hb9.block x hx).trans (hE8.block x (by omega)) | exact (hb9 x hx).trans (hE8.block x (by omega))
                have hE9 : Ext w5 w9 := (hEq5.trans hE8).then hb9 hwo5s
                have hz9 : w8.heap.size ≤ w9.heap.size := by first | exact hb9.size | exact hg9.size | exact hb9.1 | exact hg9.1
                refine hK.out _ _ ?_ ?_
                · exact trivial
                clear hK K
                (try simp only [Act.put, List.setIfInBounds_toArray, List.set_cons_zero, List.set_cons_succ])
                repeat ((with_reducible refine treeIs ?_); first
                  | (refine treeTakeX (a' := ?_) ⟨wq, trivial⟩ (by rfl) rfl (by kernel_rfl) rfl ?_ ?_; rotate_left; (focus (intro V Q' hV hq; (repeat (first | go_guarded | go_skip | go_step)); (first | exact hq | exact wpList_nil hq)))))
                refine treeRun (by rfl) (fun K hK => ?_)
                have r129 := (hk9 b12 hb12o).trans hr12
                have k9 := box_cell (j := 0) r129 rfl
                have g9 := box_free (j := 0) r129
                go_simp
                refine hK.out _ _ ?_ ?_
                · exact trivial
                clear hK K
                (try simp only [Act.put, List.setIfInBounds_toArray, List.set_cons_zero, List.set_cons_succ])
                refine treeDone ?_
                refine NoPanic.normal ?_
                go_upto_region 12 with fail
                obtain ⟨W9, hW9⟩ : ∃ W9, W9 = w9.setCell ⟨b12, 0, none⟩ (.slice A9 (al.length + rn.length) d9) := ⟨_, rfl⟩
                rw [← hW9]
                have r12w : W9.heap[b12]? = some (.cells #[.slice A9 (al.length + rn.length) d9, .slice none 0 0] 69) := by rw [hW9]; exact row_set r129 0 _
                have hEW : Ext w5 W9 := by rw [hW9]; exact hE9.setCell hb125 _
                have hownW : Own W9 wo.heap.size 65 5 A9 (al.length + rn.length) d9 (al.flatMap recCells ++ rn.flatMap recCells) := by rw [hW9]; exact hown9.set_other hb12o _
                have hzW : wo.heap.size ≤ W9.heap.size := by
                  have h1 : W9.heap.size = w9.heap.size := by rw [hW9]; simp [World.setCell]
                  omega
                have hkW : ∀ x, x < wo.heap.size → x ≠ b12 → W9.heap[x]? = wo.heap[x]? := fun x hx hne => by
                  rw [hW9]; exact ((Below.heap_setCell _ ⟨b12, 0, none⟩ _ x hne).trans (hk9 x hx)).trans (hkq x hx hne)
                clear hW9 hk9 k9 g9 r129 hg9 hb9 hat9 hown9
                go_wp2_with fail
                go_roundw
                case rel =>
                  have hl1 : rowsOf (sets.take (i + 1)) = al ++ rn := by rw [HT.out, ← HAl.out]
                  refine ⟨i + 1, A9, d9, by have := HIl.out; omega, by go_num, ?_, ?_, hEW, hzW, hkW⟩
                  · rw [hl1, List.length_append]; exact r12w
                  · rw [hl1, List.length_append, List.flatMap_append]; exact hownW
                case measure => (have := HIl.out); simp [intOf]; omega
          · obtain rfl : i = sps.length := by omega
            obtain ⟨wi, rfl⟩ : ∃ wi : World, wi = wq := ⟨_, rfl⟩
            have HTe := Lib.hid (show rowsOf (sets.take sps.length) = rowsOf sets from by rw [HPl.out, List.take_length])
            rw [HTe.out] at hown hr12
            have howni := hown
            have hr12i := hr12
            have hwi : Ext w wi := hww
            have hwi5 : Ext w5 wi := hEq5
            have r68i := (hkq b68 (Array.getElem?_eq_some_iff.1 r68).1 hb68ne).trans r68
            skip
            clear hown hr12 hkq
            have k12i := box_cell (j := 0) hr12i rfl
            go_wp2_with fail
            have hlr : (rowsOf sets).length ≤ 16000 := rows_len hsm1
            have HRw := Lib.hid (fun r hr => rows_sm hsm1 r hr)
            generalize hal : rowsOf sets = al at *
            have HAl := Lib.hid hal
            clear hal
            go_loopw [11, 16] (fun s11 s16 wr => ∃ j : Nat, j ≤ al.length ∧ s16 = .int .i64 j ∧ s11 = .bool (mK && (al.take j).all rowOk) ∧ Ext wi wr) (fun _ s16 _ => al.length - (intOf s16).toNat)
            case atStart => exact ⟨0, Nat.zero_le _, rfl, by simp, Ext.refl _⟩
            case round =>
              obtain ⟨j, hj, rfl, rfl, hEi⟩ := hrel
              obtain ⟨wq, rfl⟩ : ∃ wq : World, wq = wr := ⟨_, rfl⟩
              have hr12 := (hEi.block _ (Array.getElem?_eq_some_iff.1 hr12i).1).trans hr12i
              have hown := howni.ext hEi
              have k12 := box_cell (j := 0) hr12 rfl
              have hww : Ext w wq := hwi.trans hEi
              by_cases hjl : j < al.length
              · obtain ⟨g8, o8, rfl, _, hgz, hgc⟩ := hown.rd.2 (by omega)
                obtain ⟨p0, p1, p2, p3, p4⟩ := recs_cells hgc j al[j] (List.getElem?_eq_getElem hjl)
                have HAt := Lib.hid (all_take al rowOk j hjl)
                have HJl := Lib.hid hjl
                have hrs := HRw.out al[j] (List.getElem_mem hjl)
                have HS17 := Lib.hid (fun V (hV : Ext wq V) => (show V.cell? ⟨b12, 0, none⟩ = some (.slice (some ⟨g8, o8, none⟩) al.length c9) ∧ V.cell? ⟨g8, o8 + j * 5, none⟩ = some (S al[j].name) ∧ V.cell? ⟨g8, o8 + j * 5 + 1, none⟩ = some (.int .u16 al[j].typ) ∧ V.cell? ⟨g8, o8 + j * 5 + 4, none⟩ = some (S al[j].data) from
                  ⟨(hV.cell (cell_lt7 k12)).trans k12, (hV.cell (cell_lt7 p0)).trans p0, (hV.cell (cell_lt7 p1)).trans p1, (hV.cell (cell_lt7 p4)).trans p4⟩))
                have HMy := Lib.hid (fun V => name_may al[j].name V (by unfold maxLen; omega))
                have HRm := Lib.hid (fun V (hV : Ext w V) => rdata_may al[j].typ al[j].data V (hg.ext hV) (by omega))
                have hOk : rowOk al[j] = (may al[j].name && rmay al[j].typ al[j].data) := rfl
                generalize al[j] = r at *
                obtain ⟨nm, ty, cl, tt, da⟩ := r
                dsimp only at *
                have hki : (j : Int) < (al.length : Int) := by omega
                have hk0 : (0 : Int) ≤ (j : Int) := by omega
                clear p0 p1 p2 p3 p4 hgc hrs
                go_upto_region 17 with fail
                rcases hmn : may nm with _ | _
                · rw [hmn] at hOk HMy
                  have HOk := Lib.hid (show rowOk ⟨nm, ty, cl, tt, da⟩ = false from hOk)
                  clear hOk
                  refine wp_region_noPanic ?_
                  refine wp_region_tree (S := (fun V => V.cell? ⟨b12, 0, none⟩ = some (.slice (some ⟨g8, o8, none⟩) al.length c9) ∧ V.cell? ⟨g8, o8 + j * 5, none⟩ = some (S nm) ∧ V.cell? ⟨g8, o8 + j * 5 + 1, none⟩ = some (.int .u16 ty) ∧ V.cell? ⟨g8, o8 + j * 5 + 4, none⟩ = some (S da))) (.take 0 (.take 1 (.take 2 (.take 3 (.take 4 (.take 5 (.take 6 (.run 7 (.take 8 (.take 9 (.take 10 (.take 11 (.take 12 (.take 13 (.take 14 (.take 15 (.take 16 (.take 17 (.take 18 (.take 19 (.take 20 (.take 21 (.take 22 (.take 23 (.take 24 (.take 25 (.take 26 (.done)))))))))))))))))))))))))))) (by kernel_rfl) (by kernel_rfl) (fun _ _ _ _ _ h => h) ((HS17.out _ (Ext.refl wq).drew)) ?_
                  repeat ((with_reducible refine treeIs ?_); first
                    | (refine treeTakeX (a' := ?_) ⟨_, (HS17.out _ (Ext.refl wq).drew)⟩ (by rfl) rfl (by kernel_rfl) rfl ?_ ?_; rotate_left; (focus (intro V Q' hV hq; obtain ⟨hV1, hV2, hV3, hV4⟩ := hV; (repeat (first | go_guarded | go_skip | go_step)); (first | exact hq | exact wpList_nil hq))))
                    | (refine treeSkip (by rfl) (by rfl) ?_; (try simp only [Act.put, List.setIfInBounds_toArray, List.set_cons_zero, List.set_cons_succ])))
                  refine treeRun (by rfl) (fun K hK => ?_)
                  go_simp
                  refine (HMy.out _).mono ?_
                  rintro e wm ⟨rfl, rfl⟩
                  refine hK.out _ _ ?_ ?_
                  · exact (HS17.out _ ((Ext.refl wq).drew))
                  clear hK K
                  (try simp only [Act.put, List.setIfInBounds_toArray, List.set_cons_zero, List.set_cons_succ])
                  repeat ((with_reducible refine treeIs ?_); first
                    | (refine treeTakeX (a' := ?_) ⟨_, (HS17.out _ (Ext.refl wq).drew)⟩ (by rfl) rfl (by kernel_rfl) rfl ?_ ?_; rotate_left; (focus (intro V Q' hV hq; obtain ⟨hV1, hV2, hV3, hV4⟩ := hV; (repeat (first | go_guarded | go_skip | go_step)); (first | exact hq | exact wpList_nil hq))))
                    | (refine treeSkip (by rfl) (by rfl) ?_; (try simp only [Act.put, List.setIfInBounds_toArray, List.set_cons_zero, List.set_cons_succ])))
                  refine treeDone ?_
                  refine NoPanic.normal ?_
                  go_wp2_with fail
                  go_roundw
                  case rel =>
                    refine ⟨j + 1, by have := HJl.out; omega, by go_num, ?_, hEi.trans ((Ext.refl wq).drew)⟩
                    rw [HAt.out, HOk.out]
                    first | rfl | simp
                  case measure => (have := HJl.out); simp [intOf]; omega
                · rw [hmn] at hOk HMy
                  have HOk := Lib.hid (show rowOk ⟨nm, ty, cl, tt, da⟩ = rmay ty da from hOk)
                  clear hOk
                  refine wp_region_noPanic ?_
                  refine wp_region_tree (S := (fun V => V.cell? ⟨b12, 0, none⟩ = some (.slice (some ⟨g8, o8, none⟩) al.length c9) ∧ V.cell? ⟨g8, o8 + j * 5, none⟩ = some (S nm) ∧ V.cell? ⟨g8, o8 + j * 5 + 1, none⟩ = some (.int .u16 ty) ∧ V.cell? ⟨g8, o8 + j * 5 + 4, none⟩ = some (S da))) (.take 0 (.take 1 (.take 2 (.take 3 (.take 4 (.take 5 (.take 6 (.run 7 (.take 8 (.take 9 (.take 10 (.take 11 (.take 12 (.take 13 (.take 14 (.take 15 (.take 16 (.take 17 (.take 18 (.take 19 (.take 20 (.take 21 (.take 22 (.take 23 (.run 24 (.take 25 (.take 26 (.done)))))))))))))))))))))))))))) (by kernel_rfl) (by kernel_rfl) (fun _ _ _ _ _ h => h) ((HS17.out _ (Ext.refl wq).drew)) ?_
                  repeat ((with_reducible refine treeIs ?_); first
                    | (refine treeTakeX (a' := ?_) ⟨_, (HS17.out _ (Ext.refl wq).drew)⟩ (by rfl) rfl (by kernel_rfl) rfl ?_ ?_; rotate_left; (focus (intro V Q' hV hq; obtain ⟨hV1, hV2, hV3, hV4⟩ := hV; (repeat (first | go_guarded | go_skip | go_step)); (first | exact hq | exact wpList_nil hq)))))
                  refine treeRun (by rfl) (fun K hK => ?_)
                  go_simp
                  refine (HMy.out _).mono ?_
                  rintro e wm ⟨rfl, rfl⟩
                  refine hK.out _ _ ?_ ?_
                  · exact (HS17.out _ ((Ext.refl wq).drew))
                  clear hK K
                  (try simp only [Act.put, List.setIfInBounds_toArray, List.set_cons_zero, List.set_cons_succ])
                  repeat ((with_reducible refine treeIs ?_); first
                    | (refine treeTakeX (a' := ?_) ⟨_, (HS17.out _ (Ext.refl wq).drew)⟩ (by rfl) rfl (by kernel_rfl) rfl ?_ ?_; rotate_left; (focus (intro V Q' hV hq; obtain ⟨hV1, hV2, hV3, hV4⟩ := hV; (repeat (first | go_guarded | go_skip | go_step)); (first | exact hq | exact wpList_nil hq)))))
                  refine treeRun (by rfl) (fun K hK => ?_)
                  go_simp
                  refine (HRm.out _ (hww.trans ((Ext.refl wq).drew))).mono ?_
                  rintro e wn ⟨rfl, hEq⟩
                  have hE17 : Ext wq wn := ((Ext.refl wq).drew).trans hEq
                  clear hEq
                  refine hK.out _ _ ?_ ?_
                  · exact (HS17.out _ hE17)
                  clear hK K
                  (try simp only [Act.put, List.setIfInBounds_toArray, List.set_cons_zero, List.set_cons_succ])
                  repeat ((with_reducible refine treeIs ?_); first
                    | (refine treeTakeX (a' := ?_) ⟨_, (HS17.out _ (Ext.refl wq).drew)⟩ (by rfl) rfl (by kernel_rfl) rfl ?_ ?_; rotate_left; (focus (intro V Q' hV hq; obtain ⟨hV1, hV2, hV3, hV4⟩ := hV; (repeat (first | go_guarded | go_skip | go_step)); (first | exact hq | exact wpList_nil hq)))))
                  refine treeDone ?_
                  refine NoPanic.normal ?_
                  rcases hrm : rmay ty da with _ | _
                  · have HOk2 := Lib.hid (HOk.out.trans hrm)
                    clear hrm
                    go_wp2_with fail
                    go_roundw
                    case rel =>
                      refine ⟨j + 1, by have := HJl.out; omega, by go_num, ?_, hEi.trans (hE17)⟩
                      rw [HAt.out, HOk2.out]
                      first | rfl | simp
                    case measure => (have := HJl.out); simp [intOf]; omega
                  · have HOk2 := Lib.hid (HOk.out.trans hrm)
                    clear hrm
                    go_wp2_with fail
                    go_roundw
                    case rel =>
                      refine ⟨j + 1, by have := HJl.out; omega, by go_num, ?_, hEi.trans (hE17)⟩
                      rw [HAt.out, HOk2.out]
                      first | rfl | simp
                    case measure => (have := HJl.out); simp [intOf]; omega
              · obtain rfl : j = al.length := by omega
                rw [List.take_length]
                go_wp2_with fail
                go_roundw
                case rel =>
                  exact ⟨1, .slice _ al.length c9, .slice none 0 0, by omega, rfl, by rw [HmK.out], hr12, by rw [if_pos (by omega), HAl.out]; exact ⟨wo.heap.size, hb12o, _, _, rfl, hown⟩, by rw [if_neg (by omega)]; exact RowB.nil _ _, fun h => absurd h (by omega), fun _ => rfl, (hEi.block _ (Array.getElem?_eq_some_iff.1 r68i).1).trans r68i, hwi5.trans hEi⟩
                case measure => simp [intOf]
      by_cases hk1 : k = 1
      · subst hk1
        obtain rfl := hn1 (by omega)
        rw [if_pos (by omega)] at hv0
        clear hv1 hn0 hn1
        rw [show ((1 : Nat) : Int) = 1 from rfl]
        have HmK := Lib.hid (show mayK M sets soa 2 = (mayK M sets soa 1 && (rowsOf soa).all rowOk) from rfl)
        obtain ⟨mK, hmK⟩ : ∃ mK, mK = mayK M sets soa 1 := ⟨_, rfl⟩
        rw [← hmK] at HmK ⊢
        clear hmK
        have c68 : wo.cell? ⟨b68, 1, none⟩ = some (.slice oA ops.length oc) := box_cell r68 rfl
        have HT0 := Lib.hid (show rowsOf (soa.take 0) = [] from rfl)
        have hpl : ops.length = soa.length := by rw [← Hope.out, List.length_map]
        have HPl := Lib.hid hpl
        have hsl40 := hsm2.1
        clear hpl
        go_wp2_with fail
        go_loopw [15] (fun s15 wr => ∃ (i : Nat) (B : Option Addr) (c9 : Nat), i ≤ ops.length ∧ s15 = .int .i64 i ∧ wr.heap[b12]? = some (.cells #[v0, .slice B (rowsOf (soa.take i)).length c9] 69) ∧ Own wr wo.heap.size 65 5 B (rowsOf (soa.take i)).length c9 ((rowsOf (soa.take i)).flatMap recCells) ∧ Ext w5 wr ∧ wo.heap.size ≤ wr.heap.size ∧ (∀ x, x < wo.heap.size → x ≠ b12 → wr.heap[x]? = wo.heap[x]?)) (fun s15 _ => ops.length - (intOf s15).toNat)
        case atStart => exact ⟨0, none, 0, Nat.zero_le _, rfl, by rw [HT0.out]; exact hr12o, by rw [HT0.out]; exact Own.nil _ _ _ _, hwo5, Nat.le_refl _, fun _ _ _ => rfl⟩
        case round =>
          obtain ⟨i, B, c9, hi, rfl, hr12, hown, hEq5, hwq, hkq⟩ := hrel
          obtain ⟨wq, rfl⟩ : ∃ wq : World, wq = wr := ⟨_, rfl⟩
          have hww : Ext w wq := hw5.trans hEq5
          by_cases hil : i < ops.length
          · obtain ⟨bs, os, rfl, _, hbz, hbc⟩ := (hord.ext hww).2 (by omega)
            have hp : ops[i]? = some ops[i] := List.getElem?_eq_getElem hil
            obtain ⟨x0, x1, x2, x3, x4⟩ := sets_cells hbc i ops[i] hp
            have hli : soa[i]? = some ops[i].1 := by rw [← Hope.out, List.getElem?_map, hp]; rfl
            have hsd := host ops[i] (List.getElem_mem hil)
            have hsm := hsm2.2 ops[i].1 (List.mem_of_getElem? hli)
            have HT := Lib.hid (rows_step soa i _ hli)
            have HIl := Lib.hid hil
            have hi40 : i ≤ 40 := by have := HPl.out; omega
            have halb := rows_take_len hsm2 i
            generalize ops[i] = p at *
            obtain ⟨⟨nm, ty, cl, tt, da⟩, dv⟩ := p
            dsimp only at *
            have hdal : da.length ≤ 400 := hsm.2.1
            obtain ⟨dA, dc, rfl, hd1, hd2, hdrd⟩ := hsd
            have HRec := Lib.hid (fun V (hV : Ext w V) => rrset_records7 ⟨nm, ty, cl, tt, da⟩ (.slice dA da.length dc) 0 V ⟨dA, dc, rfl, hd1, hd2, hdrd.ext hV⟩ (by show da.length ≤ _; omega))
            unfold ORec7Post at HRec
            dsimp only at HRec
            have hrn : (recs1 ⟨nm, ty, cl, tt, da⟩ tt da.length).length ≤ 400 := by unfold recs1; rw [List.length_map, List.length_take]; omega
            generalize recs1 ⟨nm, ty, cl, tt, da⟩ tt da.length = rn at *
            generalize hal : rowsOf (soa.take i) = al at *
            have HAl := Lib.hid hal
            clear hal hsm hdrd hd1 hd2 hli hp
            have hki : (i : Int) < (ops.length : Int) := by omega
            have hk0 : (0 : Int) ≤ (i : Int) := by omega
            have k12 := box_cell (j := 1) hr12 rfl
            have HS13 := Lib.hid (fun V (hV : Ext wq V) => (show V.cell? ⟨b12, 1, none⟩ = some (.slice B al.length c9) ∧ V.cell? ⟨bs, os + i * 5, none⟩ = some (S nm) ∧ V.cell? ⟨bs, os + i * 5 + 1, none⟩ = some (.int .u16 ty) ∧ V.cell? ⟨bs, os + i * 5 + 2, none⟩ = some (.int .u16 cl) ∧ V.cell? ⟨bs, os + i * 5 + 3, none⟩ = some (.int .u32 tt) ∧ V.cell? ⟨bs, os + i * 5 + 4, none⟩ = some (.slice dA da.length dc) from
              ⟨(hV.cell (cell_lt7 k12)).trans k12, (hV.cell (cell_lt7 x0)).trans x0, (hV.cell (cell_lt7 x1)).trans x1, (hV.cell (cell_lt7 x2)).trans x2, (hV.cell (cell_lt7 x3)).trans x3, (hV.cell (cell_lt7 x4)).trans x4⟩))
            clear x0 x1 x2 x3 x4 hbc hbz k12
            go_upto_region 13 with fail
            refine wp_region_noPanic ?_
            refine wp_region_tree (S := (fun _ => True)) (.take 0 (.take 1 (.take 2 (.take 4 (.take 5 (.take 6 (.run2 3 (.run 7 (.run 8 (.run 9 (.take 10 (.run 11 (.done)))))) 7 (.run2 3 (.run 8 (.run 9 (.take 10 (.run 11 (.done))))) 8 (.run 3 (.run 9 (.take 10 (.run 11 (.done))))))))))))) (by kernel_rfl) (by kernel_rfl) (fun _ _ _ _ _ h => h) (trivial) ?_
            repeat ((with_reducible refine treeIs ?_); first
              | (refine treeTakeX (a' := ?_) ⟨wq, trivial⟩ (by rfl) rfl (by kernel_rfl) rfl ?_ ?_; rotate_left; (focus (intro V Q' hV hq; (repeat (first | go_guarded | go_skip | go_step)); (first | exact hq | exact wpList_nil hq)))))
            refine treeRun2 ?_ ?_
            · refine treeRun (by rfl) (fun K hK => ?_)
              obtain ⟨f0, f1, f2, f3, f4, f5⟩ := HS13.out _ ((Ext.refl wq).drew)
              go_simp
              refine hK.out _ _ ?_ ?_
              · exact trivial
              clear hK K
              (try simp only [Act.put, List.setIfInBounds_toArray, List.set_cons_zero, List.set_cons_succ])
              refine treeRun (by rfl) (fun K hK => ?_)
              obtain ⟨f0, f1, f2, f3, f4, f5⟩ := HS13.out _ ((Ext.refl wq).drew)
              go_simp
              refine hK.out _ _ ?_ ?_
              · exact trivial
              clear hK K
              (try simp only [Act.put, List.setIfInBounds_toArray, List.set_cons_zero, List.set_cons_succ])
              refine treeRun (by rfl) (fun K hK => ?_)
              go_simp
              refine (HRec.out _ (hww.trans ((Ext.refl wq).drew))).mono ?_
              rintro e w8 ⟨v8, rfl, ⟨A8, c8, rfl, ho8⟩, hEq⟩
              have hE8 : Ext wq w8 := ((Ext.refl wq).drew).trans hEq
              have hw8 : wq.heap.size ≤ w8.heap.size := hE8.size
              have ho8' := ho8
              clear hEq
              refine hK.out _ _ ?_ ?_
              · exact trivial
              clear hK K
              (try simp only [Act.put, List.setIfInBounds_toArray, List.set_cons_zero, List.set_cons_succ])
              refine treeRun (by rfl) (fun K hK => ?_)
              have hrd8 := ho8.rd
              have hcap8 := ho8.cap
              refine step_app w8 rfl (.tmp 84) (.tmp 89) _ rfl wo.heap.size 65 i0 _ 5 40 Tryz.underlying47 hi0 hz0 hz1 hz2 rfl (by omega) B al.length c9 (al.flatMap recCells) rfl (hown.ext (hE8)) _ A8 rn.length c8 (rn.flatMap recCells) rfl hrd8 (recs_one7 rn) (by omega) (by omega) (by omega) ?_
              intro A9 d9 w9 hown9 hg9 hb9 hat9
              have hk9 : ∀ x, x < wo.heap.size → w9.heap[x]? = wq.heap[x]? := fun x hx => by
                first | exact (hb9.block x hx).trans (hE8.block x (by omega)) | exact (hb9 x hx).trans (hE8.block x (by omega))
              have hE9 : Ext w5 w9 := (hEq5.trans hE8).then hb9 hwo5s
              have hz9 : w8.heap.size ≤ w9.heap.size := by first | exact hb9.size | exact hg9.size | exact hb9.1 | exact hg9.1
              refine hK.out _ _ ?_ ?_
              · exact trivial
              clear hK K
              (try simp only [Act.put, List.setIfInBounds_toArray, List.set_cons_zero, List.set_cons_succ])
              repeat ((with_reducible refine treeIs ?_); first
                | (refine treeTakeX (a' := ?_) ⟨wq, trivial⟩ (by rfl) rfl (by kernel_rfl) rfl ?_ ?_; rotate_left; (focus (intro V Q' hV hq; (repeat (first | go_guarded | go_skip | go_step)); (first | exact hq | exact wpList_nil hq)))))
              refine treeRun (by rfl) (fun K hK => ?_)
              have r129 := (hk9 b12 hb12o).trans hr12
              have k9 := box_cell (j := 1) r129 rfl
              have g9 := box_free (j := 1) r129
              go_simp
              refine hK.out _ _ ?_ ?_
              · exact trivial
              clear hK K
              (try simp only [Act.put, List.setIfInBounds_toArray, List.set_cons_zero, List.set_cons_succ])
              refine treeDone ?_
              refine NoPanic.normal ?_
              go_upto_region 12 with fail
              obtain ⟨W9, hW9⟩ : ∃ W9, W9 = w9.setCell ⟨b12, 1, none⟩ (.slice A9 (al.length + rn.length) d9) := ⟨_, rfl⟩
              rw [← hW9]
              have r12w : W9.heap[b12]? = some (.cells #[v0, .slice A9 (al.length + rn.length) d9] 69) := by rw [hW9]; exact row_set r129 1 _
              have hEW : Ext w5 W9 := by rw [hW9]; exact hE9.setCell hb125 _
              have hownW : Own W9 wo.heap.size 65 5 A9 (al.length + rn.length) d9 (al.flatMap recCells ++ rn.flatMap recCells) := by rw [hW9]; exact hown9.set_other hb12o _
              have hzW : wo.heap.size ≤ W9.heap.size := by
                have h1 : W9.heap.size = w9.heap.size := by rw [hW9]; simp [World.setCell]
                omega
              have hkW : ∀ x, x < wo.heap.size → x ≠ b12 → W9.heap[x]? = wo.heap[x]? := fun x hx hne => by
                rw [hW9]; exact ((Below.heap_setCell _ ⟨b12, 1, none⟩ _ x hne).trans (hk9 x hx)).trans (hkq x hx hne)
              clear hW9 hk9 k9 g9 r129 hg9 hb9 hat9 hown9
              go_wp2_with fail
              go_roundw
              case rel =>
                have hl1 : rowsOf (soa.take (i + 1)) = al ++ rn := by rw [HT.out, ← HAl.out]
                refine ⟨i + 1, A9, d9, by have := HIl.out; omega, by go_num, ?_, ?_, hEW, hzW, hkW⟩
                · rw [hl1, List.length_append]; exact r12w
                · rw [hl1, List.length_append, List.flatMap_append]; exact hownW
              case measure => (have := HIl.out); simp [intOf]; omega
            · refine treeRun (by rfl) (fun K hK => ?_)
              obtain ⟨f0, f1, f2, f3, f4, f5⟩ := HS13.out _ ((Ext.refl wq).drew)
              go_simp
              refine hK.out _ _ ?_ ?_
              · exact trivial
              clear hK K
              (try simp only [Act.put, List.setIfInBounds_toArray, List.set_cons_zero, List.set_cons_succ])
              refine treeRun2 ?_ ?_
              · refine treeRun (by rfl) (fun K hK => ?_)
                obtain ⟨f0, f1, f2, f3, f4, f5⟩ := HS13.out _ ((Ext.refl wq).drew)
                go_simp
                refine hK.out _ _ ?_ ?_
                · exact trivial
                clear hK K
                (try simp only [Act.put, List.setIfInBounds_toArray, List.set_cons_zero, List.set_cons_succ])
                refine treeRun (by rfl) (fun K hK => ?_)
                go_simp
                refine (HRec.out _ (hww.trans ((Ext.refl wq).drew))).mono ?_
                rintro e w8 ⟨v8, rfl, ⟨A8, c8, rfl, ho8⟩, hEq⟩
                have hE8 : Ext wq w8 := ((Ext.refl wq).drew).trans hEq
                have hw8 : wq.heap.size ≤ w8.heap.size := hE8.size
                have ho8' := ho8
                clear hEq
                refine hK.out _ _ ?_ ?_
                · exact trivial
                clear hK K
                (try simp only [Act.put, List.setIfInBounds_toArray, List.set_cons_zero, List.set_cons_succ])
                refine treeRun (by rfl) (fun K hK => ?_)
                have hrd8 := ho8.rd
                have hcap8 := ho8.cap
                refine step_app w8 rfl (.tmp 84) (.tmp 89) _ rfl wo.heap.size 65 i0 _ 5 40 Tryz.underlying47 hi0 hz0 hz1 hz2 rfl (by omega) B al.length c9 (al.flatMap recCells) rfl (hown.ext (hE8)) _ A8 rn.length c8 (rn.flatMap recCells) rfl hrd8 (recs_one7 rn) (by omega) (by omega) (by omega) ?_
                intro A9 d9 w9 hown9 hg9 hb9 hat9
                have hk9 : ∀ x, x < wo.heap.size → w9.heap[x]? = wq.heap[x]? := fun x hx => by
                  first | exact (hb9.block x hx).trans (hE8.block x (by omega)) | exact (hb9 x hx).trans (hE8.block x (by omega))
                have hE9 : Ext w5 w9 := (hEq5.trans hE8).then hb9 hwo5s
                have hz9 : w8.heap.size ≤ w9.heap.size := by first | exact hb9.size | exact hg9.size | exact hb9.1 | exact hg9.1
                refine hK.out _ _ ?_ ?_
                · exact trivial
                clear hK K
                (try simp only [Act.put, List.setIfInBounds_toArray, List.set_cons_zero, List.set_cons_succ])
                repeat ((with_reducible refine treeIs ?_); first
                  | (refine treeTakeX (a' := ?_) ⟨wq, trivial⟩ (by rfl) rfl (by kernel_rfl) rfl ?_ ?_; rotate_left; (focus (intro V Q' hV hq; (repeat (first | go_guarded | go_skip | go_step)); (first | exact hq | exact wpList_nil hq)))))
                refine treeRun (by rfl) (fun K hK => ?_)
                have r129 := (hk9 b12 hb12o).trans hr12
                have k9 := box_cell (j := 1) r129 rfl
                have g9 := box_free (j := 1) r129
                go_simp
                refine hK.out _ _ ?_ ?_
                · exact trivial
                clear hK K
                (try simp only [Act.put, List.setIfInBounds_toArray, List.set_cons_zero, List.set_cons_succ])
                refine treeDone ?_
                refine NoPanic.normal ?_
                go_upto_region 12 with fail
                obtain ⟨W9, hW9⟩ : ∃ W9, W9 = w9.setCell ⟨b12, 1, none⟩ (.slice A9 (al.length + rn.length) d9) := ⟨_, rfl⟩
                rw [← hW9]
                have r12w : W9.heap[b12]? = some (.cells #[v0, .slice A9 (al.length + rn.length) d9] 69) := by rw [hW9]; exact row_set r129 1 _
                have hEW : Ext w5 W9 := by rw [hW9]; exact hE9.setCell hb125 _
                have hownW : Own W9 wo.heap.size 65 5 A9 (al.length + rn.length) d9 (al.flatMap recCells ++ rn.flatMap recCells) := by rw [hW9]; exact hown9.set_other hb12o _
                have hzW : wo.heap.size ≤ W9.heap.size := by
                  have h1 : W9.heap.size = w9.heap.size := by rw [hW9]; simp [World.setCell]
                  omega
                have hkW : ∀ x, x < wo.heap.size → x ≠ b12 → W9.heap[x]? = wo.heap[x]? := fun x hx hne => by
                  rw [hW9]; exact ((Below.heap_setCell _ ⟨b12, 1, none⟩ _ x hne).trans (hk9 x hx)).trans (hkq x hx hne)
                clear hW9 hk9 k9 g9 r129 hg9 hb9 hat9 hown9
                go_wp2_with fail
                go_roundw
                case rel =>
                  have hl1 : rowsOf (soa.take (i + 1)) = al ++ rn := by rw [HT.out, ← HAl.out]
                  refine ⟨i + 1, A9, d9, by have := HIl.out; omega, by go_num, ?_, ?_, hEW, hzW, hkW⟩
                  · rw [hl1, List.length_append]; exact r12w
                  · rw [hl1, List.length_append, List.flatMap_append]; exact hownW
                case measure => (have := HIl.out); simp [intOf]; omega
              · refine treeRun (by rfl) (fun K hK => ?_)
                go_simp
                refine (HRec.out _ (hww.trans ((Ext.refl wq).drew))).mono ?_
                rintro e w8 ⟨v8, rfl, ⟨A8, c8, rfl, ho8⟩, hEq⟩
                have hE8 : Ext wq w8 := ((Ext.refl wq).drew).trans hEq
                have hw8 : wq.heap.size ≤ w8.heap.size := hE8.size
                have ho8' := ho8
                clear hEq
                refine hK.out _ _ ?_ ?_
                · exact trivial
                clear hK K
                (try simp only [Act.put, List.setIfInBounds_toArray, List.set_cons_zero, List.set_cons_succ])
                refine treeRun (by rfl) (fun K hK => ?_)
                obtain ⟨f0, f1, f2, f3, f4, f5⟩ := HS13.out _ (hE8)
                go_simp
                refine hK.out _ _ ?_ ?_
                · exact trivial
                clear hK K
                (try simp only [Act.put, List.setIfInBounds_toArray, List.set_cons_zero, List.set_cons_succ])
                refine treeRun (by rfl) (fun K hK => ?_)
                have hrd8 := ho8.rd
                have hcap8 := ho8.cap
                refine step_app w8 rfl (.tmp 84) (.tmp 89) _ rfl wo.heap.size 65 i0 _ 5 40 Tryz.underlying47 hi0 hz0 hz1 hz2 rfl (by omega) B al.length c9 (al.flatMap recCells) rfl (hown.ext (hE8)) _ A8 rn.length c8 (rn.flatMap recCells) rfl hrd8 (recs_one7 rn) (by omega) (by omega) (by omega) ?_
                intro A9 d9 w9 hown9 hg9 hb9 hat9
                have hk9 : ∀ x, x < wo.heap.size → w9.heap[x]? = wq.heap[x]? := fun x hx => by
                  first | exact (hb9.block x hx).trans (hE8.block x (by omega)) | exact (hb9 x hx).trans (hE8.block x (by omega))
                have hE9 : Ext w5 w9 := (hEq5.trans hE8).then hb9 hwo5s
                have hz9 : w8.heap.size ≤ w9.heap.size := by first | exact hb9.size | exact hg9.size | exact hb9.1 | exact hg9.1
                refine hK.out _ _ ?_ ?_
                · exact trivial
                clear hK K
                (try simp only [Act.put, List.setIfInBounds_toArray, List.set_cons_zero, List.set_cons_succ])
                repeat ((with_reducible refine treeIs ?_); first
                  | (refine treeTakeX (a' := ?_) ⟨wq, trivial⟩ (by rfl) rfl (by kernel_rfl) rfl ?_ ?_; rotate_left; (focus (intro V Q' hV hq; (repeat (first | go_guarded | go_skip | go_step)); (first | exact hq | exact wpList_nil hq)))))
                refine treeRun (by rfl) (fun K hK => ?_)
                have r129 := (hk9 b12 hb12o).trans hr12
                have k9 := box_cell (j := 1) r129 rfl
                have g9 := box_free (j := 1) r129
                go_simp
                refine hK.out _ _ ?_ ?_
                · exact trivial
                clear hK K
                (try simp only [Act.put, List.setIfInBounds_toArray, List.set_cons_zero, List.set_cons_succ])
                refine treeDone ?_
                refine NoPanic.normal ?_
                go_upto_region 12 with fail
                obtain ⟨W9, hW9⟩ : ∃ W9, W9 = w9.setCell ⟨b12, 1, none⟩ (.slice A9 (al.length + rn.length) d9) := ⟨_, rfl⟩
                rw [← hW9]
                have r12w : W9.heap[b12]? = some (.cells #[v0, .slice A9 (al.length + rn.length) d9] 69) := by rw [hW9]; exact row_set r129 1 _
                have hEW : Ext w5 W9 := by rw [hW9]; exact hE9.setCell hb125 _
                have hownW : Own W9 wo.heap.size 65 5 A9 (al.length + rn.length) d9 (al.flatMap recCells ++ rn.flatMap recCells) := by rw [hW9]; exact hown9.set_other hb12o _
                have hzW : wo.heap.size ≤ W9.heap.size := by
                  have h1 : W9.heap.size = w9.heap.size := by rw [hW9]; simp [World.setCell]
                  omega
                have hkW : ∀ x, x < wo.heap.size → x ≠ b12 → W9.heap[x]? = wo.heap[x]? := fun x hx hne => by
                  rw [hW9]; exact ((Below.heap_setCell _ ⟨b12, 1, none⟩ _ x hne).trans (hk9 x hx)).trans (hkq x hx hne)
                clear hW9 hk9 k9 g9 r129 hg9 hb9 hat9 hown9
                go_wp2_with fail
                go_roundw
                case rel =>
                  have hl1 : rowsOf (soa.take (i + 1)) = al ++ rn := by rw [HT.out, ← HAl.out]
                  refine ⟨i + 1, A9, d9, by have := HIl.out; omega, by go_num, ?_, ?_, hEW, hzW, hkW⟩
                  · rw [hl1, List.length_append]; exact r12w
                  · rw [hl1, List.length_append, List.flatMap_append]; exact hownW
                case measure => (have := HIl.out); simp [intOf]; omega
          · obtain rfl : i = ops.length := by omega
            obtain ⟨wi, rfl⟩ : ∃ wi : World, wi = wq := ⟨_, rfl⟩
            have HTe := Lib.hid (show rowsOf (soa.take ops.length) = rowsOf soa from by rw [HPl.out, List.take_length])
            rw [HTe.out] at hown hr12
            have howni := hown
            have hr12i := hr12
            have hwi : Ext w wi := hww
            have hwi5 : Ext w5 wi := hEq5
            have r68i := (hkq b68 (Array.getElem?_eq_some_iff.1 r68).1 hb68ne).trans r68
            have hv0i := hv0.by_ hkq
            clear hown hr12 hkq
            have k12i := box_cell (j := 1) hr12i rfl
            go_wp2_with fail
            have hlr : (rowsOf soa).length ≤ 16000 := rows_len hsm2
            have HRw := Lib.hid (fun r hr => rows_sm hsm2 r hr)
            generalize hal : rowsOf soa = al at *
            have HAl := Lib.hid hal
            clear hal
            go_loopw [11, 16] (fun s11 s16 wr => ∃ j : Nat, j ≤ al.length ∧ s16 = .int .i64 j ∧ s11 = .bool (mK && (al.take j).all rowOk) ∧ Ext wi wr) (fun _ s16 _ => al.length - (intOf s16).toNat)
            case atStart => exact ⟨0, Nat.zero_le _, rfl, by simp, Ext.refl _⟩
            case round =>
              obtain ⟨j, hj, rfl, rfl, hEi⟩ := hrel
              obtain ⟨wq, rfl⟩ : ∃ wq : World, wq = wr := ⟨_, rfl⟩
              have hr12 := (hEi.block _ (Array.getElem?_eq_some_iff.1 hr12i).1).trans hr12i
              have hown := howni.ext hEi
              have k12 := box_cell (j := 1) hr12 rfl
              have hww : Ext w wq := hwi.trans hEi
              by_cases hjl : j < al.length
              · obtain ⟨g8, o8, rfl, _, hgz, hgc⟩ := hown.rd.2 (by omega)
                obtain ⟨p0, p1, p2, p3, p4⟩ := recs_cells hgc j al[j] (List.getElem?_eq_getElem hjl)
                have HAt := Lib.hid (all_take al rowOk j hjl)
                have HJl := Lib.hid hjl
                have hrs := HRw.out al[j] (List.getElem_mem hjl)
                have HS17 := Lib.hid (fun V (hV : Ext wq V) => (show V.cell? ⟨b12, 1, none⟩ = some (.slice (some ⟨g8, o8, none⟩) al.length c9) ∧ V.cell? ⟨g8, o8 + j * 5, none⟩ = some (S al[j].name) ∧ V.cell? ⟨g8, o8 + j * 5 + 1, none⟩ = some (.int .u16 al[j].typ) ∧ V.cell? ⟨g8, o8 + j * 5 + 4, none⟩ = some (S al[j].data) from
                  ⟨(hV.cell (cell_lt7 k12)).trans k12, (hV.cell (cell_lt7 p0)).trans p0, (hV.cell (cell_lt7 p1)).trans p1, (hV.cell (cell_lt7 p4)).trans p4⟩))
                have HMy := Lib.hid (fun V => name_may al[j].name V (by unfold maxLen; omega))
                have HRm := Lib.hid (fun V (hV : Ext w V) => rdata_may al[j].typ al[j].data V (hg.ext hV) (by omega))
                have hOk : rowOk al[j] = (may al[j].name && rmay al[j].typ al[j].data) := rfl
                generalize al[j] = r at *
                obtain ⟨nm, ty, cl, tt, da⟩ := r
                dsimp only at *
                have hki : (j : Int) < (al.length : Int) := by omega
                have hk0 : (0 : Int) ≤ (j : Int) := by omega
                clear p0 p1 p2 p3 p4 hgc hrs
                go_upto_region 17 with fail
                rcases hmn : may nm with _ | _
                · rw [hmn] at hOk HMy
                  have HOk := Lib.hid (show rowOk ⟨nm, ty, cl, tt, da⟩ = false from hOk)
                  clear hOk
                  refine wp_region_noPanic ?_
                  refine wp_region_tree (S := (fun V => V.cell? ⟨b12, 1, none⟩ = some (.slice (some ⟨g8, o8, none⟩) al.length c9) ∧ V.cell? ⟨g8, o8 + j * 5, none⟩ = some (S nm) ∧ V.cell? ⟨g8, o8 + j * 5 + 1, none⟩ = some (.int .u16 ty) ∧ V.cell? ⟨g8, o8 + j * 5 + 4, none⟩ = some (S da))) (.take 0 (.take 1 (.take 2 (.take 3 (.take 4 (.take 5 (.take 6 (.run 7 (.take 8 (.take 9 (.take 10 (.take 11 (.take 12 (.take 13 (.take 14 (.take 15 (.take 16 (.take 17 (.take 18 (.take 19 (.take 20 (.take 21 (.take 22 (.take 23 (.take 24 (.take 25 (.take 26 (.done)))))))))))))))))))))))))))) (by kernel_rfl) (by kernel_rfl) (fun _ _ _ _ _ h => h) ((HS17.out _ (Ext.refl wq).drew)) ?_
                  repeat ((with_reducible refine treeIs ?_); first
                    | (refine treeTakeX (a' := ?_) ⟨_, (HS17.out _ (Ext.refl wq).drew)⟩ (by rfl) rfl (by kernel_rfl) rfl ?_ ?_; rotate_left; (focus (intro V Q' hV hq; obtain ⟨hV1, hV2, hV3, hV4⟩ := hV; (repeat (first | go_guarded | go_skip | go_step)); (first | exact hq | exact wpList_nil hq))))
                    | (refine treeSkip (by rfl) (by rfl) ?_; (try simp only [Act.put, List.setIfInBounds_toArray, List.set_cons_zero, List.set_cons_succ])))
                  refine treeRun (by rfl) (fun K hK => ?_)
                  go_simp
                  refine (HMy.out _).mono ?_
                  rintro e wm ⟨rfl, rfl⟩
                  refine hK.out _ _ ?_ ?_
                  · exact (HS17.out _ ((Ext.refl wq).drew))
                  clear hK K
                  (try simp only [Act.put, List.setIfInBounds_toArray, List.set_cons_zero, List.set_cons_succ])
                  repeat ((with_reducible refine treeIs ?_); first
                    | (refine treeTakeX (a' := ?_) ⟨_, (HS17.out _ (Ext.refl wq).drew)⟩ (by rfl) rfl (by kernel_rfl) rfl ?_ ?_; rotate_left; (focus (intro V Q' hV hq; obtain ⟨hV1, hV2, hV3, hV4⟩ := hV; (repeat (first | go_guarded | go_skip | go_step)); (first | exact hq | exact wpList_nil hq))))
                    | (refine treeSkip (by rfl) (by rfl) ?_; (try simp only [Act.put, List.setIfInBounds_toArray, List.set_cons_zero, List.set_cons_succ])))
                  refine treeDone ?_
                  refine NoPanic.normal ?_
                  go_wp2_with fail
                  go_roundw
                  case rel =>
                    refine ⟨j + 1, by have := HJl.out; omega, by go_num, ?_, hEi.trans ((Ext.refl wq).drew)⟩
                    rw [HAt.out, HOk.out]
                    first | rfl | simp
                  case measure => (have := HJl.out); simp [intOf]; omega
                · rw [hmn] at hOk HMy
                  have HOk := Lib.hid (show rowOk ⟨nm, ty, cl, tt, da⟩ = rmay ty da from hOk)
                  clear hOk
                  refine wp_region_noPanic ?_
                  refine wp_region_tree (S := (fun V => V.cell? ⟨b12, 1, none⟩ = some (.slice (some ⟨g8, o8, none⟩) al.length c9) ∧ V.cell? ⟨g8, o8 + j * 5, none⟩ = some (S nm) ∧ V.cell? ⟨g8, o8 + j * 5 + 1, none⟩ = some (.int .u16 ty) ∧ V.cell? ⟨g8, o8 + j * 5 + 4, none⟩ = some (S da))) (.take 0 (.take 1 (.take 2 (.take 3 (.take 4 (.take 5 (.take 6 (.run 7 (.take 8 (.take 9 (.take 10 (.take 11 (.take 12 (.take 13 (.take 14 (.take 15 (.take 16 (.take 17 (.take 18 (.take 19 (.take 20 (.take 21 (.take 22 (.take 23 (.run 24 (.take 25 (.take 26 (.done)))))))))))))))))))))))))))) (by kernel_rfl) (by kernel_rfl) (fun _ _ _ _ _ h => h) ((HS17.out _ (Ext.refl wq).drew)) ?_
                  repeat ((with_reducible refine treeIs ?_); first
                    | (refine treeTakeX (a' := ?_) ⟨_, (HS17.out _ (Ext.refl wq).drew)⟩ (by rfl) rfl (by kernel_rfl) rfl ?_ ?_; rotate_left; (focus (intro V Q' hV hq; obtain ⟨hV1, hV2, hV3, hV4⟩ := hV; (repeat (first | go_guarded | go_skip | go_step)); (first | exact hq | exact wpList_nil hq)))))
                  refine treeRun (by rfl) (fun K hK => ?_)
                  go_simp
                  refine (HMy.out _).mono ?_
                  rintro e wm ⟨rfl, rfl⟩
                  refine hK.out _ _ ?_ ?_
                  · exact (HS17.out _ ((Ext.refl wq).drew))
                  clear hK K
                  (try simp only [Act.put, List.setIfInBounds_toArray, List.set_cons_zero, List.set_cons_succ])
                  repeat ((with_reducible refine treeIs ?_); first
                    | (refine treeTakeX (a' := ?_) ⟨_, (HS17.out _ (Ext.refl wq).drew)⟩ (by rfl) rfl (by kernel_rfl) rfl ?_ ?_; rotate_left; (focus (intro V Q' hV hq; obtain ⟨hV1, hV2, hV3, hV4⟩ := hV; (repeat (first | go_guarded | go_skip | go_step)); (first | exact hq | exact wpList_nil hq)))))
                  refine treeRun (by rfl) (fun K hK => ?_)
                  go_simp
                  refine (HRm.out _ (hww.trans ((Ext.refl wq).drew))).mono ?_
                  rintro e wn ⟨rfl, hEq⟩
                  have hE17 : Ext wq wn := ((Ext.refl wq).drew).trans hEq
                  clear hEq
                  refine hK.out _ _ ?_ ?_
                  · exact (HS17.out _ hE17)
                  clear hK K
                  (try simp only [Act.put, List.setIfInBounds_toArray, List.set_cons_zero, List.set_cons_succ])
                  repeat ((with_reducible refine treeIs ?_); first
                    | (refine treeTakeX (a' := ?_) ⟨_, (HS17.out _ (Ext.refl wq).drew)⟩ (by rfl) rfl (by kernel_rfl) rfl ?_ ?_; rotate_left; (focus (intro V Q' hV hq; obtain ⟨hV1, hV2, hV3, hV4⟩ := hV; (repeat (first | go_guarded | go_skip | go_step)); (first | exact hq | exact wpList_nil hq)))))
                  refine treeDone ?_
                  refine NoPanic.normal ?_
                  rcases hrm : rmay ty da with _ | _
                  · have HOk2 := Lib.hid (HOk.out.trans hrm)
                    clear hrm
                    go_wp2_with fail
                    go_roundw
                    case rel =>
                      refine ⟨j + 1, by have := HJl.out; omega, by go_num, ?_, hEi.trans (hE17)⟩
                      rw [HAt.out, HOk2.out]
                      first | rfl | simp
                    case measure => (have := HJl.out); simp [intOf]; omega
                  · have HOk2 := Lib.hid (HOk.out.trans hrm)
                    clear hrm
                    go_wp2_with fail
                    go_roundw
                    case rel =>
                      refine ⟨j + 1, by have := HJl.out; omega, by go_num, ?_, hEi.trans (hE17)⟩
                      rw [HAt.out, HOk2.out]
                      first | rfl | simp
                    case measure => (have := HJl.out); simp [intOf]; omega
              · obtain rfl : j = al.length := by omega
                rw [List.take_length]
                go_wp2_with fail
                go_roundw
                case rel =>
                  exact ⟨2, v0, .slice _ al.length c9, by omega, rfl, by rw [HmK.out], hr12, by rw [if_pos (by omega)]; exact hv0i.ext hEi, by rw [if_pos (by omega), HAl.out]; exact ⟨wo.heap.size, hb12o, _, _, rfl, hown⟩, fun h => absurd h (by omega), fun h => absurd h (by omega), (hEi.block _ (Array.getElem?_eq_some_iff.1 r68i).1).trans r68i, hwi5.trans hEi⟩
                case measure => simp [intOf]
      obtain rfl : k = 2 := by omega
      rw [if_pos (by omega)] at hv0 hv1
      clear hn0 hn1
      have hwo : Ext w wo := hw5.trans hwo5
      have hPl := rows_plain HLo.out (code := vc) (size := n) H.out.ws H.out.wo H.out.ttl hsm1 hsm2
      rw [← Hs.out] at hPl
      obtain ⟨hiff, hread⟩ := hPl
      have hmk : mayK M sets soa 2 = true ↔ s ≠ [] := by
        rw [← hiff]
        show ((M && (rowsOf sets).all rowOk) && (rowsOf soa).all rowOk) = true ↔ _
        rw [HM0.out]
        simp only [Bool.and_eq_true, decide_eq_true_eq, and_assoc]
      generalize mayK M sets soa 2 = B at *
      by_cases hs0 : s = []
      · subst hs0
        obtain rfl : B = false := by
          cases B
          · rfl
          · exact absurd rfl (hmk.1 rfl)
        clear hmk hiff hread
        go_wp2_with fail
        go_ret
        exact ⟨rfl, hwo⟩
      obtain rfl : B = true := hmk.2 hs0
      have hse : s.isEmpty = false := by cases s; exact absurd rfl hs0; rfl
      obtain ⟨hsl, m, hdm, hcode, hal, hul, hor⟩ := hread hs0
      have Hcode := Lib.hid hcode
      have Hor := Lib.hid hor
      have P := Lib.hid hdm
      have HDs := Lib.hid (fun V (hV : Ext w V) => wire_decode s V (hg.ext hV) (hb.ext hV) (by omega))
      have hlr1 := rows_len hsm1
      have hlr2 := rows_len hsm2
      clear hmk hiff hread hcode hor hdm hs0
      obtain ⟨lo0, hlo0, A0, c0, rfl, ho0⟩ := hv0
      obtain ⟨lo1, hlo1, A1, c1, rfl, ho1⟩ := hv1
      go_upto_region 22 with fail
      go_upto_region 22 with fail
      go_wp2_with fail
      refine (HDs.out _ hwo).mono ?_
      rintro e Y17 ⟨⟨x, _, hx, _⟩ | ⟨m', q, a, u, x, o, hm, rfl, hMO, hBd⟩, hEd⟩
      · rw [P.out] at hx; cases hx
      obtain rfl : m = m' := by have := P.out; rw [hm] at this; injection this with this; exact this.symm
      clear hm
      have HM := Lib.hid hMO
      obtain ⟨⟨qA, qc, rfl, _⟩, ⟨aA, ac, rfl, _⟩, ⟨uA, uc, rfl, _⟩, ⟨xA, xc, rfl, _⟩, ⟨oA2, oc2, rfl, _⟩⟩ := hMO
      dsimp only
      iterate 10 go_step
      skip
      obtain ⟨b17, hb17⟩ : ∃ b17, b17 = Y17.heap.size := ⟨_, rfl⟩
      have hz : (Y17.alloc (.cells msgZ 52)).heap[b17]? = some (.cells msgZ 52) := by rw [hb17]; exact heap_alloc_new _ _
      refine Go.Great.wpList_allocTo rfl (some 17) rfl (.pointer (some ⟨Y17.heap.size, 0, none⟩)) (.cells msgZ 52) (by kernel_rfl) ?_
      rw [← hb17]
      refine Go.wpList_store_rowTo rfl 52 (.tmp 17) (.tmp 143) rfl rfl b17 #[.int .u16 m.hd.id, .bool m.hd.qr, .int .u8 m.hd.op, .bool m.hd.aa, .bool m.hd.tc, .bool m.hd.rd, .bool m.hd.ra, .bool m.hd.z, .bool m.hd.ad, .bool m.hd.cd, .int .u8 m.hd.code, .slice qA m.qs.length qc, .slice aA m.ans.length ac, .slice uA m.auth.length uc, .slice xA m.extra.length xc, .bool m.he, .int .u16 m.ed.size, .int .u8 m.ed.ext, .int .u8 m.ed.ver, .int .u16 m.ed.flags, .slice oA2 m.ed.opts.length oc2] rfl rfl 52 _ hz (by kernel_rfl) rfl (by kernel_rfl) ?_
      rw [alloc_setRow7 Y17 msgZ #[.int .u16 m.hd.id, .bool m.hd.qr, .int .u8 m.hd.op, .bool m.hd.aa, .bool m.hd.tc, .bool m.hd.rd, .bool m.hd.ra, .bool m.hd.z, .bool m.hd.ad, .bool m.hd.cd, .int .u8 m.hd.code, .slice qA m.qs.length qc, .slice aA m.ans.length ac, .slice uA m.auth.length uc, .slice xA m.extra.length xc, .bool m.he, .int .u16 m.ed.size, .int .u8 m.ed.ext, .int .u8 m.ed.ver, .int .u16 m.ed.flags, .slice oA2 m.ed.opts.length oc2] 52 b17 hb17]
      iterate 3 go_step
      refine wpList_nil ?_
      rw [← hb17]
      have r17 : (Y17.alloc (.cells #[.int .u16 m.hd.id, .bool m.hd.qr, .int .u8 m.hd.op, .bool m.hd.aa, .bool m.hd.tc, .bool m.hd.rd, .bool m.hd.ra, .bool m.hd.z, .bool m.hd.ad, .bool m.hd.cd, .int .u8 m.hd.code, .slice qA m.qs.length qc, .slice aA m.ans.length ac, .slice uA m.auth.length uc, .slice xA m.extra.length xc, .bool m.he, .int .u16 m.ed.size, .int .u8 m.ed.ext, .int .u8 m.ed.ver, .int .u16 m.ed.flags, .slice oA2 m.ed.opts.length oc2] 52)).heap[b17]? = some (.cells #[.int .u16 m.hd.id, .bool m.hd.qr, .int .u8 m.hd.op, .bool m.hd.aa, .bool m.hd.tc, .bool m.hd.rd, .bool m.hd.ra, .bool m.hd.z, .bool m.hd.ad, .bool m.hd.cd, .int .u8 m.hd.code, .slice qA m.qs.length qc, .slice aA m.ans.length ac, .slice uA m.auth.length uc, .slice xA m.extra.length xc, .bool m.he, .int .u16 m.ed.size, .int .u8 m.ed.ext, .int .u8 m.ed.ver, .int .u16 m.ed.flags, .slice oA2 m.ed.opts.length oc2] 52) := by rw [hb17]; exact heap_alloc_new _ _
      have hE9X : Ext wo (Y17.alloc (.cells #[.int .u16 m.hd.id, .bool m.hd.qr, .int .u8 m.hd.op, .bool m.hd.aa, .bool m.hd.tc, .bool m.hd.rd, .bool m.hd.ra, .bool m.hd.z, .bool m.hd.ad, .bool m.hd.cd, .int .u8 m.hd.code, .slice qA m.qs.length qc, .slice aA m.ans.length ac, .slice uA m.auth.length uc, .slice xA m.extra.length xc, .bool m.he, .int .u16 m.ed.size, .int .u8 m.ed.ext, .int .u8 m.ed.ver, .int .u16 m.ed.flags, .slice oA2 m.ed.opts.length oc2] 52)) := hEd.alloc _
      have hY17 : Ext Y17 (Y17.alloc (.cells #[.int .u16 m.hd.id, .bool m.hd.qr, .int .u8 m.hd.op, .bool m.hd.aa, .bool m.hd.tc, .bool m.hd.rd, .bool m.hd.ra, .bool m.hd.z, .bool m.hd.ad, .bool m.hd.cd, .int .u8 m.hd.code, .slice qA m.qs.length qc, .slice aA m.ans.length ac, .slice uA m.auth.length uc, .slice xA m.extra.length xc, .bool m.he, .int .u16 m.ed.size, .int .u8 m.ed.ext, .int .u8 m.ed.ver, .int .u16 m.ed.flags, .slice oA2 m.ed.opts.length oc2] 52)) := (Ext.refl _).alloc _
      have hloY17 : Y17.heap.size ≤ b17 := by rw [hb17]; exact Nat.le_refl _
      have hlo17 : wo.heap.size ≤ b17 := by rw [hb17]; exact hEd.size
      obtain ⟨X10, hX⟩ : ∃ X10, X10 = Y17.alloc (.cells #[.int .u16 m.hd.id, .bool m.hd.qr, .int .u8 m.hd.op, .bool m.hd.aa, .bool m.hd.tc, .bool m.hd.rd, .bool m.hd.ra, .bool m.hd.z, .bool m.hd.ad, .bool m.hd.cd, .int .u8 m.hd.code, .slice qA m.qs.length qc, .slice aA m.ans.length ac, .slice uA m.auth.length uc, .slice xA m.extra.length xc, .bool m.he, .int .u16 m.ed.size, .int .u8 m.ed.ext, .int .u8 m.ed.ver, .int .u16 m.ed.flags, .slice oA2 m.ed.opts.length oc2] 52) := ⟨_, rfl⟩
      rw [← hX] at r17 hE9X hY17 ⊢
      clear hX hz hb17 hEd
      have hw10 : Ext w X10 := hwo.trans hE9X
      have r5x := (hE9X.block _ (Array.getElem?_eq_some_iff.1 ((hwo5.block _ (Array.getElem?_eq_some_iff.1 r05).1).trans r05)).1).trans ((hwo5.block _ (Array.getElem?_eq_some_iff.1 r05).1).trans r05)
      have r12x := (hE9X.block _ (Array.getElem?_eq_some_iff.1 hr12o).1).trans hr12o
      have c10 := box_cell (j := 10) r17 rfl
      change X10.cell? ⟨b17, 10, none⟩ = some (.int .u8 m.hd.code) at c10
      rw [Hcode.out] at c10
      have d0 := box_cell (j := 0) r5x rfl
      go_upto_region 25 with fail
      clear c10 d0
      rcases Hor.out with htc | ⟨htc, hma, hmu⟩
      · have HS25 := Lib.hid (fun V (hV : Ext X10 V) => (show V.cell? ⟨b17, 4, none⟩ = some (.bool true) ∧ V.cell? ⟨b17, 12, none⟩ = some (.slice aA m.ans.length ac) ∧ V.cell? ⟨b17, 13, none⟩ = some (.slice uA m.auth.length uc) ∧ V.cell? ⟨b12, 0, none⟩ = some (.slice A0 (rowsOf sets).length c0) ∧ V.cell? ⟨b12, 1, none⟩ = some (.slice A1 (rowsOf soa).length c1) from by
          have rV := (hV.block _ (Array.getElem?_eq_some_iff.1 r17).1).trans r17
          have qV := (hV.block _ (Array.getElem?_eq_some_iff.1 r12x).1).trans r12x
          exact ⟨by rw [← htc]; exact box_cell rV rfl, box_cell rV rfl, box_cell rV rfl, box_cell qV rfl, box_cell qV rfl⟩))
        clear htc
        refine wp_region_noPanic ?_
        refine wp_region_tree (S := (fun V => V.cell? ⟨b17, 4, none⟩ = some (.bool true) ∧ V.cell? ⟨b17, 12, none⟩ = some (.slice aA m.ans.length ac) ∧ V.cell? ⟨b17, 13, none⟩ = some (.slice uA m.auth.length uc) ∧ V.cell? ⟨b12, 0, none⟩ = some (.slice A0 (rowsOf sets).length c0) ∧ V.cell? ⟨b12, 1, none⟩ = some (.slice A1 (rowsOf soa).length c1))) (.take 0 (.take 1 (.take 2 (.take 3 (.take 4 (.take 5 (.take 6 (.take 7 (.take 8 (.take 9 (.take 10 (.take 11 (.take 12 (.take 13 (.take 14 (.take 15 (.take 16 (.take 17 (.take 18 (.take 19 (.take 20 (.take 21 (.done))))))))))))))))))))))) (by kernel_rfl) (by kernel_rfl) (fun _ _ _ _ _ h => h) ((HS25.out _ (Ext.refl X10).drew)) ?_
        repeat ((with_reducible refine treeIs ?_); first
          | (refine treeTakeX (a' := ?_) ⟨_, (HS25.out _ (Ext.refl X10).drew)⟩ (by rfl) rfl (by kernel_rfl) rfl ?_ ?_; rotate_left; (focus (intro V Q' hV hq; obtain ⟨hV1, hV2, hV3, hV4, hV5⟩ := hV; (repeat (first | go_guarded | go_skip | go_step)); (first | exact hq | exact wpList_nil hq))))
          | (refine treeSkip (by rfl) (by rfl) ?_; (try simp only [Act.put, List.setIfInBounds_toArray, List.set_cons_zero, List.set_cons_succ])))
        refine treeDone ?_
        refine NoPanic.normal ?_
        go_wp2_with fail
        go_ret
        exact ⟨rfl, hw10.trans ((Ext.refl X10).drew)⟩
      · have HS25 := Lib.hid (fun V (hV : Ext X10 V) => (show V.cell? ⟨b17, 4, none⟩ = some (.bool false) ∧ V.cell? ⟨b17, 12, none⟩ = some (.slice aA m.ans.length ac) ∧ V.cell? ⟨b17, 13, none⟩ = some (.slice uA m.auth.length uc) ∧ V.cell? ⟨b12, 0, none⟩ = some (.slice A0 (rowsOf sets).length c0) ∧ V.cell? ⟨b12, 1, none⟩ = some (.slice A1 (rowsOf soa).length c1) from by
          have rV := (hV.block _ (Array.getElem?_eq_some_iff.1 r17).1).trans r17
          have qV := (hV.block _ (Array.getElem?_eq_some_iff.1 r12x).1).trans r12x
          exact ⟨by rw [← htc]; exact box_cell rV rfl, box_cell rV rfl, box_cell rV rfl, box_cell qV rfl, box_cell qV rfl⟩))
        clear htc
        have HT1 := Lib.hid (fun V (hV : Ext X10 V) => law28_timed (rowsOf sets) (.slice A0 (rowsOf sets).length c0) ttl V ⟨A0, c0, rfl, ho0.cap.1, ho0.cap.2, (ho0.rd.lower (Nat.zero_le _)).ext (hE9X.trans hV)⟩ (by omega))
        have HU1 := Lib.hid (fun V (hV : Ext X10 V) => law28_timed (rowsOf soa) (.slice A1 (rowsOf soa).length c1) ttl V ⟨A1, c1, rfl, ho1.cap.1, ho1.cap.2, (ho1.rd.lower (Nat.zero_le _)).ext (hE9X.trans hV)⟩ (by omega))
        rw [rows_timed, ← hma] at HT1
        rw [rows_timed, ← hmu] at HU1
        unfold ORec7Post at HT1 HU1
        have HR1 := Lib.hid (fun V v (hV : Ext X10 V) (h : Recs V 0 v m.ans) => ref7_records m.ans (.slice aA m.ans.length ac) v V ((HM.out.ans.recs.lower (Nat.zero_le _)).ext (hY17.trans hV)) h)
        have HR2 := Lib.hid (fun V v (hV : Ext X10 V) (h : Recs V 0 v m.auth) => ref7_records m.auth (.slice uA m.auth.length uc) v V ((HM.out.auth.recs.lower (Nat.zero_le _)).ext (hY17.trans hV)) h)
        clear hma hmu
        refine wp_region_noPanic ?_
        refine wp_region_tree (S := (fun V => V.cell? ⟨b17, 4, none⟩ = some (.bool false) ∧ V.cell? ⟨b17, 12, none⟩ = some (.slice aA m.ans.length ac) ∧ V.cell? ⟨b17, 13, none⟩ = some (.slice uA m.auth.length uc) ∧ V.cell? ⟨b12, 0, none⟩ = some (.slice A0 (rowsOf sets).length c0) ∧ V.cell? ⟨b12, 1, none⟩ = some (.slice A1 (rowsOf soa).length c1))) (.take 0 (.take 1 (.take 2 (.take 3 (.take 4 (.take 5 (.take 6 (.take 7 (.take 8 (.run 9 (.run 10 (.take 11 (.take 12 (.take 13 (.take 14 (.take 15 (.take 16 (.run 17 (.run 18 (.take 19 (.take 20 (.take 21 (.done))))))))))))))))))))))) (by kernel_rfl) (by kernel_rfl) (fun _ _ _ _ _ h => h) ((HS25.out _ (Ext.refl X10).drew)) ?_
        repeat ((with_reducible refine treeIs ?_); first
          | (refine treeTakeX (a' := ?_) ⟨_, (HS25.out _ (Ext.refl X10).drew)⟩ (by rfl) rfl (by kernel_rfl) rfl ?_ ?_; rotate_left; (focus (intro V Q' hV hq; obtain ⟨hV1, hV2, hV3, hV4, hV5⟩ := hV; (repeat (first | go_guarded | go_skip | go_step)); (first | exact hq | exact wpList_nil hq)))))
        refine treeRun (by rfl) (fun K hK => ?_)
        go_simp
        refine (HT1.out _ ((Ext.refl X10).drew)).mono ?_
        rintro e wu1 ⟨u1, rfl, hu1, hEq⟩
        have hEu1 : Ext X10 wu1 := ((Ext.refl X10).drew).trans hEq
        have hu1r := Lib.hid (hu1.recs.lower (Nat.zero_le _))
        obtain ⟨Au1, cu1, rfl, _⟩ := hu1
        clear hEq
        refine hK.out _ _ ?_ ?_
        · exact (HS25.out _ hEu1)
        clear hK K
        (try simp only [Act.put, List.setIfInBounds_toArray, List.set_cons_zero, List.set_cons_succ])
        refine treeRun (by rfl) (fun K hK => ?_)
        go_simp
        refine (HR1.out _ _ (hEu1) hu1r.out).mono ?_
        rintro e wk1 ⟨rfl, hEq⟩
        have hEk1 : Ext X10 wk1 := (hEu1).trans hEq
        clear hEq
        refine hK.out _ _ ?_ ?_
        · exact (HS25.out _ hEk1)
        clear hK K
        (try simp only [Act.put, List.setIfInBounds_toArray, List.set_cons_zero, List.set_cons_succ])
        repeat ((with_reducible refine treeIs ?_); first
          | (refine treeTakeX (a' := ?_) ⟨_, (HS25.out _ (Ext.refl X10).drew)⟩ (by rfl) rfl (by kernel_rfl) rfl ?_ ?_; rotate_left; (focus (intro V Q' hV hq; obtain ⟨hV1, hV2, hV3, hV4, hV5⟩ := hV; (repeat (first | go_guarded | go_skip | go_step)); (first | exact hq | exact wpList_nil hq)))))
        refine treeRun (by rfl) (fun K hK => ?_)
        go_simp
        refine (HU1.out _ (hEk1)).mono ?_
        rintro e wu2 ⟨u2, rfl, hu2, hEq⟩
        have hEu2 : Ext X10 wu2 := (hEk1).trans hEq
        have hu2r := Lib.hid (hu2.recs.lower (Nat.zero_le _))
        obtain ⟨Au2, cu2, rfl, _⟩ := hu2
        clear hEq
        refine hK.out _ _ ?_ ?_
        · exact (HS25.out _ hEu2)
        clear hK K
        (try simp only [Act.put, List.setIfInBounds_toArray, List.set_cons_zero, List.set_cons_succ])
        refine treeRun (by rfl) (fun K hK => ?_)
        go_simp
        refine (HR2.out _ _ (hEu2) hu2r.out).mono ?_
        rintro e wk2 ⟨rfl, hEq⟩
        have hEk2 : Ext X10 wk2 := (hEu2).trans hEq
        clear hEq
        refine hK.out _ _ ?_ ?_
        · exact (HS25.out _ hEk2)
        clear hK K
        (try simp only [Act.put, List.setIfInBounds_toArray, List.set_cons_zero, List.set_cons_succ])
        repeat ((with_reducible refine treeIs ?_); first
          | (refine treeTakeX (a' := ?_) ⟨_, (HS25.out _ (Ext.refl X10).drew)⟩ (by rfl) rfl (by kernel_rfl) rfl ?_ ?_; rotate_left; (focus (intro V Q' hV hq; obtain ⟨hV1, hV2, hV3, hV4, hV5⟩ := hV; (repeat (first | go_guarded | go_skip | go_step)); (first | exact hq | exact wpList_nil hq)))))
        refine treeDone ?_
        refine NoPanic.normal ?_
        go_wp2_with fail
        go_ret
        exact ⟨rfl, hw10.trans (hEk2)⟩
end Go.Proofs.YtebkdcamblifoaaGreatDoor
namespace Go.Proofs.YtebkdcamblifoaaGreatDoor
set_option linter.unusedSimpArgs false
set_option linter.unusedVariables false
open Go.ChangeShapes Go.WideShapes Go.ChangeAt Go.RowKit
set_option maxRecDepth 100000

theorem answerRows_contract (H : Type) (enc : TypeId × Value → H) (W : World) (base : Nat) (args : Array Value) (ds gs : List (DataW H)) (before : List MemPlace)
    (hval : ∀ (j : Nat) t v, Tryz.f8.params[j]? = some t → args[j]? = some v → Value.okWide Tryz.prog W .any base t v)
    (hW : DataW.Whole enc Tryz.prog Tryz.f8.params.toList Rows.answerRowsSpec.vars false W args.toList ds gs before)
    (hsz : (DataW.weightsEach Tryz.prog (Tryz.f8.params.toList ++ (OpenSpec.ofChange Rows.answerRowsSpec).bare.plain.varTypes Tryz.prog) (ds ++ gs)).all (· ≤ reachBytes) = true)
    (hL : laidMetH Tryz.prog laidL W) :
    Calls Tryz.prog 8 args W fun e W' => ∃ v, e = .returned v ∧ Rows.answerRowsSpec.post enc Tryz.prog Tryz.f8 false true false false W args v W' := by
  have hW' := hW
  have hp : ∀ t ∈ Tryz.f8.params.toList, Tryz.prog.readableRec t = true ∧ t < Tryz.prog.types.size := by
    have h : (Tryz.f8.params.toList.all fun t => Tryz.prog.readableRec t && decide (t < Tryz.prog.types.size)) = true := by kernel_rfl
    simpa only [List.all_eq_true, Bool.and_eq_true, decide_eq_true_eq] using h
  have hg := laid_of hL
  have hb := laidbits_of hL
  obtain ⟨p, q, hA0, hV, rfl, _, _⟩ := hW
  have hA : DataW.TrodAll enc Tryz.prog W 0 (fun _ => true) true Tryz.f8.params.toList args.toList ds p := hA0
  clear hA0
  rw [Tryz.params8] at hA hval hsz
  obtain ⟨rfl, rfl⟩ := trodVars_none hV
  obtain ⟨v0, v1, v2, v3, d0, d1, d2, d3, p0, p1, p2, p3, rfl, rfl, rfl, h0, h1, h2, h3⟩ := trodAll_four hA
  obtain ⟨n, rfl, hn⟩ := open_str (hval 0 _ _ rfl rfl) h0
  obtain ⟨vc, vs, vo, ss, oo, rfl, hvs, hvo, hvc, hin, _, _⟩ := open_verdict7 (hval 1 _ _ rfl rfl) h1
  obtain ⟨tl, rfl, ht1, ht2⟩ := open_u32 (hval 2 _ _ rfl rfl) h2
  obtain ⟨sz, rfl, _, _⟩ := open_i64 (hval 3 _ _ rfl rfl) h3
  refine (law28_rows n vc tl sz vs vo ss oo W hg hb ⟨hn, hvc, ⟨ht1, ht2⟩, hvs, hvo, (fun s hs => ⟨(hin s (List.mem_append.2 (.inl hs))).1.1, (hin s (List.mem_append.2 (.inl hs))).1.2.1⟩), (fun s hs => ⟨(hin s (List.mem_append.2 (.inr hs))).1.1, (hin s (List.mem_append.2 (.inr hs))).1.2.1⟩)⟩).mono ?_
  rintro e W' ⟨rfl, hE⟩
  exact ⟨_, rfl, post_true laid_out rfl (by kernel_rfl) Tryz.underlying4 hp hW' rfl hE⟩

theorem answerRows_reads (os : Os) {H : Type} (enc : TypeId × Value → H) : ∃ places, DataW.whole enc Tryz.prog ((laidWorld os).forCall (fun _ _ => 0) ⟨#[], #[.string ⟨#[]⟩, .agg #[.int .u8 0, .slice none 0 0, .slice none 0 0], .int .u32 0, .int .i64 0], []⟩).memory Tryz.f8.params.toList Rows.answerRowsSpec.vars false (#[.string ⟨#[]⟩, .agg #[.int .u8 0, .slice none 0 0, .slice none 0 0], .int .u32 0, .int .i64 0] : Array Value).toList 8 = some ([.lit (.string []), .agg [.lit (.int .u8 0), .nil, .nil], .lit (.int .u32 0), .lit (.int .i64 0)], [], places) :=
  ⟨[], by kernel_rfl⟩
theorem answerRows_lifted (os : Os) (started : os.Started) (H : Type) (enc : TypeId × Value → H) (F : Stop.Interp) :
    ReturnsInHanded {} Tryz.checked os 8 .any ((OpenSpec.ofChange Rows.answerRowsSpec).preRow enc Tryz.prog Tryz.f8 Rows.answerRowsRow.domain false Rows.answerRowsRow.laid) (((OpenSpec.ofChange Rows.answerRowsSpec).at F).post enc Tryz.prog Tryz.f8 false true false false) := by
  obtain ⟨places, hx⟩ := answerRows_reads os enc
  refine returnsInHanded_of_row (C := Tryz.checked) (s := OpenSpec.ofChange Rows.answerRowsSpec) own_knob started (by kernel_rfl) Tryz.func8
    (witness_row_at (enc := enc) (C := Tryz.checked) false (laidWorld os) #[.string ⟨#[]⟩, .agg #[.int .u8 0, .slice none 0 0, .slice none 0 0], .int .u32 0, .int .i64 0] rfl (by kernel_rfl) (by kernel_rfl) (by kernel_rfl)
      (OpenSpec.preRow_of_cond 8 hx (by kernel_rfl) (fun k hk => by cases hk) (by kernel_rfl) (laid_met os _))) ?_
  intro W base args ds gs before hval hW _ _ hsz hL _ _
  exact answerRows_contract H enc W base args ds gs before hval hW hsz hL
theorem answerRows_said : Rows.AnswerRowsSaid :=
  OpenClaim.holds_of_cond 8 Tryz.f8 rfl rfl rfl rfl rfl rfl rfl ⟨rfl, rfl, rfl, rfl, rfl⟩ rfl rfl rfl rfl rfl (by kernel_rfl) Tryz.func8 (by kernel_rfl)
    (of_decide_eq_true (by kernel_rfl)) (by unfold Func.isWrapper; first | (rw [if_pos (by decide +kernel)]; kernel_rfl) | (rw [if_neg (by decide +kernel)]; exact ⟨rfl, rfl⟩))
    (fun os started H enc _ F => by rw [OpenClaim.pre_eq_preRow]; exact answerRows_lifted os started H enc F)
/-- THE CARD. -/
theorem answerRows_card : Rows.AnswerRowsCardSaid :=
  Claim7.holds_tied_plain_at .later [] _ _ _ _ answerRows_said (fun _ h => by cases h) (by kernel_rfl) (fun _ h => by cases h) answerRows_row_tie rfl ⟨rfl, rfl⟩ (by kernel_rfl) rfl
    (fun f fn hf hfn => by
      obtain rfl : f = 8 := Option.some.inj ((show Tryz.prog.funcNamed Rows.answerRowsRow.func = some 8 by kernel_rfl).symm.trans hf) |>.symm
      obtain rfl : fn = Tryz.f8 := (Option.some.inj (Tryz.func8.symm.trans hfn)).symm
      refine ⟨by kernel_rfl, fun j t ht => ?_⟩
      have h : (Tryz.f8.params.toList.all fun t => !Tryz.prog.wantsStandIn t) = true := by kernel_rfl
      have h2 := List.all_eq_true.1 h t (by simpa using Array.mem_of_getElem? ht)
      exact (by simpa using h2 : Tryz.prog.wantsStandIn t = false))
    (by kernel_rfl)
#print axioms answerRows_card
end Go.Proofs.YtebkdcamblifoaaGreatDoor
