/- Contracts of functions and plain lemmas that the proofs of this seat share (joined texts). No condition. -/
import Derived.Test.YtdnpmapelmjfpaaGreatDoorRrz
namespace Go.Proofs.YtdnpmapelmjfpaaGreatDoor
set_option linter.unusedSimpArgs false
set_option linter.unusedVariables false
open Go.RowKit
set_option maxRecDepth 100000
set_option maxHeartbeats 4000000 in
theorem ref7_records (l : List RecD) (v1 v2 : Value) (w : World) (h1 : Recs w 0 v1 l) (h2 : Recs w 0 v2 l) :
    Calls Tryz.prog 49 #[v1, v2] w fun e w' => e = .returned (.bool true) ∧ Ext w w' := by
  obtain ⟨A, c, rfl, a1, a2, ar⟩ := h1
  obtain ⟨B, d, rfl, b1, b2, br⟩ := h2
  unfold maxLen at a2 b2
  go_enter Tryz.func49, Tryz.ntmps49
  go_wp2_with fail
  go_loopw [5] (fun s5 wr => ∃ k : Nat, k ≤ l.length ∧ s5 = .int .i64 k ∧ Ext w wr) (fun s5 _ => l.length - (intOf s5).toNat)
  case atStart => exact ⟨0, Nat.zero_le _, rfl, Ext.refl _⟩
  case round =>
    obtain ⟨k, hk, rfl, hE⟩ := hrel
    obtain ⟨wo, rfl⟩ : ∃ wo : World, wo = wr := ⟨_, rfl⟩
    by_cases hlt : k < l.length
    · obtain ⟨b, off, rfl, _, hbz, hc⟩ := (ar.ext hE).2 (by omega)
      obtain ⟨b2', off2, rfl, _, hbz2, hc2⟩ := (br.ext hE).2 (by omega)
      obtain ⟨x0, x1, x2, x3, x4⟩ := recs_cells hc k l[k] (List.getElem?_eq_getElem hlt)
      obtain ⟨y0, y1, y2, y3, y4⟩ := recs_cells hc2 k l[k] (List.getElem?_eq_getElem hlt)
      generalize l[k] = r at *
      have hki : (k : Int) < (l.length : Int) := by omega
      have hk0 : (0 : Int) ≤ (k : Int) := by omega
      clear hc hc2
      go_upto_region 6 with fail
      go_region
      go_wp2_with fail
      go_roundw
      case rel => exact ⟨k + 1, by omega, by go_num, hE.drew⟩
      case measure => simp [intOf]; omega
    · obtain rfl : k = l.length := by omega
      go_wp2_with fail
      go_ret
      exact ⟨rfl, hE⟩
set_option maxHeartbeats 4000000 in
theorem ref7_questions (l : List QD) (v1 v2 : Value) (w : World) (h1 : Qus w 0 v1 l) (h2 : Qus w 0 v2 l) :
    Calls Tryz.prog 48 #[v1, v2] w fun e w' => e = .returned (.bool true) ∧ Ext w w' := by
  obtain ⟨A, c, rfl, a1, a2, ar⟩ := h1
  obtain ⟨B, d, rfl, b1, b2, br⟩ := h2
  unfold maxLen at a2 b2
  go_enter Tryz.func48, Tryz.ntmps48
  go_wp2_with fail
  go_loopw [5] (fun s5 wr => ∃ k : Nat, k ≤ l.length ∧ s5 = .int .i64 k ∧ Ext w wr) (fun s5 _ => l.length - (intOf s5).toNat)
  case atStart => exact ⟨0, Nat.zero_le _, rfl, Ext.refl _⟩
  case round =>
    obtain ⟨k, hk, rfl, hE⟩ := hrel
    obtain ⟨wo, rfl⟩ : ∃ wo : World, wo = wr := ⟨_, rfl⟩
    by_cases hlt : k < l.length
    · obtain ⟨b, off, rfl, _, hbz, hc⟩ := (ar.ext hE).2 (by omega)
      obtain ⟨b2', off2, rfl, _, hbz2, hc2⟩ := (br.ext hE).2 (by omega)
      obtain ⟨x0, x1, x2⟩ := qus_cells hc k l[k] (List.getElem?_eq_getElem hlt)
      obtain ⟨y0, y1, y2⟩ := qus_cells hc2 k l[k] (List.getElem?_eq_getElem hlt)
      generalize l[k] = r at *
      have hki : (k : Int) < (l.length : Int) := by omega
      have hk0 : (0 : Int) ≤ (k : Int) := by omega
      clear hc hc2
      go_upto_region 6 with fail
      go_region
      go_wp2_with fail
      go_roundw
      case rel => exact ⟨k + 1, by omega, by go_num, hE.drew⟩
      case measure => simp [intOf]; omega
    · obtain rfl : k = l.length := by omega
      go_wp2_with fail
      go_ret
      exact ⟨rfl, hE⟩
set_option maxHeartbeats 4000000 in
theorem ref6_same (e : EdD) (v1 v2 : Value) (w : World) (h1 : Opts w 0 v1 e.opts) (h2 : Opts w 0 v2 e.opts) :
    Calls Tryz.prog 50 #[edV7 e v1, edV7 e v2] w fun x w' => x = .returned (.bool true) ∧ Ext w w' := by
  obtain ⟨es, ee, ev, ef, l⟩ := e
  dsimp only at h1 h2 ⊢
  obtain ⟨A, c, rfl, a1, a2, ar⟩ := h1
  obtain ⟨B, d, rfl, b1, b2, br⟩ := h2
  unfold maxLen at a2 b2
  obtain ⟨X0, hX0⟩ : ∃ X0, X0 = (w.alloc (.cells #[.int .u16 es, .int .u8 ee, .int .u8 ev, .int .u16 ef, .slice A l.length c] 43)).alloc (.cells #[.int .u16 es, .int .u8 ee, .int .u8 ev, .int .u16 ef, .slice B l.length d] 43) := ⟨_, rfl⟩
  have hw0 : Ext w X0 := by rw [hX0]; exact ((Ext.refl _).alloc _).alloc _
  have r1 : X0.heap[w.heap.size + 1]? = some (.cells #[.int .u16 es, .int .u8 ee, .int .u8 ev, .int .u16 ef, .slice B l.length d] 43) := by rw [hX0]; exact heap_alloc2_new w _ _
  have r0 : X0.heap[w.heap.size]? = some (.cells #[.int .u16 es, .int .u8 ee, .int .u8 ev, .int .u16 ef, .slice A l.length c] 43) := by
    rw [hX0]
    have h1 := heap_alloc_new w (.cells #[.int .u16 es, .int .u8 ee, .int .u8 ev, .int .u16 ef, .slice A l.length c] 43)
    rw [heap_alloc_old _ _ (Array.getElem?_eq_some_iff.1 h1).1]; exact h1
  go_enter Tryz.func50, Tryz.ntmps50
  go_upto_region 1 with fail
  have hzz : (w.alloc (.cells #[.int .u16 es, .int .u8 ee, .int .u8 ev, .int .u16 ef, .slice A l.length c] 43)).alloc (.cells #[.int .u16 es, .int .u8 ee, .int .u8 ev, .int .u16 ef, .slice B l.length d] 43) = X0 := hX0.symm
  rw [hzz]
  clear hzz hX0
  have x0 := box_cell (j := 0) r0 rfl
  have x1 := box_cell (j := 1) r0 rfl
  have x2 := box_cell (j := 2) r0 rfl
  have x3 := box_cell (j := 3) r0 rfl
  have x4 := box_cell (j := 4) r0 rfl
  have y0 := box_cell (j := 0) r1 rfl
  have y1 := box_cell (j := 1) r1 rfl
  have y2 := box_cell (j := 2) r1 rfl
  have y3 := box_cell (j := 3) r1 rfl
  have y4 := box_cell (j := 4) r1 rfl
  go_wp2_with fail
  clear x0 x1 x2 x3 x4 y0 y1 y2 y3 y4
  go_loopw [5] (fun s5 wr => ∃ k : Nat, k ≤ l.length ∧ s5 = .int .i64 k ∧ Ext X0 wr) (fun s5 _ => l.length - (intOf s5).toNat)
  case atStart => exact ⟨0, Nat.zero_le _, rfl, Ext.refl _⟩
  case round =>
    obtain ⟨k, hk, rfl, hE⟩ := hrel
    obtain ⟨wo, rfl⟩ : ∃ wo : World, wo = wr := ⟨_, rfl⟩
    have q0 := (hE.block _ (Array.getElem?_eq_some_iff.1 r0).1).trans r0
    have q1 := (hE.block _ (Array.getElem?_eq_some_iff.1 r1).1).trans r1
    have x4 := box_cell (j := 4) q0 rfl
    have y4 := box_cell (j := 4) q1 rfl
    have hwo := hw0.trans hE
    by_cases hlt : k < l.length
    · obtain ⟨b, off, rfl, _, hbz, hc⟩ := (ar.ext hwo).2 (by omega)
      obtain ⟨b2', off2, rfl, _, hbz2, hc2⟩ := (br.ext hwo).2 (by omega)
      obtain ⟨u0, u1⟩ := opts_cells hc k l[k] (List.getElem?_eq_getElem hlt)
      obtain ⟨t0, t1⟩ := opts_cells hc2 k l[k] (List.getElem?_eq_getElem hlt)
      generalize l[k] = o at *
      have hki : (k : Int) < (l.length : Int) := by omega
      have hk0 : (0 : Int) ≤ (k : Int) := by omega
      clear hc hc2
      go_upto_region 6 with fail
      go_region
      go_wp2_with fail
      go_roundw
      case rel => exact ⟨k + 1, by omega, by go_num, hE.drew⟩
      case measure => simp [intOf]; omega
    · obtain rfl : k = l.length := by omega
      go_wp2_with fail
      go_ret
      exact ⟨rfl, hwo⟩
set_option maxHeartbeats 4000000 in
theorem ref7_same (m : MsgD) (q a u x o q' a' u' x' o' : Value) (w : World) (h1 : Msg7 w m q a u x o) (h2 : Msg7 w m q' a' u' x' o') :
    Calls Tryz.prog 21 #[msg7V m.hd q a u x m.he m.ed o, msg7V m.hd q' a' u' x' m.he m.ed o'] w fun e w' => e = .returned (.bool true) ∧ Ext w w' := by
  have H1 := Lib.hid h1
  have H2 := Lib.hid h2
  obtain ⟨⟨qA, qAc, rfl, _, _, _⟩, ⟨aA, aAc, rfl, _, _, _⟩, ⟨uA, uAc, rfl, _, _, _⟩, ⟨xA, xAc, rfl, _, _, _⟩, ⟨oA, oAc, rfl, _, _, _⟩, _, _, _, _, _⟩ := h1
  obtain ⟨⟨qB, qBc, rfl, _, _, _⟩, ⟨aB, aBc, rfl, _, _, _⟩, ⟨uB, uBc, rfl, _, _, _⟩, ⟨xB, xBc, rfl, _, _, _⟩, ⟨oB, oBc, rfl, _, _, _⟩, _, _, _, _, _⟩ := h2
  obtain ⟨X0, hX0⟩ : ∃ X0, X0 = (w.alloc (.cells #[.int .u16 m.hd.id, .bool m.hd.qr, .int .u8 m.hd.op, .bool m.hd.aa, .bool m.hd.tc, .bool m.hd.rd, .bool m.hd.ra, .bool m.hd.z, .bool m.hd.ad, .bool m.hd.cd, .int .u8 m.hd.code, .slice qA m.qs.length qAc, .slice aA m.ans.length aAc, .slice uA m.auth.length uAc, .slice xA m.extra.length xAc, .bool m.he, .int .u16 m.ed.size, .int .u8 m.ed.ext, .int .u8 m.ed.ver, .int .u16 m.ed.flags, .slice oA m.ed.opts.length oAc] 45)).alloc (.cells #[.int .u16 m.hd.id, .bool m.hd.qr, .int .u8 m.hd.op, .bool m.hd.aa, .bool m.hd.tc, .bool m.hd.rd, .bool m.hd.ra, .bool m.hd.z, .bool m.hd.ad, .bool m.hd.cd, .int .u8 m.hd.code, .slice qB m.qs.length qBc, .slice aB m.ans.length aBc, .slice uB m.auth.length uBc, .slice xB m.extra.length xBc, .bool m.he, .int .u16 m.ed.size, .int .u8 m.ed.ext, .int .u8 m.ed.ver, .int .u16 m.ed.flags, .slice oB m.ed.opts.length oBc] 45) := ⟨_, rfl⟩
  have hw0 : Ext w X0 := by rw [hX0]; exact ((Ext.refl _).alloc _).alloc _
  have r1 : X0.heap[w.heap.size + 1]? = some (.cells #[.int .u16 m.hd.id, .bool m.hd.qr, .int .u8 m.hd.op, .bool m.hd.aa, .bool m.hd.tc, .bool m.hd.rd, .bool m.hd.ra, .bool m.hd.z, .bool m.hd.ad, .bool m.hd.cd, .int .u8 m.hd.code, .slice qB m.qs.length qBc, .slice aB m.ans.length aBc, .slice uB m.auth.length uBc, .slice xB m.extra.length xBc, .bool m.he, .int .u16 m.ed.size, .int .u8 m.ed.ext, .int .u8 m.ed.ver, .int .u16 m.ed.flags, .slice oB m.ed.opts.length oBc] 45) := by rw [hX0]; exact heap_alloc2_new w _ _
  have r0 : X0.heap[w.heap.size]? = some (.cells #[.int .u16 m.hd.id, .bool m.hd.qr, .int .u8 m.hd.op, .bool m.hd.aa, .bool m.hd.tc, .bool m.hd.rd, .bool m.hd.ra, .bool m.hd.z, .bool m.hd.ad, .bool m.hd.cd, .int .u8 m.hd.code, .slice qA m.qs.length qAc, .slice aA m.ans.length aAc, .slice uA m.auth.length uAc, .slice xA m.extra.length xAc, .bool m.he, .int .u16 m.ed.size, .int .u8 m.ed.ext, .int .u8 m.ed.ver, .int .u16 m.ed.flags, .slice oA m.ed.opts.length oAc] 45) := by
    rw [hX0]
    have h1 := heap_alloc_new w (.cells #[.int .u16 m.hd.id, .bool m.hd.qr, .int .u8 m.hd.op, .bool m.hd.aa, .bool m.hd.tc, .bool m.hd.rd, .bool m.hd.ra, .bool m.hd.z, .bool m.hd.ad, .bool m.hd.cd, .int .u8 m.hd.code, .slice qA m.qs.length qAc, .slice aA m.ans.length aAc, .slice uA m.auth.length uAc, .slice xA m.extra.length xAc, .bool m.he, .int .u16 m.ed.size, .int .u8 m.ed.ext, .int .u8 m.ed.ver, .int .u16 m.ed.flags, .slice oA m.ed.opts.length oAc] 45)
    rw [heap_alloc_old _ _ (Array.getElem?_eq_some_iff.1 h1).1]; exact h1
  have HQ := Lib.hid (fun V (hV : Ext w V) => ref7_questions m.qs _ _ V (H1.out.qs.ext hV) (H2.out.qs.ext hV))
  have HA := Lib.hid (fun V (hV : Ext w V) => ref7_records m.ans _ _ V (H1.out.ans.ext hV) (H2.out.ans.ext hV))
  have HU := Lib.hid (fun V (hV : Ext w V) => ref7_records m.auth _ _ V (H1.out.auth.ext hV) (H2.out.auth.ext hV))
  have HX := Lib.hid (fun V (hV : Ext w V) => ref7_records m.extra _ _ V (H1.out.extra.ext hV) (H2.out.extra.ext hV))
  have HO := Lib.hid (fun V (hV : Ext w V) => ref6_same m.ed _ _ V (H1.out.opts.ext hV) (H2.out.opts.ext hV))
  have K0 := Lib.hid (fun V (hV : Ext X0 V) => (hV.block _ (Array.getElem?_eq_some_iff.1 r0).1).trans r0)
  have K1 := Lib.hid (fun V (hV : Ext X0 V) => (hV.block _ (Array.getElem?_eq_some_iff.1 r1).1).trans r1)
  go_enter Tryz.func21, Tryz.ntmps21
  go_upto_region 1 with fail
  have hzz : (w.alloc (.cells #[.int .u16 m.hd.id, .bool m.hd.qr, .int .u8 m.hd.op, .bool m.hd.aa, .bool m.hd.tc, .bool m.hd.rd, .bool m.hd.ra, .bool m.hd.z, .bool m.hd.ad, .bool m.hd.cd, .int .u8 m.hd.code, .slice qA m.qs.length qAc, .slice aA m.ans.length aAc, .slice uA m.auth.length uAc, .slice xA m.extra.length xAc, .bool m.he, .int .u16 m.ed.size, .int .u8 m.ed.ext, .int .u8 m.ed.ver, .int .u16 m.ed.flags, .slice oA m.ed.opts.length oAc] 45)).alloc (.cells #[.int .u16 m.hd.id, .bool m.hd.qr, .int .u8 m.hd.op, .bool m.hd.aa, .bool m.hd.tc, .bool m.hd.rd, .bool m.hd.ra, .bool m.hd.z, .bool m.hd.ad, .bool m.hd.cd, .int .u8 m.hd.code, .slice qB m.qs.length qBc, .slice aB m.ans.length aBc, .slice uB m.auth.length uBc, .slice xB m.extra.length xBc, .bool m.he, .int .u16 m.ed.size, .int .u8 m.ed.ext, .int .u8 m.ed.ver, .int .u16 m.ed.flags, .slice oB m.ed.opts.length oBc] 45) = X0 := hX0.symm
  rw [hzz]
  clear hzz hX0
  have a11 := box_cell (j := 11) r0 rfl
  have b11 := box_cell (j := 11) r1 rfl
  go_wp2_with (first
    | (refine wpList_load_part (by rfl) 30 (.tmp 5) rfl w.heap.size 0 rfl [.int .u16 m.hd.id, .bool m.hd.qr, .int .u8 m.hd.op, .bool m.hd.aa, .bool m.hd.tc, .bool m.hd.rd, .bool m.hd.ra, .bool m.hd.z, .bool m.hd.ad, .bool m.hd.cd, .int .u8 m.hd.code] (row_part r0 0 11) _ Tryz.underlying30 rfl (by kernel_rfl) ?_)
    | (refine wpList_load_part (by rfl) 30 (.tmp 7) rfl (w.heap.size + 1) 0 rfl [.int .u16 m.hd.id, .bool m.hd.qr, .int .u8 m.hd.op, .bool m.hd.aa, .bool m.hd.tc, .bool m.hd.rd, .bool m.hd.ra, .bool m.hd.z, .bool m.hd.ad, .bool m.hd.cd, .int .u8 m.hd.code] (row_part r1 0 11) _ Tryz.underlying30 rfl (by kernel_rfl) ?_)
    | fail)
  refine (HQ.out _ hw0).mono ?_
  rintro e w1 ⟨rfl, hE1⟩
  have hX1 : Ext X0 w1 := (Ext.refl X0).trans hE1
  have hw1 : Ext w w1 := hw0.trans hX1
  have p0 := K0.out _ hX1
  have p1 := K1.out _ hX1
  have c0 := box_cell (j := 12) p0 rfl
  have c1 := box_cell (j := 12) p1 rfl
  go_wp2_with fail
  clear c0 c1 p0 p1
  refine (HA.out _ hw1).mono ?_
  rintro e w2 ⟨rfl, hE2⟩
  have hX2 : Ext X0 w2 := hX1.trans hE2
  have hw2 : Ext w w2 := hw0.trans hX2
  have p0 := K0.out _ hX2
  have p1 := K1.out _ hX2
  have c0 := box_cell (j := 13) p0 rfl
  have c1 := box_cell (j := 13) p1 rfl
  go_wp2_with fail
  clear c0 c1 p0 p1
  refine (HU.out _ hw2).mono ?_
  rintro e w3 ⟨rfl, hE3⟩
  have hX3 : Ext X0 w3 := hX2.trans hE3
  have hw3 : Ext w w3 := hw0.trans hX3
  have p0 := K0.out _ hX3
  have p1 := K1.out _ hX3
  have c0 := box_cell (j := 14) p0 rfl
  have c1 := box_cell (j := 14) p1 rfl
  go_wp2_with fail
  clear c0 c1 p0 p1
  refine (HX.out _ hw3).mono ?_
  rintro e w4 ⟨rfl, hE4⟩
  have hX4 : Ext X0 w4 := hX3.trans hE4
  have hw4 : Ext w w4 := hw0.trans hX4
  have p0 := K0.out _ hX4
  have p1 := K1.out _ hX4
  have c0 := box_cell (j := 15) p0 rfl
  have c1 := box_cell (j := 15) p1 rfl
  go_wp2_with (first
    | (refine wpList_load_part (by rfl) 43 (.tmp 46) rfl w.heap.size 16 rfl [.int .u16 m.ed.size, .int .u8 m.ed.ext, .int .u8 m.ed.ver, .int .u16 m.ed.flags, .slice oA m.ed.opts.length oAc] (row_part p0 16 5) _ Tryz.underlying43 rfl (by kernel_rfl) ?_)
    | (refine wpList_load_part (by rfl) 43 (.tmp 48) rfl (w.heap.size + 1) 16 rfl [.int .u16 m.ed.size, .int .u8 m.ed.ext, .int .u8 m.ed.ver, .int .u16 m.ed.flags, .slice oB m.ed.opts.length oBc] (row_part p1 16 5) _ Tryz.underlying43 rfl (by kernel_rfl) ?_)
    | fail)
  refine (HO.out _ hw4).mono ?_
  rintro e w5 ⟨rfl, hE5⟩
  go_wp2_with fail
  go_ret
  exact ⟨rfl, hw4.trans hE5⟩
end Go.Proofs.YtdnpmapelmjfpaaGreatDoor
