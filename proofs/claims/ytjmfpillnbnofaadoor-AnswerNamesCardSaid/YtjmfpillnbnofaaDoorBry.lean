/- Contracts of functions and plain lemmas that the proofs of this seat share (joined texts). No condition. -/
import Derived.Test.YtjmfpillnbnofaaDoorBrx
import Derived.Test.YtjmfpillnbnofaaDoorBwp
namespace Go.Proofs.YtjmfpillnbnofaaDoor
set_option linter.unusedSimpArgs false
set_option linter.unusedVariables false
open Go.RowKit
set_option maxRecDepth 100000

abbrev quV (q : QD) : Value := .agg #[S q.name, .int .u16 q.typ, .int .u16 q.cls]
/-- The cells of what came. -/
abbrev caRow (kind code : Int) (h : HdD) (hasQ : Bool) (q : QD) (hasE : Bool) (size : Int) : Array Value :=
  #[.int .u8 kind, .int .i64 code, .int .u16 h.id, .bool h.qr, .int .u8 h.op, .bool h.aa, .bool h.tc, .bool h.rd, .bool h.ra, .bool h.z, .bool h.ad, .bool h.cd, .int .u8 h.code, .bool hasQ, S q.name, .int .u16 q.typ, .int .u16 q.cls, .bool hasE, .int .i64 size]
abbrev caV (c : CameD) : Value := .agg (caRow c.kind c.code c.hd c.hasQ c.q c.hasE c.size)
abbrev toRow (code : Int) (h : HdD) (hasQ : Bool) (q : QD) (hasE : Bool) (size k : Int) : Array Value :=
  #[.int .u8 0, .int .i64 0, .int .u16 h.id, .bool h.qr, .int .u8 h.op, .bool h.aa, .bool h.tc, .bool h.rd, .bool h.ra, .bool h.z, .bool h.ad, .bool h.cd, .int .u8 h.code, .bool hasQ, S q.name, .int .u16 q.typ, .int .u16 q.cls, .bool hasE, .int .i64 size, .int .i64 k]
theorem alloc_setRow7 (w : World) (zs cs : Array Value) (t : TypeId) (g : Nat) (hg : g = w.heap.size) : (w.alloc (.cells zs t)).setRow g cs = w.alloc (.cells cs t) := by
  subst hg
  unfold World.setRow World.alloc
  simp only
  congr 1
  apply Array.ext_getElem?
  intro i
  simp only [Array.getElem?_modify, Array.getElem?_push]
  by_cases h : i = w.heap.size
  · subst h; simp
  · rw [if_neg (fun e => h e.symm), if_neg h, if_neg h]
def exV (c : CameD) : Value :=
  if c.kind = 1 then .iface 69 (.agg #[])
  else if c.kind = 2 then .iface 43 (.agg (toRow 0 c.hd c.hasQ c.q c.hasE c.size c.code))
  else .iface 46 (.agg (caRow 0 0 c.hd c.hasQ c.q c.hasE c.size))
set_option maxHeartbeats 1000000 in
theorem int_refused (q : QD) (w : World) : Calls Tryd.prog 18 #[quV q] w fun e w' => e = .returned (.bool (refusedQ q)) ∧ Ext w w' := by
  obtain ⟨n, t, c⟩ := q
  obtain ⟨B, hB⟩ : ∃ B, B = refusedQ ⟨n, t, c⟩ := ⟨_, rfl⟩
  rw [← hB]
  have HB := Lib.hid (show B = decide (c ≠ 1 ∨ t = 0 ∨ t = 41 ∨ (249 ≤ t ∧ t ≤ 255)) from hB)
  clear hB
  by_cases h1 : c = 1
  · subst h1
    by_cases h2 : t = 0
    · subst h2
      have HF := Lib.hid (show B = true by rw [HB.out]; simp)
      go_enter Tryd.func18, Tryd.ntmps18
      go_wp2_with fail
      go_ret
      exact ⟨ret_bool HF.out.symm, (Ext.refl _).alloc _⟩
    · have f2 : (t == 0) = false := by rw [beq_eq_false_iff_ne]; exact h2
      by_cases h3 : t = 41
      · subst h3
        have HF := Lib.hid (show B = true by rw [HB.out]; simp)
        go_enter Tryd.func18, Tryd.ntmps18
        go_wp2_with fail
        go_ret
        exact ⟨ret_bool HF.out.symm, (Ext.refl _).alloc _⟩
      · have f3 : (t == 41) = false := by rw [beq_eq_false_iff_ne]; exact h3
        by_cases h4 : 249 ≤ t
        · by_cases h5 : t ≤ 255
          · have HF := Lib.hid (show B = true by rw [HB.out, decide_eq_true_eq]; exact .inr (.inr (.inr ⟨h4, h5⟩)))
            clear h2 h3
            go_enter Tryd.func18, Tryd.ntmps18
            go_wp2_with fail
            go_ret
            exact ⟨ret_bool HF.out.symm, (Ext.refl _).alloc _⟩
          · have HF := Lib.hid (show B = false by rw [HB.out, decide_eq_false_iff_not]; omega)
            clear h2 h3
            go_enter Tryd.func18, Tryd.ntmps18
            go_wp2_with fail
            go_ret
            exact ⟨ret_bool HF.out.symm, (Ext.refl _).alloc _⟩
        · have HF := Lib.hid (show B = false by rw [HB.out, decide_eq_false_iff_not]; omega)
          clear h2 h3
          go_enter Tryd.func18, Tryd.ntmps18
          go_wp2_with fail
          go_ret
          exact ⟨ret_bool HF.out.symm, (Ext.refl _).alloc _⟩
  · have f1 : (c == 1) = false := by rw [beq_eq_false_iff_ne]; exact h1
    have HF := Lib.hid (show B = true by rw [HB.out, decide_eq_true_eq]; exact .inl h1)
    clear h1
    go_enter Tryd.func18, Tryd.ntmps18
    go_wp2_with fail
    go_ret
    exact ⟨ret_bool HF.out.symm, (Ext.refl _).alloc _⟩
def ExPost (d : List UInt8) (w : World) (e : Ending) (w' : World) : Prop := e = .returned (exV (lookOf d)) ∧ Ext w w'
set_option maxHeartbeats 4000000 in
theorem int_examine (d : List UInt8) (w : World) (hg : Laid w) (hb : BitsAt w) (hd : d.length ≤ 1048576) :
    Calls Tryd.prog 9 #[S d] w (ExPost d w) := by
  by_cases hshort : d.length < 12
  · have HF := Lib.hid (show lookOf d = cameDrop by unfold lookOf; rw [if_pos hshort])
    have HR := Lib.hid (head_read_no d w hshort)
    clear hshort
    go_enter Tryd.func9, Tryd.ntmps9
    go_wp2_with fail
    refine HR.out.mono ?_; rintro e w1 ⟨rfl, hE1⟩
    go_wp2_with fail
    go_ret
    exact ⟨by rw [HF.out]; rfl, (hE1.alloc _).alloc _⟩
  have HR := Lib.hid (head_read d w hg hb (by omega) (by unfold maxLen; omega))
  obtain ⟨hdr, hhd⟩ : ∃ hdr, hdr = fromN (n16 d 0) (n16 d 2) := ⟨_, rfl⟩
  rw [← hhd] at HR
  have hlook : lookOf d = (if hdr.qr = true then cameDrop
    else if hdr.op ≠ 0 then ⟨2, 4, hdCame hdr, false, qNone, false, 0⟩
    else match decR d with
      | .error _ => ⟨2, 1, hdCame hdr, false, qNone, false, 0⟩
      | .ok m => lookM hdr m) := by unfold lookOf; rw [if_neg hshort, hhd]; rfl
  clear hshort hhd
  have HL := Lib.hid hlook
  clear hlook
  go_enter Tryd.func9, Tryd.ntmps9
  go_wp2_with fail
  refine HR.out.mono ?_; rintro e w1 ⟨rfl, hE1⟩
  obtain ⟨X1, hX1⟩ : ∃ X1, X1 = (w1.alloc (.cells #[.int .u16 hdr.id, .bool hdr.qr, .int .u8 hdr.op, .bool hdr.aa, .bool hdr.tc, .bool hdr.rd, .bool hdr.ra, .bool hdr.z, .bool hdr.ad, .bool hdr.cd, .int .u8 hdr.code] 25)).alloc (.cells #[.int .i64 (n16 d 4 : Int), .int .i64 (n16 d 6 : Int), .int .i64 (n16 d 8 : Int), .int .i64 (n16 d 10 : Int)] 65) := ⟨_, rfl⟩
  obtain ⟨b3, hb3⟩ : ∃ b3, b3 = w1.heap.size := ⟨_, rfl⟩
  have rh : X1.heap[b3]? = some (.cells #[.int .u16 hdr.id, .bool hdr.qr, .int .u8 hdr.op, .bool hdr.aa, .bool hdr.tc, .bool hdr.rd, .bool hdr.ra, .bool hdr.z, .bool hdr.ad, .bool hdr.cd, .int .u8 hdr.code] 25) := by
    rw [hX1, hb3]
    have h1 := heap_alloc_new w1 (.cells #[.int .u16 hdr.id, .bool hdr.qr, .int .u8 hdr.op, .bool hdr.aa, .bool hdr.tc, .bool hdr.rd, .bool hdr.ra, .bool hdr.z, .bool hdr.ad, .bool hdr.cd, .int .u8 hdr.code] 25)
    rw [heap_alloc_old _ _ (Array.getElem?_eq_some_iff.1 h1).1]; exact h1
  have hwX : Ext w X1 := by rw [hX1]; exact (hE1.alloc _).alloc _
  go_upto_region 2 with fail
  rw [← hX1, ← hb3]
  clear hX1 hb3 hE1 HR
  rcases hqr : hdr.qr with _ | _
  rotate_left
  · have HF := Lib.hid (show lookOf d = cameDrop by rw [HL.out, if_pos hqr])
    rw [hqr] at rh
    have z1 := box_cell (j := 1) rh rfl
    go_wp2_with fail
    go_ret
    exact ⟨by rw [HF.out]; rfl, hwX⟩
  have HL2 := Lib.hid (HL.out.trans (if_neg (by rw [hqr]; simp)))
  rw [hqr] at rh
  have z0 := box_cell (j := 0) rh rfl
  have z1 := box_cell (j := 1) rh rfl
  have z2 := box_cell (j := 2) rh rfl
  have z5 := box_cell (j := 5) rh rfl
  have z9 := box_cell (j := 9) rh rfl
  clear HL hqr
  obtain ⟨b6, hb6⟩ : ∃ b6, b6 = X1.heap.size := ⟨_, rfl⟩
  have hz6 : (X1.alloc (.cells #[.int .u8 0, .int .i64 0, .int .u16 0, .bool false, .int .u8 0, .bool false, .bool false, .bool false, .bool false, .bool false, .bool false, .bool false, .int .u8 0, .bool false, .string ⟨#[]⟩, .int .u16 0, .int .u16 0, .bool false, .int .i64 0] 29)).heap[b6]? = some (.cells #[.int .u8 0, .int .i64 0, .int .u16 0, .bool false, .int .u8 0, .bool false, .bool false, .bool false, .bool false, .bool false, .bool false, .bool false, .int .u8 0, .bool false, .string ⟨#[]⟩, .int .u16 0, .int .u16 0, .bool false, .int .i64 0] 29) := by rw [hb6]; exact heap_alloc_new _ _
  go_upto_region 4 with fail
  refine wp_region_lit ?_
  iterate 30 go_step
  refine Go.Great.wpList_allocTo rfl (some 6) rfl (.pointer (some ⟨X1.heap.size, 0, none⟩)) (.cells #[.int .u8 0, .int .i64 0, .int .u16 0, .bool false, .int .u8 0, .bool false, .bool false, .bool false, .bool false, .bool false, .bool false, .bool false, .int .u8 0, .bool false, .string ⟨#[]⟩, .int .u16 0, .int .u16 0, .bool false, .int .i64 0] 29) (by kernel_rfl) ?_
  rw [← hb6]
  refine Go.wpList_store_rowTo rfl 29 (.tmp 6) (.tmp 32) rfl rfl b6 (caRow 0 0 (hdCame hdr) false qNone false 0) rfl rfl 29 _ hz6 (by kernel_rfl) rfl (by kernel_rfl) ?_
  rw [alloc_setRow7 X1 #[.int .u8 0, .int .i64 0, .int .u16 0, .bool false, .int .u8 0, .bool false, .bool false, .bool false, .bool false, .bool false, .bool false, .bool false, .int .u8 0, .bool false, .string ⟨#[]⟩, .int .u16 0, .int .u16 0, .bool false, .int .i64 0] (caRow 0 0 (hdCame hdr) false qNone false 0) 29 b6 hb6]
  refine wpList_nil ?_
  have r6 : (X1.alloc (.cells (caRow 0 0 (hdCame hdr) false qNone false 0) 29)).heap[b6]? = some (.cells (caRow 0 0 (hdCame hdr) false qNone false 0) 29) := by rw [hb6]; exact heap_alloc_new _ _
  have hE4 : Ext X1 (X1.alloc (.cells (caRow 0 0 (hdCame hdr) false qNone false 0) 29)) := (Ext.refl _).alloc _
  obtain ⟨X4, hX4⟩ : ∃ X4, X4 = X1.alloc (.cells (caRow 0 0 (hdCame hdr) false qNone false 0) 29) := ⟨_, rfl⟩
  rw [← hX4] at r6 hE4 ⊢
  have rh4 := (hE4.block b3 (Array.getElem?_eq_some_iff.1 rh).1).trans rh
  have y2 := box_cell (j := 2) rh4 rfl
  have hw4 : Ext w X4 := hwX.trans hE4
  have hb6w : w.heap.size ≤ b6 := by rw [hb6]; exact hwX.size
  clear hX4 hz6 hb6 z0 z1 z2 z5 z9 rh hE4 rh4 hwX
  go_upto_region 5 with fail
  by_cases hop : hdr.op = 0
  rotate_left
  · have HF := Lib.hid (HL2.out.trans (if_pos hop))
    have fop : (hdr.op == 0) = false := by rw [beq_eq_false_iff_ne]; exact hop
    clear hop HL2
    go_wp2_with (first
      | (refine wpList_load_part (by rfl) 29 (.tmp 6) rfl b6 0 rfl _ (row_all r6) _ Tryd.underlying29 rfl (by kernel_rfl) ?_)
      | fail)
    go_ret
    exact ⟨by rw [HF.out]; rfl, hw4⟩
  have HL3 := Lib.hid (HL2.out.trans (if_neg (by rw [hop]; simp)))
  have fop : (hdr.op == 0) = true := by rw [beq_iff_eq]; exact hop
  have HD := Lib.hid (wire_decode d X4 (hg.ext hw4) (hb.ext hw4) hd)
  clear hop HL2
  go_upto_region 7 with fail
  refine wp_region_lit ?_
  iterate 5 go_step
  refine HD.out.mono ?_; rintro e w5 ⟨⟨k, hk0, hk, rfl⟩ | ⟨m, q, a, u, x, o, hm, rfl, hMO, hBd⟩, hE5⟩
  · have HF := Lib.hid (show lookOf d = ⟨2, 1, hdCame hdr, false, qNone, false, 0⟩ by rw [HL3.out, hk])
    have fk : ((k : Int) == 0) = false := len_ne hk0
    clear hk hk0 HL3 HD y2
    dsimp only
    iterate 10 go_step
    obtain ⟨b7, hb7⟩ : ∃ b7, b7 = w5.heap.size := ⟨_, rfl⟩
    have hz7 : (w5.alloc (.cells msgZ 55)).heap[b7]? = some (.cells msgZ 55) := by rw [hb7]; exact heap_alloc_new _ _
    refine Go.Great.wpList_allocTo rfl (some 7) rfl (.pointer (some ⟨w5.heap.size, 0, none⟩)) (.cells msgZ 55) (by kernel_rfl) ?_
    rw [← hb7]
    refine Go.wpList_store_rowTo rfl 55 (.tmp 7) (.tmp 42) rfl rfl b7 msgZ rfl rfl 55 _ hz7 (by kernel_rfl) rfl (by kernel_rfl) ?_
    rw [alloc_setRow7 w5 msgZ msgZ 55 b7 hb7]
    iterate 3 go_step
    refine wpList_nil ?_
    rw [← hb7]
    have r7 : (w5.alloc (.cells msgZ 55)).heap[b7]? = some (.cells msgZ 55) := by rw [hb7]; exact heap_alloc_new _ _
    have hE7 : Ext w5 (w5.alloc (.cells msgZ 55)) := (Ext.refl _).alloc _
    obtain ⟨X7, hX7⟩ : ∃ X7, X7 = w5.alloc (.cells msgZ 55) := ⟨_, rfl⟩
    rw [← hX7] at r7 hE7 ⊢
    have hE47 := hE5.trans hE7
    have r67 := (hE47.block b6 (Array.getElem?_eq_some_iff.1 r6).1).trans r6
    have hw7 : Ext w X7 := hw4.trans hE47
    have hb67 : b6 < b7 := by rw [hb7]; exact Nat.lt_of_lt_of_le (Array.getElem?_eq_some_iff.1 r6).1 hE5.size
    clear hX7 hz7 hb7
    go_wp2_with (first
      | (refine wpList_load_part (by rfl) 29 (.tmp 6) rfl b6 0 rfl _ (row_all r67) _ Tryd.underlying29 rfl (by kernel_rfl) ?_)
      | fail)
    go_ret
    exact ⟨by rw [HF.out]; rfl, hw7⟩
  have HF := Lib.hid (show lookOf d = lookM hdr m by rw [HL3.out, hm])
  have hok := decR_ok hm
  have HEn := Lib.hid hok.2.2.2.1
  have hsz := hok.1.size
  clear hok HL3 HD y2 hm
  obtain ⟨⟨qA, qc, rfl, hqo⟩, ⟨aA, ac, rfl, _⟩, ⟨uA, uc, rfl, _⟩, ⟨xA, xc, rfl, _⟩, ⟨oA, oc, rfl, _⟩⟩ := hMO
  dsimp only
  iterate 10 go_step
  obtain ⟨b7, hb7⟩ : ∃ b7, b7 = w5.heap.size := ⟨_, rfl⟩
  have hz7 : (w5.alloc (.cells msgZ 55)).heap[b7]? = some (.cells msgZ 55) := by rw [hb7]; exact heap_alloc_new _ _
  refine Go.Great.wpList_allocTo rfl (some 7) rfl (.pointer (some ⟨w5.heap.size, 0, none⟩)) (.cells msgZ 55) (by kernel_rfl) ?_
  rw [← hb7]
  refine Go.wpList_store_rowTo rfl 55 (.tmp 7) (.tmp 42) rfl rfl b7 #[.int .u16 m.hd.id, .bool m.hd.qr, .int .u8 m.hd.op, .bool m.hd.aa, .bool m.hd.tc, .bool m.hd.rd, .bool m.hd.ra, .bool m.hd.z, .bool m.hd.ad, .bool m.hd.cd, .int .u8 m.hd.code, .slice qA m.qs.length qc, .slice aA m.ans.length ac, .slice uA m.auth.length uc, .slice xA m.extra.length xc, .bool m.he, .int .u16 m.ed.size, .int .u8 m.ed.ext, .int .u8 m.ed.ver, .int .u16 m.ed.flags, .slice oA m.ed.opts.length oc] rfl rfl 55 _ hz7 (by kernel_rfl) rfl (by kernel_rfl) ?_
  rw [alloc_setRow7 w5 msgZ #[.int .u16 m.hd.id, .bool m.hd.qr, .int .u8 m.hd.op, .bool m.hd.aa, .bool m.hd.tc, .bool m.hd.rd, .bool m.hd.ra, .bool m.hd.z, .bool m.hd.ad, .bool m.hd.cd, .int .u8 m.hd.code, .slice qA m.qs.length qc, .slice aA m.ans.length ac, .slice uA m.auth.length uc, .slice xA m.extra.length xc, .bool m.he, .int .u16 m.ed.size, .int .u8 m.ed.ext, .int .u8 m.ed.ver, .int .u16 m.ed.flags, .slice oA m.ed.opts.length oc] 55 b7 hb7]
  iterate 3 go_step
  refine wpList_nil ?_
  rw [← hb7]
  have r7 : (w5.alloc (.cells #[.int .u16 m.hd.id, .bool m.hd.qr, .int .u8 m.hd.op, .bool m.hd.aa, .bool m.hd.tc, .bool m.hd.rd, .bool m.hd.ra, .bool m.hd.z, .bool m.hd.ad, .bool m.hd.cd, .int .u8 m.hd.code, .slice qA m.qs.length qc, .slice aA m.ans.length ac, .slice uA m.auth.length uc, .slice xA m.extra.length xc, .bool m.he, .int .u16 m.ed.size, .int .u8 m.ed.ext, .int .u8 m.ed.ver, .int .u16 m.ed.flags, .slice oA m.ed.opts.length oc] 55)).heap[b7]? = some (.cells #[.int .u16 m.hd.id, .bool m.hd.qr, .int .u8 m.hd.op, .bool m.hd.aa, .bool m.hd.tc, .bool m.hd.rd, .bool m.hd.ra, .bool m.hd.z, .bool m.hd.ad, .bool m.hd.cd, .int .u8 m.hd.code, .slice qA m.qs.length qc, .slice aA m.ans.length ac, .slice uA m.auth.length uc, .slice xA m.extra.length xc, .bool m.he, .int .u16 m.ed.size, .int .u8 m.ed.ext, .int .u8 m.ed.ver, .int .u16 m.ed.flags, .slice oA m.ed.opts.length oc] 55) := by rw [hb7]; exact heap_alloc_new _ _
  have hE7 : Ext w5 (w5.alloc (.cells #[.int .u16 m.hd.id, .bool m.hd.qr, .int .u8 m.hd.op, .bool m.hd.aa, .bool m.hd.tc, .bool m.hd.rd, .bool m.hd.ra, .bool m.hd.z, .bool m.hd.ad, .bool m.hd.cd, .int .u8 m.hd.code, .slice qA m.qs.length qc, .slice aA m.ans.length ac, .slice uA m.auth.length uc, .slice xA m.extra.length xc, .bool m.he, .int .u16 m.ed.size, .int .u8 m.ed.ext, .int .u8 m.ed.ver, .int .u16 m.ed.flags, .slice oA m.ed.opts.length oc] 55)) := (Ext.refl _).alloc _
  obtain ⟨X7, hX7⟩ : ∃ X7, X7 = w5.alloc (.cells #[.int .u16 m.hd.id, .bool m.hd.qr, .int .u8 m.hd.op, .bool m.hd.aa, .bool m.hd.tc, .bool m.hd.rd, .bool m.hd.ra, .bool m.hd.z, .bool m.hd.ad, .bool m.hd.cd, .int .u8 m.hd.code, .slice qA m.qs.length qc, .slice aA m.ans.length ac, .slice uA m.auth.length uc, .slice xA m.extra.length xc, .bool m.he, .int .u16 m.ed.size, .int .u8 m.ed.ext, .int .u8 m.ed.ver, .int .u16 m.ed.flags, .slice oA m.ed.opts.length oc] 55) := ⟨_, rfl⟩
  rw [← hX7] at r7 hE7 ⊢
  have hE47 := hE5.trans hE7
  have r67 := (hE47.block b6 (Array.getElem?_eq_some_iff.1 r6).1).trans r6
  have hw7 : Ext w X7 := hw4.trans hE47
  have hb67 : b6 < b7 := by rw [hb7]; exact Nat.lt_of_lt_of_le (Array.getElem?_eq_some_iff.1 r6).1 hE5.size
  clear hX7 hz7 hb7
  have hqr := (hqo.ext hE7).rd
  clear hqo
  go_upto_region 9 with fail
  rcases hhe : m.he with _ | _
  · have HEd := Lib.hid (HEn.out hhe)
    have c15 := box_cell (j := 15) r7 rfl
    rw [hhe] at c15
    obtain ⟨X8, rfl⟩ : ∃ X8, X8 = X7 := ⟨_, rfl⟩
    have r68 := r67
    have r78 := r7
    have hw8 := hw7
    have hqr8 := hqr
    have c11 := box_cell (j := 11) r78 rfl
    by_cases hq1 : m.qs.length = 1
    rotate_left
    · have HF2 := Lib.hid (show lookOf d = ⟨2, 1, hdCame hdr, false, qNone, false, 0⟩ by
        rw [HF.out]
        unfold lookM
        rcases hqs : m.qs with _ | ⟨q1, _ | ⟨q2, r⟩⟩
        · rw [hhe, HEd.out]; rfl
        · rw [hqs] at hq1; exact absurd rfl hq1
        · dsimp only; rw [hhe, HEd.out]; rfl)
      have f1 : ((m.qs.length : Int) == 1) = false := by rw [beq_eq_false_iff_ne]; omega
      clear hq1
      go_wp2_with (first
      | (refine wpList_load_part (by rfl) 29 (.tmp 6) rfl b6 0 rfl _ (row_all r68) _ Tryd.underlying29 rfl (by kernel_rfl) ?_)
      | fail)
      go_ret
      exact ⟨by rw [HF2.out]; rfl, hw8⟩
    obtain ⟨q0, hq0⟩ : ∃ q0, m.qs = [q0] := by
      rcases hqs : m.qs with _ | ⟨q1, _ | ⟨q2, r⟩⟩
      · rw [hqs] at hq1; cases hq1
      · exact ⟨q1, rfl⟩
      · rw [hqs] at hq1; simp at hq1
    have hlM : lookM hdr m = if m.ed.ver ≠ 0 then ⟨2, 16, hdCame hdr, true, q0, m.he, m.ed.size⟩ else if refusedQ q0 = true then ⟨2, 5, hdCame hdr, true, q0, m.he, m.ed.size⟩ else ⟨3, 0, hdCame hdr, true, q0, m.he, m.ed.size⟩ := by unfold lookM; rw [hq0]
    rw [hhe, HEd.out] at hlM
    have HLM := Lib.hid (HF.out.trans hlM)
    clear hlM
    obtain ⟨bq, off, rfl, hlq, hbz, hc⟩ := hqr8.2 (by omega)
    obtain ⟨x0, x1, x2⟩ := qus_cells hc 0 q0 (by rw [hq0]; rfl)
    rw [Nat.zero_mul, Nat.add_zero] at x0 x1 x2
    have hbq := (spot_of x0).2
    have n1 : ¬ bq = b6 := by have := (Array.getElem?_eq_some_iff.1 r6).1; omega
    have n2 : ¬ b6 = bq := by have := (Array.getElem?_eq_some_iff.1 r6).1; omega
    have n3 : ¬ b6 = b7 := by omega
    have n4 : ¬ b7 = b6 := by omega
    rw [hq1] at c11
    have k13 := box_cell (j := 13) r68 rfl
    have k14 := box_cell (j := 14) r68 rfl
    have k15 := box_cell (j := 15) r68 rfl
    have k16 := box_cell (j := 16) r68 rfl
    have g13 := box_free (j := 13) r68
    have g14 := box_free (j := 14) r68
    have g15 := box_free (j := 15) r68
    have g16 := box_free (j := 16) r68
    have Hq0 := Lib.hid hq0
    clear hc hqr8 hq0 hq1
    go_upto_region 13 with fail
    go_region
    go_upto_region 14 with fail
    have e9 : ∀ X : World, X.drew.heap = X.heap := fun _ => rfl
    have r69 : (((((X8.setCell ⟨b6, 13, none⟩ (.bool true)).setCell ⟨b6, 14, none⟩ (S q0.name)).setCell ⟨b6, 15, none⟩ (.int .u16 q0.typ)).setCell ⟨b6, 16, none⟩ (.int .u16 q0.cls)).drew).heap[b6]? = some (.cells (caRow 0 0 (hdCame hdr) true q0 false 0) 29) := by
      rw [e9]
      have a1 := row_set r68 13 (.bool true)
      have a2 := row_set a1 14 (S q0.name)
      have a3 := row_set a2 15 (.int .u16 q0.typ)
      exact row_set a3 16 (.int .u16 q0.cls)
    have r79 := (show (((((X8.setCell ⟨b6, 13, none⟩ (.bool true)).setCell ⟨b6, 14, none⟩ (S q0.name)).setCell ⟨b6, 15, none⟩ (.int .u16 q0.typ)).setCell ⟨b6, 16, none⟩ (.int .u16 q0.cls)).drew).heap[b7]? = X8.heap[b7]? by rw [e9, Below.heap_setCell _ _ _ b7 n4, Below.heap_setCell _ _ _ b7 n4, Below.heap_setCell _ _ _ b7 n4, Below.heap_setCell _ _ _ b7 n4]).trans r78
    have hw9 : Ext w (((((X8.setCell ⟨b6, 13, none⟩ (.bool true)).setCell ⟨b6, 14, none⟩ (S q0.name)).setCell ⟨b6, 15, none⟩ (.int .u16 q0.typ)).setCell ⟨b6, 16, none⟩ (.int .u16 q0.cls)).drew) := ((((hw8.setCell (p := ⟨b6, 13, none⟩) hb6w _).setCell (p := ⟨b6, 14, none⟩) hb6w _).setCell (p := ⟨b6, 15, none⟩) hb6w _).setCell (p := ⟨b6, 16, none⟩) hb6w _).drew
    obtain ⟨X9, hX9⟩ : ∃ X9, X9 = ((((X8.setCell ⟨b6, 13, none⟩ (.bool true)).setCell ⟨b6, 14, none⟩ (S q0.name)).setCell ⟨b6, 15, none⟩ (.int .u16 q0.typ)).setCell ⟨b6, 16, none⟩ (.int .u16 q0.cls)).drew := ⟨_, rfl⟩
    rw [← hX9] at r69 r79 hw9
    rw [show ((((((X8.setCell ⟨b6, 13, none⟩ (.bool true)).setCell ⟨b6, 14, none⟩ (S q0.name)).setCell ⟨b6, 15, none⟩ (.int .u16 q0.typ)).setCell ⟨b6, 16, none⟩ (.int .u16 q0.cls)).drew) : World) = X9 from hX9.symm]
    clear hX9 k13 k14 k15 k16 g13 g14 g15 g16 c11 x0 x1 x2 e9 c15
    have d15 := box_cell (j := 15) r79 rfl
    rw [hhe] at d15
    have m14 := box_cell (j := 14) r69 rfl
    have m15 := box_cell (j := 15) r69 rfl
    have m16 := box_cell (j := 16) r69 rfl
    have HRf := Lib.hid (int_refused q0 X9)
    have HL4 := Lib.hid (HLM.out.trans (if_neg (by simp [edNone])))
    rcases hrf : refusedQ q0 with _ | _
    · have HF3 := Lib.hid (HL4.out.trans (if_neg (by rw [hrf]; simp)))
      rw [hrf] at HRf
      clear hrf
      go_wp2_with (first
        | (refine wpList_load_part (by rfl) 29 (.tmp 6) rfl b6 0 rfl _ (row_all r69) _ Tryd.underlying29 rfl (by kernel_rfl) ?_)
        | fail)
      refine HRf.out.mono ?_; rintro e w10 ⟨rfl, hE10⟩
      have r610 := (hE10.block b6 (Array.getElem?_eq_some_iff.1 r69).1).trans r69
      go_wp2_with (first
        | (refine wpList_load_part (by rfl) 29 (.tmp 6) rfl b6 0 rfl _ (row_all r610) _ Tryd.underlying29 rfl (by kernel_rfl) ?_)
        | fail)
      go_ret
      exact ⟨by rw [HF3.out]; rfl, hw9.trans hE10⟩
    · have HF3 := Lib.hid (HL4.out.trans (if_pos hrf))
      rw [hrf] at HRf
      clear hrf
      go_wp2_with (first
        | (refine wpList_load_part (by rfl) 29 (.tmp 6) rfl b6 0 rfl _ (row_all r69) _ Tryd.underlying29 rfl (by kernel_rfl) ?_)
        | fail)
      refine HRf.out.mono ?_; rintro e w10 ⟨rfl, hE10⟩
      have r610 := (hE10.block b6 (Array.getElem?_eq_some_iff.1 r69).1).trans r69
      go_wp2_with (first
        | (refine wpList_load_part (by rfl) 29 (.tmp 6) rfl b6 0 rfl _ (row_all r610) _ Tryd.underlying29 rfl (by kernel_rfl) ?_)
        | fail)
      go_ret
      exact ⟨by rw [HF3.out]; rfl, hw9.trans hE10⟩
  · have c15 := box_cell (j := 15) r7 rfl
    have c16 := box_cell (j := 16) r7 rfl
    rw [hhe] at c15
    have k17 := box_cell (j := 17) r67 rfl
    have k18 := box_cell (j := 18) r67 rfl
    have g17 := box_free (j := 17) r67
    have g18 := box_free (j := 18) r67
    have hsi := hsz.1
    have hsj := hsz.2
    have hwz : wrap64 m.ed.size = m.ed.size := by unfold wrap64; omega
    have n3 : ¬ b6 = b7 := by omega
    have n4 : ¬ b7 = b6 := by omega
    go_upto_region 10 with fail
    go_region
    go_upto_region 11 with fail
    have e9 : ∀ X : World, X.drew.heap = X.heap := fun _ => rfl
    have r68 : (((X7.setCell ⟨b6, 17, none⟩ (.bool true)).setCell ⟨b6, 18, none⟩ (.int .i64 m.ed.size)).drew).heap[b6]? = some (.cells (caRow 0 0 (hdCame hdr) false qNone true m.ed.size) 29) := by
      rw [e9]
      exact row_set (row_set r67 17 (.bool true)) 18 (.int .i64 m.ed.size)
    have r78 : (((X7.setCell ⟨b6, 17, none⟩ (.bool true)).setCell ⟨b6, 18, none⟩ (.int .i64 m.ed.size)).drew).heap[b7]? = some (.cells #[.int .u16 m.hd.id, .bool m.hd.qr, .int .u8 m.hd.op, .bool m.hd.aa, .bool m.hd.tc, .bool m.hd.rd, .bool m.hd.ra, .bool m.hd.z, .bool m.hd.ad, .bool m.hd.cd, .int .u8 m.hd.code, .slice qA m.qs.length qc, .slice aA m.ans.length ac, .slice uA m.auth.length uc, .slice xA m.extra.length xc, .bool m.he, .int .u16 m.ed.size, .int .u8 m.ed.ext, .int .u8 m.ed.ver, .int .u16 m.ed.flags, .slice oA m.ed.opts.length oc] 55) := by
      rw [e9, Below.heap_setCell _ _ _ b7 n4, Below.heap_setCell _ _ _ b7 n4]
      exact r7
    have hw8 : Ext w (((X7.setCell ⟨b6, 17, none⟩ (.bool true)).setCell ⟨b6, 18, none⟩ (.int .i64 m.ed.size)).drew) := ((hw7.setCell (p := ⟨b6, 17, none⟩) hb6w _).setCell (p := ⟨b6, 18, none⟩) hb6w _).drew
    have hqr8 : Rd (((X7.setCell ⟨b6, 17, none⟩ (.bool true)).setCell ⟨b6, 18, none⟩ (.int .i64 m.ed.size)).drew) X4.heap.size 3 qA m.qs.length (m.qs.flatMap quCells) := by
      refine hqr.keep (by simp) fun b o' hb hlo => ?_
      have hne : b ≠ b6 := by have := (Array.getElem?_eq_some_iff.1 r6).1; omega
      simp only [World.cell?]
      rw [e9, Below.heap_setCell _ _ _ b hne, Below.heap_setCell _ _ _ b hne]
    obtain ⟨X8, hX8⟩ : ∃ X8, X8 = ((X7.setCell ⟨b6, 17, none⟩ (.bool true)).setCell ⟨b6, 18, none⟩ (.int .i64 m.ed.size)).drew := ⟨_, rfl⟩
    rw [← hX8] at r68 r78 hw8 hqr8 ⊢
    clear hX8 c15 c16 k17 k18 g17 g18 e9 n3 n4
    have c15 := box_cell (j := 15) r78 rfl
    rw [hhe] at c15
    have c11 := box_cell (j := 11) r78 rfl
    by_cases hq1 : m.qs.length = 1
    rotate_left
    · have HF2 := Lib.hid (show lookOf d = ⟨2, 1, hdCame hdr, false, qNone, true, m.ed.size⟩ by
        rw [HF.out]
        unfold lookM
        rcases hqs : m.qs with _ | ⟨q1, _ | ⟨q2, r⟩⟩
        · rw [hhe]
        · rw [hqs] at hq1; exact absurd rfl hq1
        · dsimp only; rw [hhe])
      have f1 : ((m.qs.length : Int) == 1) = false := by rw [beq_eq_false_iff_ne]; omega
      clear hq1
      go_wp2_with (first
      | (refine wpList_load_part (by rfl) 29 (.tmp 6) rfl b6 0 rfl _ (row_all r68) _ Tryd.underlying29 rfl (by kernel_rfl) ?_)
      | fail)
      go_ret
      exact ⟨by rw [HF2.out]; rfl, hw8⟩
    obtain ⟨q0, hq0⟩ : ∃ q0, m.qs = [q0] := by
      rcases hqs : m.qs with _ | ⟨q1, _ | ⟨q2, r⟩⟩
      · rw [hqs] at hq1; cases hq1
      · exact ⟨q1, rfl⟩
      · rw [hqs] at hq1; simp at hq1
    have hlM : lookM hdr m = if m.ed.ver ≠ 0 then ⟨2, 16, hdCame hdr, true, q0, m.he, m.ed.size⟩ else if refusedQ q0 = true then ⟨2, 5, hdCame hdr, true, q0, m.he, m.ed.size⟩ else ⟨3, 0, hdCame hdr, true, q0, m.he, m.ed.size⟩ := by unfold lookM; rw [hq0]
    rw [hhe] at hlM
    have HLM := Lib.hid (HF.out.trans hlM)
    clear hlM
    obtain ⟨bq, off, rfl, hlq, hbz, hc⟩ := hqr8.2 (by omega)
    obtain ⟨x0, x1, x2⟩ := qus_cells hc 0 q0 (by rw [hq0]; rfl)
    rw [Nat.zero_mul, Nat.add_zero] at x0 x1 x2
    have hbq := (spot_of x0).2
    have n1 : ¬ bq = b6 := by have := (Array.getElem?_eq_some_iff.1 r6).1; omega
    have n2 : ¬ b6 = bq := by have := (Array.getElem?_eq_some_iff.1 r6).1; omega
    have n3 : ¬ b6 = b7 := by omega
    have n4 : ¬ b7 = b6 := by omega
    rw [hq1] at c11
    have k13 := box_cell (j := 13) r68 rfl
    have k14 := box_cell (j := 14) r68 rfl
    have k15 := box_cell (j := 15) r68 rfl
    have k16 := box_cell (j := 16) r68 rfl
    have g13 := box_free (j := 13) r68
    have g14 := box_free (j := 14) r68
    have g15 := box_free (j := 15) r68
    have g16 := box_free (j := 16) r68
    have Hq0 := Lib.hid hq0
    clear hc hqr8 hq0 hq1
    go_upto_region 13 with fail
    go_region
    go_upto_region 14 with fail
    have e9 : ∀ X : World, X.drew.heap = X.heap := fun _ => rfl
    have r69 : (((((X8.setCell ⟨b6, 13, none⟩ (.bool true)).setCell ⟨b6, 14, none⟩ (S q0.name)).setCell ⟨b6, 15, none⟩ (.int .u16 q0.typ)).setCell ⟨b6, 16, none⟩ (.int .u16 q0.cls)).drew).heap[b6]? = some (.cells (caRow 0 0 (hdCame hdr) true q0 true m.ed.size) 29) := by
      rw [e9]
      have a1 := row_set r68 13 (.bool true)
      have a2 := row_set a1 14 (S q0.name)
      have a3 := row_set a2 15 (.int .u16 q0.typ)
      exact row_set a3 16 (.int .u16 q0.cls)
    have r79 := (show (((((X8.setCell ⟨b6, 13, none⟩ (.bool true)).setCell ⟨b6, 14, none⟩ (S q0.name)).setCell ⟨b6, 15, none⟩ (.int .u16 q0.typ)).setCell ⟨b6, 16, none⟩ (.int .u16 q0.cls)).drew).heap[b7]? = X8.heap[b7]? by rw [e9, Below.heap_setCell _ _ _ b7 n4, Below.heap_setCell _ _ _ b7 n4, Below.heap_setCell _ _ _ b7 n4, Below.heap_setCell _ _ _ b7 n4]).trans r78
    have hw9 : Ext w (((((X8.setCell ⟨b6, 13, none⟩ (.bool true)).setCell ⟨b6, 14, none⟩ (S q0.name)).setCell ⟨b6, 15, none⟩ (.int .u16 q0.typ)).setCell ⟨b6, 16, none⟩ (.int .u16 q0.cls)).drew) := ((((hw8.setCell (p := ⟨b6, 13, none⟩) hb6w _).setCell (p := ⟨b6, 14, none⟩) hb6w _).setCell (p := ⟨b6, 15, none⟩) hb6w _).setCell (p := ⟨b6, 16, none⟩) hb6w _).drew
    obtain ⟨X9, hX9⟩ : ∃ X9, X9 = ((((X8.setCell ⟨b6, 13, none⟩ (.bool true)).setCell ⟨b6, 14, none⟩ (S q0.name)).setCell ⟨b6, 15, none⟩ (.int .u16 q0.typ)).setCell ⟨b6, 16, none⟩ (.int .u16 q0.cls)).drew := ⟨_, rfl⟩
    rw [← hX9] at r69 r79 hw9
    rw [show ((((((X8.setCell ⟨b6, 13, none⟩ (.bool true)).setCell ⟨b6, 14, none⟩ (S q0.name)).setCell ⟨b6, 15, none⟩ (.int .u16 q0.typ)).setCell ⟨b6, 16, none⟩ (.int .u16 q0.cls)).drew) : World) = X9 from hX9.symm]
    clear hX9 k13 k14 k15 k16 g13 g14 g15 g16 c11 x0 x1 x2 e9 c15
    have d15 := box_cell (j := 15) r79 rfl
    rw [hhe] at d15
    have m14 := box_cell (j := 14) r69 rfl
    have m15 := box_cell (j := 15) r69 rfl
    have m16 := box_cell (j := 16) r69 rfl
    have HRf := Lib.hid (int_refused q0 X9)
    have d18 := box_cell (j := 18) r79 rfl
    by_cases hv : m.ed.ver = 0
    rotate_left
    · have HF3 := Lib.hid (HLM.out.trans (if_pos hv))
      have fv : (m.ed.ver == 0) = false := by rw [beq_eq_false_iff_ne]; exact hv
      clear hv
      go_wp2_with (first
        | (refine wpList_load_part (by rfl) 29 (.tmp 6) rfl b6 0 rfl _ (row_all r69) _ Tryd.underlying29 rfl (by kernel_rfl) ?_)
        | fail)
      go_ret
      exact ⟨by rw [HF3.out]; rfl, hw9⟩
    have HL4 := Lib.hid (HLM.out.trans (if_neg (by rw [hv]; simp)))
    have fv : (m.ed.ver == 0) = true := by rw [beq_iff_eq]; exact hv
    clear hv
    rcases hrf : refusedQ q0 with _ | _
    · have HF3 := Lib.hid (HL4.out.trans (if_neg (by rw [hrf]; simp)))
      rw [hrf] at HRf
      clear hrf
      go_wp2_with (first
        | (refine wpList_load_part (by rfl) 29 (.tmp 6) rfl b6 0 rfl _ (row_all r69) _ Tryd.underlying29 rfl (by kernel_rfl) ?_)
        | fail)
      refine HRf.out.mono ?_; rintro e w10 ⟨rfl, hE10⟩
      have r610 := (hE10.block b6 (Array.getElem?_eq_some_iff.1 r69).1).trans r69
      go_wp2_with (first
        | (refine wpList_load_part (by rfl) 29 (.tmp 6) rfl b6 0 rfl _ (row_all r610) _ Tryd.underlying29 rfl (by kernel_rfl) ?_)
        | fail)
      go_ret
      exact ⟨by rw [HF3.out]; rfl, hw9.trans hE10⟩
    · have HF3 := Lib.hid (HL4.out.trans (if_pos hrf))
      rw [hrf] at HRf
      clear hrf
      go_wp2_with (first
        | (refine wpList_load_part (by rfl) 29 (.tmp 6) rfl b6 0 rfl _ (row_all r69) _ Tryd.underlying29 rfl (by kernel_rfl) ?_)
        | fail)
      refine HRf.out.mono ?_; rintro e w10 ⟨rfl, hE10⟩
      have r610 := (hE10.block b6 (Array.getElem?_eq_some_iff.1 r69).1).trans r69
      go_wp2_with (first
        | (refine wpList_load_part (by rfl) 29 (.tmp 6) rfl b6 0 rfl _ (row_all r610) _ Tryd.underlying29 rfl (by kernel_rfl) ?_)
        | fail)
      go_ret
      exact ⟨by rw [HF3.out]; rfl, hw9.trans hE10⟩
end Go.Proofs.YtjmfpillnbnofaaDoor
namespace Go.Proofs.YtjmfpillnbnofaaDoor
set_option linter.unusedSimpArgs false
set_option linter.unusedVariables false
open Go.RowKit
set_option maxRecDepth 100000

abbrev toldZ : Array Value := toRow 0 hdNone false qNone false 0 0
abbrev cameZ : Array Value := caRow 0 0 hdNone false qNone false 0
theorem look_drop {d : List UInt8} (h : (lookOf d).kind = 1) : lookOf d = cameDrop := by
  unfold lookOf at h ⊢
  split
  · rfl
  · rename_i h1
    rw [if_neg h1] at h
    split
    · rfl
    · rename_i h2
      rw [if_neg h2] at h
      split
      · rename_i h3; rw [if_pos h3] at h; cases h
      · rename_i h3
        rw [if_neg h3] at h
        cases hm : decR d with
        | error e => rw [hm] at h; cases h
        | ok m =>
          rw [hm] at h
          dsimp only at h ⊢
          unfold lookM at h
          split at h
          · split at h
            · cases h
            · split at h <;> cases h
          · cases h
theorem look_asks {d : List UInt8} (h : (lookOf d).kind = 3) : (lookOf d).code = 0 := by
  unfold lookOf at h ⊢
  split
  · rename_i h1; rw [if_pos h1] at h; cases h
  · rename_i h1
    rw [if_neg h1] at h
    split
    · rename_i h2; rw [if_pos h2] at h; cases h
    · rename_i h2
      rw [if_neg h2] at h
      split
      · rename_i h3; rw [if_pos h3] at h; cases h
      · rename_i h3
        rw [if_neg h3] at h
        cases hm : decR d with
        | error e => rw [hm] at h; cases h
        | ok m =>
          rw [hm] at h
          dsimp only at h ⊢
          unfold lookM at h ⊢
          split
          · rename_i q hq
            rw [hq] at h
            dsimp only at h
            split
            · rename_i h4; rw [if_pos h4] at h; cases h
            · rename_i h4
              rw [if_neg h4] at h
              split
              · rename_i h5; rw [if_pos h5] at h; cases h
              · rfl
          · rename_i hne
            exfalso
            split at h
            · rename_i q hq; exact hne q hq
            · cases h
section
variable (V : World) (h : HdD) (hasQ hasE : Bool) (q : QD) (size k : Int)
theorem ta_told0 : (Instr.typeAssert (.iface 69 (.agg #[])) 20 43 true).run Tryd.prog V = .ok (.tuple #[.agg toldZ, .bool false]) V := by kernel_rfl
theorem ta_told1 : (Instr.typeAssert (.iface 43 (.agg (toRow 0 h hasQ q hasE size k))) 20 43 true).run Tryd.prog V = .ok (.tuple #[.agg (toRow 0 h hasQ q hasE size k), .bool true]) V := by kernel_rfl
theorem ta_told2 : (Instr.typeAssert (.iface 46 (.agg (caRow 0 0 h hasQ q hasE size))) 20 43 true).run Tryd.prog V = .ok (.tuple #[.agg toldZ, .bool false]) V := by kernel_rfl
theorem ta_asked0 : (Instr.typeAssert (.iface 69 (.agg #[])) 20 46 true).run Tryd.prog V = .ok (.tuple #[.agg cameZ, .bool false]) V := by kernel_rfl
theorem ta_asked2 : (Instr.typeAssert (.iface 46 (.agg (caRow 0 0 h hasQ q hasE size))) 20 46 true).run Tryd.prog V = .ok (.tuple #[.agg (caRow 0 0 h hasQ q hasE size), .bool true]) V := by kernel_rfl
end
set_option maxHeartbeats 4000000 in
theorem int_look (d : List UInt8) (w : World) (hg : Laid w) (hb : BitsAt w) (hd : d.length ≤ 1048576) :
    Calls Tryd.prog 5 #[S d] w fun e w' => e = .returned (caV (lookOf d)) ∧ Ext w w' := by
  obtain ⟨X0, hX0⟩ : ∃ X0, X0 = w.alloc (.cells cameZ 29) := ⟨_, rfl⟩
  have hwX : Ext w X0 := by rw [hX0]; exact (Ext.refl _).alloc _
  have r0 : X0.heap[w.heap.size]? = some (.cells cameZ 29) := by rw [hX0]; exact heap_alloc_new _ _
  have hw0s := (Array.getElem?_eq_some_iff.1 r0).1
  have HE := Lib.hid (int_examine d X0 (hg.ext hwX) (hb.ext hwX) hd)
  have HK := Lib.hid (look_ok d).kind
  have HDr := Lib.hid (@look_drop d)
  have HAs := Lib.hid (@look_asks d)
  obtain ⟨c, hc⟩ : ∃ c, c = lookOf d := ⟨_, rfl⟩
  unfold ExPost at HE
  rw [← hc] at HK HDr HAs HE ⊢
  clear hc
  go_enter Tryd.func5, Tryd.ntmps5
  go_upto_region 1 with fail
  have hz0 : w.alloc (.cells #[.int .u8 0, .int .i64 0, .int .u16 0, .bool false, .int .u8 0, .bool false, .bool false, .bool false, .bool false, .bool false, .bool false, .bool false, .int .u8 0, .bool false, .string ⟨#[]⟩, .int .u16 0, .int .u16 0, .bool false, .int .i64 0] 29) = X0 := hX0.symm
  rw [hz0]
  clear hX0 hz0
  obtain ⟨kind, code, h, hasQ, q, hasE, size⟩ := c
  dsimp only at HK HDr HAs
  rcases HK.out with rfl | rfl | rfl
  rotate_left
  · have HF := Lib.hid (show exV ⟨2, code, h, hasQ, q, hasE, size⟩ = .iface 43 (.agg (toRow 0 h hasQ q hasE size code)) from rfl)
    rw [HF.out] at HE
    clear HF
    have HF := Lib.hid (rfl : (⟨2, code, h, hasQ, q, hasE, size⟩ : CameD) = ⟨2, code, h, hasQ, q, hasE, size⟩)
    have hta := fun V => ta_told1 V h hasQ hasE q size code
    go_wp2_with fail
    refine HE.out.mono ?_; rintro e w1 ⟨rfl, hww1⟩
    go_upto_region 2 with fail
    refine wp_region_lit ?_
    iterate 15 go_step
    obtain ⟨b4, hb4⟩ : ∃ b4, b4 = w1.heap.size := ⟨_, rfl⟩
    have hzb4 : (w1.alloc (.cells toldZ 43)).heap[b4]? = some (.cells toldZ 43) := by rw [hb4]; exact heap_alloc_new _ _
    refine Go.Great.wpList_allocTo rfl (some 4) rfl (.pointer (some ⟨w1.heap.size, 0, none⟩)) (.cells toldZ 43) (by kernel_rfl) ?_
    rw [← hb4]
    refine Go.wpList_store_rowTo rfl 43 (.tmp 4) (.tmp 15) rfl rfl b4 (toRow 0 h hasQ q hasE size code) rfl rfl 43 _ hzb4 (by kernel_rfl) rfl (by kernel_rfl) ?_
    rw [alloc_setRow7 w1 toldZ (toRow 0 h hasQ q hasE size code) 43 b4 hb4]
    have rb4 : (w1.alloc (.cells (toRow 0 h hasQ q hasE size code) 43)).heap[b4]? = some (.cells (toRow 0 h hasQ q hasE size code) 43) := by rw [hb4]; exact heap_alloc_new _ _
    have hEb4 : Ext w1 (w1.alloc (.cells (toRow 0 h hasQ q hasE size code) 43)) := (Ext.refl _).alloc _
    obtain ⟨X4, hX⟩ : ∃ X4, X4 = w1.alloc (.cells (toRow 0 h hasQ q hasE size code) 43) := ⟨_, rfl⟩
    rw [← hX] at rb4 hEb4 ⊢
    have hbb4 : w.heap.size < b4 := by rw [hb4]; exact Nat.lt_of_lt_of_le hw0s hww1.size
    have hwX4 : Ext X0 X4 := hww1.trans hEb4
    have hleb4 : w1.heap.size ≤ b4 := by omega
    clear hX hzb4 hb4
    iterate 3 go_step
    refine wpList_nil ?_
    have L4 := row_part rb4 0 19
    go_upto_region 4 with fail
    refine wp_region_lit ?_
    iterate 3 go_step
    refine wpList_load_part (by rfl) 29 (.tmp 18) rfl b4 0 rfl _ L4 _ Tryd.underlying29 rfl (by kernel_rfl) ?_
    obtain ⟨b6, hb6⟩ : ∃ b6, b6 = X4.heap.size := ⟨_, rfl⟩
    have hzb6 : (X4.alloc (.cells cameZ 29)).heap[b6]? = some (.cells cameZ 29) := by rw [hb6]; exact heap_alloc_new _ _
    refine Go.Great.wpList_allocTo rfl (some 6) rfl (.pointer (some ⟨X4.heap.size, 0, none⟩)) (.cells cameZ 29) (by kernel_rfl) ?_
    rw [← hb6]
    refine Go.wpList_store_rowTo rfl 29 (.tmp 6) (.tmp 19) rfl rfl b6 (caRow 0 0 h hasQ q hasE size) rfl rfl 29 _ hzb6 (by kernel_rfl) rfl (by kernel_rfl) ?_
    rw [alloc_setRow7 X4 cameZ (caRow 0 0 h hasQ q hasE size) 29 b6 hb6]
    have rb6 : (X4.alloc (.cells (caRow 0 0 h hasQ q hasE size) 29)).heap[b6]? = some (.cells (caRow 0 0 h hasQ q hasE size) 29) := by rw [hb6]; exact heap_alloc_new _ _
    have hEb6 : Ext X4 (X4.alloc (.cells (caRow 0 0 h hasQ q hasE size) 29)) := (Ext.refl _).alloc _
    obtain ⟨X6, hX⟩ : ∃ X6, X6 = X4.alloc (.cells (caRow 0 0 h hasQ q hasE size) 29) := ⟨_, rfl⟩
    rw [← hX] at rb6 hEb6 ⊢
    have hbb6 : w.heap.size < b6 := by rw [hb6]; exact Nat.lt_of_lt_of_le hw0s hwX4.size
    have hwX6 : Ext X0 X6 := hwX4.trans hEb6
    have hleb6 : X4.heap.size ≤ b6 := by omega
    clear hX hzb6 hb6
    refine wpList_nil ?_
    have hb46 : b4 < b6 := by have h1 := (Array.getElem?_eq_some_iff.1 rb4).1; omega
    have rb46 := (hEb6.block b4 (Array.getElem?_eq_some_iff.1 rb4).1).trans rb4
    have z19 := box_cell (j := 19) rb46 rfl
    have z0 := box_cell (j := 0) rb6 rfl
    have z1 := box_cell (j := 1) rb6 rfl
    have f0 := box_free (j := 0) rb6
    have f1 := box_free (j := 1) rb6
    have n1 : ¬ b4 = b6 := by omega
    have n2 : ¬ b6 = b4 := by omega
    go_upto_region 5 with fail
    go_region
    all_goals
      go_upto_region 6 with fail
      have e9 : ∀ X : World, X.drew.heap = X.heap := fun _ => rfl
      have r69 : (((X6.setCell ⟨b6, 0, none⟩ (.int .u8 2)).setCell ⟨b6, 1, none⟩ (.int .i64 code)).drew).heap[b6]? = some (.cells (caRow 2 code h hasQ q hasE size) 29) := by
        rw [e9]
        exact row_set (row_set rb6 0 (.int .u8 2)) 1 (.int .i64 code)
      have hwX9 : Ext X0 (((X6.setCell ⟨b6, 0, none⟩ (.int .u8 2)).setCell ⟨b6, 1, none⟩ (.int .i64 code)).drew) := ((hwX6.setCell (p := ⟨b6, 0, none⟩) (by dsimp only; have := hww1.size; have := hEb4.size; omega) _).setCell (p := ⟨b6, 1, none⟩) (by dsimp only; have := hww1.size; have := hEb4.size; omega) _).drew
      obtain ⟨X9, hX⟩ : ∃ X9, X9 = ((X6.setCell ⟨b6, 0, none⟩ (.int .u8 2)).setCell ⟨b6, 1, none⟩ (.int .i64 code)).drew := ⟨_, rfl⟩
      rw [← hX] at r69 hwX9 ⊢
      clear hX z19 z0 z1 f0 f1 n1 n2 e9
      have L6 := row_all r69
      have r0e := (hwX9.block _ (Array.getElem?_eq_some_iff.1 r0).1).trans r0
      go_upto_region 6 with fail
      refine wp_region_lit ?_
      repeat (first
        | (refine wpList_load_part (by rfl) 29 (.tmp 6) rfl b6 0 rfl _ L6 _ Tryd.underlying29 rfl (by kernel_rfl) ?_)
        | (refine Go.wpList_store_rowTo rfl 29 (.tmp 2) (.tmp 24) rfl rfl w.heap.size (caRow 2 code h hasQ q hasE size) rfl rfl 29 _ r0e (by kernel_rfl) rfl (by kernel_rfl) ?_)
        | go_step)
      (try simp only [Exit.inBlock, Exit.then])
      refine bodyPost_ret (results_cell_row rfl _ _ w.heap.size _ _ _ _ rfl (setRow_heap X9 w.heap.size _ _ _ _ r0e) Tryd.underlying29 rfl (by kernel_rfl)) rfl ?_
      have hfin := Below.grown (hwX.trans hwX9) (grown_row X9 w.heap.size (caRow 2 code h hasQ q hasE size)) (hwX.trans hwX9).size (fun k hk => by injection hk with hk; omega)
      exact ⟨(by first | rfl | (rw [HF.out]; done) | (rw [HF.out]; rfl)), hfin⟩
  · have HF := Lib.hid (HAs.out rfl)
    have hta := fun V => ta_told2 V h hasQ hasE q size
    have htb := fun V => ta_asked2 V h hasQ hasE q size
    have HX := Lib.hid (show exV ⟨3, code, h, hasQ, q, hasE, size⟩ = .iface 46 (.agg (caRow 0 0 h hasQ q hasE size)) from rfl)
    rw [HX.out] at HE
    clear HX
    go_wp2_with fail
    refine HE.out.mono ?_; rintro e w1 ⟨rfl, hww1⟩
    go_upto_region 2 with fail
    refine wp_region_lit ?_
    iterate 15 go_step
    obtain ⟨b4, hb4⟩ : ∃ b4, b4 = w1.heap.size := ⟨_, rfl⟩
    have hzb4 : (w1.alloc (.cells toldZ 43)).heap[b4]? = some (.cells toldZ 43) := by rw [hb4]; exact heap_alloc_new _ _
    refine Go.Great.wpList_allocTo rfl (some 4) rfl (.pointer (some ⟨w1.heap.size, 0, none⟩)) (.cells toldZ 43) (by kernel_rfl) ?_
    rw [← hb4]
    refine Go.wpList_store_rowTo rfl 43 (.tmp 4) (.tmp 15) rfl rfl b4 toldZ rfl rfl 43 _ hzb4 (by kernel_rfl) rfl (by kernel_rfl) ?_
    rw [alloc_setRow7 w1 toldZ toldZ 43 b4 hb4]
    have rb4 : (w1.alloc (.cells toldZ 43)).heap[b4]? = some (.cells toldZ 43) := by rw [hb4]; exact heap_alloc_new _ _
    have hEb4 : Ext w1 (w1.alloc (.cells toldZ 43)) := (Ext.refl _).alloc _
    obtain ⟨X4, hX⟩ : ∃ X4, X4 = w1.alloc (.cells toldZ 43) := ⟨_, rfl⟩
    rw [← hX] at rb4 hEb4 ⊢
    have hbb4 : w.heap.size < b4 := by rw [hb4]; exact Nat.lt_of_lt_of_le hw0s hww1.size
    have hwX4 : Ext X0 X4 := hww1.trans hEb4
    have hleb4 : w1.heap.size ≤ b4 := by omega
    clear hX hzb4 hb4
    iterate 3 go_step
    refine wpList_nil ?_
    go_upto_region 7 with fail
    refine wp_region_lit ?_
    iterate 15 go_step
    obtain ⟨b5, hb5⟩ : ∃ b5, b5 = X4.heap.size := ⟨_, rfl⟩
    have hzb5 : (X4.alloc (.cells cameZ 46)).heap[b5]? = some (.cells cameZ 46) := by rw [hb5]; exact heap_alloc_new _ _
    refine Go.Great.wpList_allocTo rfl (some 7) rfl (.pointer (some ⟨X4.heap.size, 0, none⟩)) (.cells cameZ 46) (by kernel_rfl) ?_
    rw [← hb5]
    refine Go.wpList_store_rowTo rfl 46 (.tmp 7) (.tmp 28) rfl rfl b5 (caRow 0 0 h hasQ q hasE size) rfl rfl 46 _ hzb5 (by kernel_rfl) rfl (by kernel_rfl) ?_
    rw [alloc_setRow7 X4 cameZ (caRow 0 0 h hasQ q hasE size) 46 b5 hb5]
    have rb5 : (X4.alloc (.cells (caRow 0 0 h hasQ q hasE size) 46)).heap[b5]? = some (.cells (caRow 0 0 h hasQ q hasE size) 46) := by rw [hb5]; exact heap_alloc_new _ _
    have hEb5 : Ext X4 (X4.alloc (.cells (caRow 0 0 h hasQ q hasE size) 46)) := (Ext.refl _).alloc _
    obtain ⟨X5, hX⟩ : ∃ X5, X5 = X4.alloc (.cells (caRow 0 0 h hasQ q hasE size) 46) := ⟨_, rfl⟩
    rw [← hX] at rb5 hEb5 ⊢
    have hbb5 : w.heap.size < b5 := by rw [hb5]; exact Nat.lt_of_lt_of_le hw0s hwX4.size
    have hwX5 : Ext X0 X5 := hwX4.trans hEb5
    have hleb5 : X4.heap.size ≤ b5 := by omega
    clear hX hzb5 hb5
    iterate 3 go_step
    refine wpList_nil ?_
    have L5 := row_all rb5
    go_upto_region 9 with fail
    refine wp_region_lit ?_
    iterate 3 go_step
    refine wpList_load_part (by rfl) 29 (.tmp 31) rfl b5 0 rfl _ L5 _ Tryd.underlying29 rfl (by kernel_rfl) ?_
    obtain ⟨b6, hb6⟩ : ∃ b6, b6 = X5.heap.size := ⟨_, rfl⟩
    have hzb6 : (X5.alloc (.cells cameZ 29)).heap[b6]? = some (.cells cameZ 29) := by rw [hb6]; exact heap_alloc_new _ _
    refine Go.Great.wpList_allocTo rfl (some 9) rfl (.pointer (some ⟨X5.heap.size, 0, none⟩)) (.cells cameZ 29) (by kernel_rfl) ?_
    rw [← hb6]
    refine Go.wpList_store_rowTo rfl 29 (.tmp 9) (.tmp 32) rfl rfl b6 (caRow 0 0 h hasQ q hasE size) rfl rfl 29 _ hzb6 (by kernel_rfl) rfl (by kernel_rfl) ?_
    rw [alloc_setRow7 X5 cameZ (caRow 0 0 h hasQ q hasE size) 29 b6 hb6]
    have rb6 : (X5.alloc (.cells (caRow 0 0 h hasQ q hasE size) 29)).heap[b6]? = some (.cells (caRow 0 0 h hasQ q hasE size) 29) := by rw [hb6]; exact heap_alloc_new _ _
    have hEb6 : Ext X5 (X5.alloc (.cells (caRow 0 0 h hasQ q hasE size) 29)) := (Ext.refl _).alloc _
    obtain ⟨X6, hX⟩ : ∃ X6, X6 = X5.alloc (.cells (caRow 0 0 h hasQ q hasE size) 29) := ⟨_, rfl⟩
    rw [← hX] at rb6 hEb6 ⊢
    have hbb6 : w.heap.size < b6 := by rw [hb6]; exact Nat.lt_of_lt_of_le hw0s hwX5.size
    have hwX6 : Ext X0 X6 := hwX5.trans hEb6
    have hleb6 : X5.heap.size ≤ b6 := by omega
    clear hX hzb6 hb6
    refine wpList_nil ?_
    have z0 := box_cell (j := 0) rb6 rfl
    have f0 := box_free (j := 0) rb6
    go_upto_region 11 with fail
    have r69 : (X6.setCell ⟨b6, 0, none⟩ (.int .u8 3)).heap[b6]? = some (.cells (caRow 3 0 h hasQ q hasE size) 29) := row_set rb6 0 (.int .u8 3)
    have hwX9 : Ext X0 (X6.setCell ⟨b6, 0, none⟩ (.int .u8 3)) := hwX6.setCell (p := ⟨b6, 0, none⟩) (by dsimp only; have := hww1.size; have := hEb4.size; have := hEb5.size; omega) _
    obtain ⟨X9, hX⟩ : ∃ X9, X9 = X6.setCell ⟨b6, 0, none⟩ (.int .u8 3) := ⟨_, rfl⟩
    rw [← hX] at r69 hwX9 ⊢
    clear hX z0 f0
    have L6 := row_all r69
    have r0e := (hwX9.block _ (Array.getElem?_eq_some_iff.1 r0).1).trans r0
    go_upto_region 11 with fail
    refine wp_region_lit ?_
    repeat (first
      | (refine wpList_load_part (by rfl) 29 (.tmp 9) rfl b6 0 rfl _ L6 _ Tryd.underlying29 rfl (by kernel_rfl) ?_)
      | (refine Go.wpList_store_rowTo rfl 29 (.tmp 2) (.tmp 34) rfl rfl w.heap.size (caRow 3 0 h hasQ q hasE size) rfl rfl 29 _ r0e (by kernel_rfl) rfl (by kernel_rfl) ?_)
      | go_step)
    (try simp only [Exit.inBlock, Exit.then])
    refine bodyPost_ret (results_cell_row rfl _ _ w.heap.size _ _ _ _ rfl (setRow_heap X9 w.heap.size _ _ _ _ r0e) Tryd.underlying29 rfl (by kernel_rfl)) rfl ?_
    have hfin := Below.grown (hwX.trans hwX9) (grown_row X9 w.heap.size (caRow 3 0 h hasQ q hasE size)) (hwX.trans hwX9).size (fun k hk => by injection hk with hk; omega)
    exact ⟨(by first | rfl | (rw [HF.out]; done) | (rw [HF.out]; rfl)), hfin⟩
  · have HF := Lib.hid (HDr.out rfl)
    have hta := fun V => ta_told0 V
    have htb := fun V => ta_asked0 V
    have HX := Lib.hid (show exV ⟨1, code, h, hasQ, q, hasE, size⟩ = .iface 69 (.agg #[]) from rfl)
    rw [HX.out] at HE
    clear HX
    go_wp2_with fail
    refine HE.out.mono ?_; rintro e w1 ⟨rfl, hww1⟩
    go_upto_region 2 with fail
    refine wp_region_lit ?_
    iterate 15 go_step
    obtain ⟨b4, hb4⟩ : ∃ b4, b4 = w1.heap.size := ⟨_, rfl⟩
    have hzb4 : (w1.alloc (.cells toldZ 43)).heap[b4]? = some (.cells toldZ 43) := by rw [hb4]; exact heap_alloc_new _ _
    refine Go.Great.wpList_allocTo rfl (some 4) rfl (.pointer (some ⟨w1.heap.size, 0, none⟩)) (.cells toldZ 43) (by kernel_rfl) ?_
    rw [← hb4]
    refine Go.wpList_store_rowTo rfl 43 (.tmp 4) (.tmp 15) rfl rfl b4 toldZ rfl rfl 43 _ hzb4 (by kernel_rfl) rfl (by kernel_rfl) ?_
    rw [alloc_setRow7 w1 toldZ toldZ 43 b4 hb4]
    have rb4 : (w1.alloc (.cells toldZ 43)).heap[b4]? = some (.cells toldZ 43) := by rw [hb4]; exact heap_alloc_new _ _
    have hEb4 : Ext w1 (w1.alloc (.cells toldZ 43)) := (Ext.refl _).alloc _
    obtain ⟨X4, hX⟩ : ∃ X4, X4 = w1.alloc (.cells toldZ 43) := ⟨_, rfl⟩
    rw [← hX] at rb4 hEb4 ⊢
    have hbb4 : w.heap.size < b4 := by rw [hb4]; exact Nat.lt_of_lt_of_le hw0s hww1.size
    have hwX4 : Ext X0 X4 := hww1.trans hEb4
    have hleb4 : w1.heap.size ≤ b4 := by omega
    clear hX hzb4 hb4
    iterate 3 go_step
    refine wpList_nil ?_
    go_upto_region 7 with fail
    refine wp_region_lit ?_
    iterate 15 go_step
    obtain ⟨b5, hb5⟩ : ∃ b5, b5 = X4.heap.size := ⟨_, rfl⟩
    have hzb5 : (X4.alloc (.cells cameZ 46)).heap[b5]? = some (.cells cameZ 46) := by rw [hb5]; exact heap_alloc_new _ _
    refine Go.Great.wpList_allocTo rfl (some 7) rfl (.pointer (some ⟨X4.heap.size, 0, none⟩)) (.cells cameZ 46) (by kernel_rfl) ?_
    rw [← hb5]
    refine Go.wpList_store_rowTo rfl 46 (.tmp 7) (.tmp 28) rfl rfl b5 cameZ rfl rfl 46 _ hzb5 (by kernel_rfl) rfl (by kernel_rfl) ?_
    rw [alloc_setRow7 X4 cameZ cameZ 46 b5 hb5]
    have rb5 : (X4.alloc (.cells cameZ 46)).heap[b5]? = some (.cells cameZ 46) := by rw [hb5]; exact heap_alloc_new _ _
    have hEb5 : Ext X4 (X4.alloc (.cells cameZ 46)) := (Ext.refl _).alloc _
    obtain ⟨X5, hX⟩ : ∃ X5, X5 = X4.alloc (.cells cameZ 46) := ⟨_, rfl⟩
    rw [← hX] at rb5 hEb5 ⊢
    have hbb5 : w.heap.size < b5 := by rw [hb5]; exact Nat.lt_of_lt_of_le hw0s hwX4.size
    have hwX5 : Ext X0 X5 := hwX4.trans hEb5
    have hleb5 : X4.heap.size ≤ b5 := by omega
    clear hX hzb5 hb5
    iterate 3 go_step
    refine wpList_nil ?_
    have r0e := (hwX5.block _ (Array.getElem?_eq_some_iff.1 r0).1).trans r0
    go_upto_region 12 with fail
    refine wp_region_lit ?_
    repeat (first
      | (refine Go.wpList_store_rowTo rfl 29 (.tmp 2) (.tmp 35) rfl rfl w.heap.size (caRow 1 0 hdNone false qNone false 0) rfl rfl 29 _ r0e (by kernel_rfl) rfl (by kernel_rfl) ?_)
      | go_step)
    (try simp only [Exit.inBlock, Exit.then])
    refine bodyPost_ret (results_cell_row rfl _ _ w.heap.size _ _ _ _ rfl (setRow_heap X5 w.heap.size _ _ _ _ r0e) Tryd.underlying29 rfl (by kernel_rfl)) rfl ?_
    have hfin := Below.grown (hwX.trans hwX5) (grown_row X5 w.heap.size (caRow 1 0 hdNone false qNone false 0)) (hwX.trans hwX5).size (fun k hk => by injection hk with hk; omega)
    exact ⟨(by first | rfl | (rw [HF.out]; done) | (rw [HF.out]; rfl)), hfin⟩
end Go.Proofs.YtjmfpillnbnofaaDoor
namespace Go.Proofs.YtjmfpillnbnofaaDoor
set_option linter.unusedSimpArgs false
set_option linter.unusedVariables false
open Go.RowKit
set_option maxRecDepth 100000

set_option maxHeartbeats 1000000 in
theorem int_room (c : CameD) (most : Int) (w : World) : Calls Tryd.prog 15 #[caV c, .int .i64 most] w fun e w' => e = .returned (.int .i64 (roomOf c most)) ∧ Ext w w' := by
  obtain ⟨kind, code, h, hasQ, q, hasE, size⟩ := c
  have hE : Ext w (w.alloc (.cells (caRow kind code h hasQ q hasE size) 29)) := (Ext.refl _).alloc _
  rcases hasE with _ | _
  · have HF := Lib.hid (show roomOf ⟨kind, code, h, hasQ, q, false, size⟩ most = 512 by unfold roomOf; simp)
    by_cases hm : most < 512
    · go_enter Tryd.func15, Tryd.ntmps15
      go_wp2_with fail
      go_ret
      exact ⟨by rw [HF.out]; rfl, hE⟩
    · go_enter Tryd.func15, Tryd.ntmps15
      go_wp2_with fail
      go_ret
      exact ⟨by rw [HF.out]; rfl, hE⟩
  · by_cases hs : size ≤ 512
    · have HF := Lib.hid (show roomOf ⟨kind, code, h, hasQ, q, true, size⟩ most = 512 by unfold roomOf; rw [if_neg]; dsimp only; omega)
      by_cases hm : most < 512
      · go_enter Tryd.func15, Tryd.ntmps15
        go_wp2_with fail
        go_ret
        exact ⟨by rw [HF.out]; rfl, hE⟩
      · go_enter Tryd.func15, Tryd.ntmps15
        go_wp2_with fail
        go_ret
        exact ⟨by rw [HF.out]; rfl, hE⟩
    · by_cases hm : most < 512
      · have HF := Lib.hid (show roomOf ⟨kind, code, h, hasQ, q, true, size⟩ most = min size 512 by unfold roomOf; rw [if_neg (by dsimp only; omega)]; omega)
        go_enter Tryd.func15, Tryd.ntmps15
        go_wp2_with fail
        go_ret
        exact ⟨by rw [HF.out]; rfl, hE⟩
      · have HF := Lib.hid (show roomOf ⟨kind, code, h, hasQ, q, true, size⟩ most = min size most by
          unfold roomOf
          by_cases hm2 : 512 < most
          · rw [if_pos ⟨rfl, by dsimp only; omega, hm2⟩]
          · rw [if_neg (by omega)]; omega)
        go_enter Tryd.func15, Tryd.ntmps15
        go_wp2_with fail
        go_ret
        exact ⟨by rw [HF.out]; rfl, hE⟩
theorem and_mask (n k : Nat) : n &&& (2 ^ k - 1) = n % 2 ^ k := Nat.and_two_pow_sub_one_eq_mod n k
theorem i64_and_nat7 (a b : Nat) (ha : a < 9223372036854775808) (hb : b < 9223372036854775808) : bits .and .i64 (a : Int) (b : Int) = ((a &&& b : Nat) : Int) := by
  have hx : a &&& b < 2 ^ 63 := Nat.and_lt_two_pow a (by omega)
  show IntKind.i64.wrap ((BitVec.ofInt 64 (a : Int) &&& BitVec.ofInt 64 (b : Int)).toNat : Int) = _
  rw [BitVec.toNat_and, ofInt_u64 a (by omega), ofInt_u64 b (by omega)]
  exact IntWalk.i64_in _ (by omega)
/-- What intake.Blank answers. -/
def BlPost (m : MsgD) (w : World) (e : Ending) (w' : World) : Prop := ∃ q, e = .returned (msg7V m.hd q (.slice none 0 0) (.slice none 0 0) (.slice none 0 0) m.he m.ed (.slice none 0 0)) ∧ Qus w' 0 q m.qs ∧ Ext w w'
set_option maxHeartbeats 4000000 in
theorem int_blank (c : CameD) (code size : Nat) (w : World) (hc : code ≤ 4095) (hs : size ≤ 65535) : Calls Tryd.prog 11 #[caV c, .int .i64 code, .int .i64 size] w (BlPost (blankOf c code size) w) := by
  obtain ⟨kind, ccode, h, hasQ, q, hasE, csize⟩ := c
  obtain ⟨W0, hW0⟩ : ∃ W0, W0 = (w.alloc (.cells (caRow kind ccode h hasQ q hasE csize) 29)).alloc (.cells msgZ 55) := ⟨_, rfl⟩
  have hw0 : Ext w W0 := by rw [hW0]; exact ((Ext.refl _).alloc _).alloc _
  have r1 : W0.heap[w.heap.size + 1]? = some (.cells msgZ 55) := by rw [hW0]; exact heap_alloc2_new w _ _
  have r0 : W0.heap[w.heap.size]? = some (.cells (caRow kind ccode h hasQ q hasE csize) 29) := by
    rw [hW0]
    have h1 := heap_alloc_new w (.cells (caRow kind ccode h hasQ q hasE csize) 29)
    rw [heap_alloc_old _ _ (Array.getElem?_eq_some_iff.1 h1).1]; exact h1
  have hz0 := (Array.getElem?_eq_some_iff.1 r1).1
  have a1 : bits .and .i64 (code : Int) 4095 = (code : Int) := by
    rw [show (4095 : Int) = ((4095 : Nat) : Int) from rfl, i64_and_nat7 code 4095 (by omega) (by omega), show (4095 : Nat) = 2 ^ 12 - 1 from rfl, and_mask]; omega
  have a2 : bits .and .i64 (code : Int) 15 = ((code % 16 : Nat) : Int) := by
    rw [show (15 : Int) = ((15 : Nat) : Int) from rfl, i64_and_nat7 code 15 (by omega) (by omega), show (15 : Nat) = 2 ^ 4 - 1 from rfl, and_mask]
  have a3 : bits .and .i64 (size : Int) 65535 = (size : Int) := by
    rw [show (65535 : Int) = ((65535 : Nat) : Int) from rfl, i64_and_nat7 size 65535 (by omega) (by omega), show (65535 : Nat) = 2 ^ 16 - 1 from rfl, and_mask]; omega
  have m1 : ((code % 16 : Nat) : Int) % 256 = ((code % 16 : Nat) : Int) := by omega
  have m2 : (size : Int) % 65536 = (size : Int) := by omega
  have m3 : ((code : Int) / 16) % 256 = (code : Int) / 16 := by omega
  have m4 : IntKind.u16.wrap (size : Int) = (size : Int) := by show (size : Int) % 65536 = _; omega
  have m5 : IntKind.u8.wrap ((code : Int) / 16) = ((code : Int) / 16) := by show ((code : Int) / 16) % 256 = _; omega
  have m6 : IntKind.u8.wrap ((code % 16 : Nat) : Int) = ((code % 16 : Nat) : Int) := by show ((code % 16 : Nat) : Int) % 256 = _; omega
  have HA1 := Lib.hid a1
  go_enter Tryd.func11, Tryd.ntmps11
  go_upto_region 1 with fail
  have hzz : (w.alloc (.cells (caRow kind ccode h hasQ q hasE csize) 29)).alloc (.cells msgZ 55) = W0 := hW0.symm
  rw [hzz]
  clear hzz hW0
  have z2 := box_cell (j := 2) r0 rfl
  have z4 := box_cell (j := 4) r0 rfl
  have z7 := box_cell (j := 7) r0 rfl
  have z11 := box_cell (j := 11) r0 rfl
  go_upto_region 2 with fail
  refine wp_region_lit ?_
  iterate 51 go_step
  obtain ⟨b7, hb7⟩ : ∃ b7, b7 = W0.heap.size := ⟨_, rfl⟩
  have hz7 : (W0.alloc (.cells msgZ 55)).heap[b7]? = some (.cells msgZ 55) := by rw [hb7]; exact heap_alloc_new _ _
  refine Go.Great.wpList_allocTo rfl (some 7) rfl (.pointer (some ⟨W0.heap.size, 0, none⟩)) (.cells msgZ 55) (by kernel_rfl) ?_
  rw [← hb7]
  refine Go.wpList_store_rowTo rfl 55 (.tmp 7) (.tmp 26) rfl rfl b7 #[.int .u16 h.id, .bool true, .int .u8 h.op, .bool false, .bool false, .bool h.rd, .bool true, .bool false, .bool false, .bool h.cd, .int .u8 ((code % 16 : Nat) : Int), .slice none 0 0, .slice none 0 0, .slice none 0 0, .slice none 0 0, .bool false, .int .u16 0, .int .u8 0, .int .u8 0, .int .u16 0, .slice none 0 0] rfl rfl 55 _ hz7 (by kernel_rfl) rfl (by kernel_rfl) ?_
  rw [alloc_setRow7 W0 msgZ #[.int .u16 h.id, .bool true, .int .u8 h.op, .bool false, .bool false, .bool h.rd, .bool true, .bool false, .bool false, .bool h.cd, .int .u8 ((code % 16 : Nat) : Int), .slice none 0 0, .slice none 0 0, .slice none 0 0, .slice none 0 0, .bool false, .int .u16 0, .int .u8 0, .int .u8 0, .int .u16 0, .slice none 0 0] 55 b7 hb7]
  refine wpList_nil ?_
  have r7 : (W0.alloc (.cells #[.int .u16 h.id, .bool true, .int .u8 h.op, .bool false, .bool false, .bool h.rd, .bool true, .bool false, .bool false, .bool h.cd, .int .u8 ((code % 16 : Nat) : Int), .slice none 0 0, .slice none 0 0, .slice none 0 0, .slice none 0 0, .bool false, .int .u16 0, .int .u8 0, .int .u8 0, .int .u16 0, .slice none 0 0] 55)).heap[b7]? = some (.cells #[.int .u16 h.id, .bool true, .int .u8 h.op, .bool false, .bool false, .bool h.rd, .bool true, .bool false, .bool false, .bool h.cd, .int .u8 ((code % 16 : Nat) : Int), .slice none 0 0, .slice none 0 0, .slice none 0 0, .slice none 0 0, .bool false, .int .u16 0, .int .u8 0, .int .u8 0, .int .u16 0, .slice none 0 0] 55) := by rw [hb7]; exact heap_alloc_new _ _
  have hE7 : Ext W0 (W0.alloc (.cells #[.int .u16 h.id, .bool true, .int .u8 h.op, .bool false, .bool false, .bool h.rd, .bool true, .bool false, .bool false, .bool h.cd, .int .u8 ((code % 16 : Nat) : Int), .slice none 0 0, .slice none 0 0, .slice none 0 0, .slice none 0 0, .bool false, .int .u16 0, .int .u8 0, .int .u8 0, .int .u16 0, .slice none 0 0] 55)) := (Ext.refl _).alloc _
  obtain ⟨X2, hX⟩ : ∃ X2, X2 = W0.alloc (.cells #[.int .u16 h.id, .bool true, .int .u8 h.op, .bool false, .bool false, .bool h.rd, .bool true, .bool false, .bool false, .bool h.cd, .int .u8 ((code % 16 : Nat) : Int), .slice none 0 0, .slice none 0 0, .slice none 0 0, .slice none 0 0, .bool false, .int .u16 0, .int .u8 0, .int .u8 0, .int .u16 0, .slice none 0 0] 55) := ⟨_, rfl⟩
  rw [← hX] at r7 hE7 ⊢
  have hle7 : w.heap.size + 1 < b7 := by omega
  have r02 := (hE7.block _ (Array.getElem?_eq_some_iff.1 r0).1).trans r0
  have r12 := (hE7.block _ (Array.getElem?_eq_some_iff.1 r1).1).trans r1
  have hw2 : Ext w X2 := hw0.trans hE7
  clear hX hz7 hb7 z2 z4 z7 z11 hE7 hw0 r0 r1 hz0
  have y13 := box_cell (j := 13) r02 rfl
  have y14 := box_cell (j := 14) r02 rfl
  have y15 := box_cell (j := 15) r02 rfl
  have y16 := box_cell (j := 16) r02 rfl
  have y17 := box_cell (j := 17) r02 rfl
  go_upto_region 3 with fail
  rcases hasQ with _ | _
  · rcases hasE with _ | _
    · have HBl := Lib.hid (show blankOf ⟨kind, ccode, h, false, q, false, csize⟩ (code : Int) (size : Int) = ⟨⟨h.id, true, h.op, false, false, h.rd, true, false, false, h.cd, ((code % 16 : Nat) : Int)⟩, [], [], [], [], false, edNone⟩ by
        unfold blankOf
        simp only [if_true, Bool.false_eq_true, if_false]
        rw [show (code : Int) % 4096 % 16 = ((code % 16 : Nat) : Int) by omega])
      have L7 := row_all r7
      go_upto_region 8 with fail
      refine wp_region_lit ?_
      repeat (first
        | (refine wpList_load_part (by rfl) 55 (.tmp 7) rfl b7 0 rfl _ L7 _ Tryd.underlying55 rfl (by kernel_rfl) ?_)
        | (refine Go.wpList_store_rowTo rfl 55 (.tmp 6) (.tmp 44) rfl rfl (w.heap.size + 1) #[.int .u16 h.id, .bool true, .int .u8 h.op, .bool false, .bool false, .bool h.rd, .bool true, .bool false, .bool false, .bool h.cd, .int .u8 ((code % 16 : Nat) : Int), .slice none 0 0, .slice none 0 0, .slice none 0 0, .slice none 0 0, .bool false, .int .u16 0, .int .u8 0, .int .u8 0, .int .u16 0, .slice none 0 0] rfl rfl 55 _ r12 (by kernel_rfl) rfl (by kernel_rfl) ?_)
        | go_step)
      (try simp only [Exit.inBlock, Exit.then])
      refine bodyPost_ret (results_cell_row rfl _ _ (w.heap.size + 1) _ _ _ _ rfl (setRow_heap X2 (w.heap.size + 1) _ _ _ _ r12) Tryd.underlying55 rfl (by kernel_rfl)) rfl ?_
      have gr := grown_row X2 (w.heap.size + 1) #[.int .u16 h.id, .bool true, .int .u8 h.op, .bool false, .bool false, .bool h.rd, .bool true, .bool false, .bool false, .bool h.cd, .int .u8 ((code % 16 : Nat) : Int), .slice none 0 0, .slice none 0 0, .slice none 0 0, .slice none 0 0, .bool false, .int .u16 0, .int .u8 0, .int .u8 0, .int .u16 0, .slice none 0 0]
      have hfin := Below.grown hw2 gr hw2.size (fun k hk => by injection hk with hk; omega)
      refine ⟨.slice none 0 0, ?_, by rw [HBl.out]; exact ⟨none, 0, rfl, Nat.le_refl _, Nat.zero_le _, ⟨rfl, fun hh => absurd hh (Nat.lt_irrefl _)⟩⟩, hfin⟩
      rw [HBl.out]
      first | done | rfl
    · have HBl := Lib.hid (show blankOf ⟨kind, ccode, h, false, q, true, csize⟩ (code : Int) (size : Int) = ⟨⟨h.id, true, h.op, false, false, h.rd, true, false, false, h.cd, ((code % 16 : Nat) : Int)⟩, [], [], [], [], true, ⟨(size : Int), ((code : Int) / 16), 0, 0, []⟩⟩ by
        unfold blankOf
        simp only [if_true, Bool.false_eq_true, if_false]
        rw [show (code : Int) % 4096 % 16 = ((code % 16 : Nat) : Int) by omega, show (size : Int) % 65536 = (size : Int) by omega, show (code : Int) % 4096 / 16 = ((code : Int) / 16) by omega])
      have k15 := box_cell (j := 15) r7 rfl
      have f15 := box_free (j := 15) r7
      have k16 := box_cell (j := 16) r7 rfl
      have f16 := box_free (j := 16) r7
      have k17 := box_cell (j := 17) r7 rfl
      have f17 := box_free (j := 17) r7
      have k18 := box_cell (j := 18) r7 rfl
      have f18 := box_free (j := 18) r7
      have k19 := box_cell (j := 19) r7 rfl
      have f19 := box_free (j := 19) r7
      have k20 := box_cell (j := 20) r7 rfl
      have f20 := box_free (j := 20) r7
      go_upto_region 8 with fail
      have g7 : ((((((((X2.setCell ⟨b7, 15, none⟩ (.bool true)).setCell ⟨b7, 16, none⟩ (.int .u16 (size : Int))).setCell ⟨b7, 17, none⟩ (.int .u8 ((code : Int) / 16))).setCell ⟨b7, 18, none⟩ (.int .u8 0)).setCell ⟨b7, 19, none⟩ (.int .u16 0)).setCell ⟨b7, 20, none⟩ (.slice none 0 0)))).heap[b7]? = some (.cells #[.int .u16 h.id, .bool true, .int .u8 h.op, .bool false, .bool false, .bool h.rd, .bool true, .bool false, .bool false, .bool h.cd, .int .u8 ((code % 16 : Nat) : Int), .slice none 0 0, .slice none 0 0, .slice none 0 0, .slice none 0 0, .bool true, .int .u16 ((size : Nat) : Int), .int .u8 ((code : Int) / 16), .int .u8 0, .int .u16 0, .slice none 0 0] 55) := by
        have q1 := row_set r7 15 (.bool true)
        have q2 := row_set q1 16 (.int .u16 (size : Int))
        have q3 := row_set q2 17 (.int .u8 ((code : Int) / 16))
        have q4 := row_set q3 18 (.int .u8 0)
        have q5 := row_set q4 19 (.int .u16 0)
        exact row_set q5 20 (.slice none 0 0)
      have hby : ∀ k, k ≠ b7 → ((((((((X2.setCell ⟨b7, 15, none⟩ (.bool true)).setCell ⟨b7, 16, none⟩ (.int .u16 (size : Int))).setCell ⟨b7, 17, none⟩ (.int .u8 ((code : Int) / 16))).setCell ⟨b7, 18, none⟩ (.int .u8 0)).setCell ⟨b7, 19, none⟩ (.int .u16 0)).setCell ⟨b7, 20, none⟩ (.slice none 0 0)))).heap[k]? = X2.heap[k]? := fun k hk => by
        rw [Below.heap_setCell _ _ _ k hk, Below.heap_setCell _ _ _ k hk, Below.heap_setCell _ _ _ k hk, Below.heap_setCell _ _ _ k hk, Below.heap_setCell _ _ _ k hk, Below.heap_setCell _ _ _ k hk]
      have g12 := (hby (w.heap.size + 1) (by omega)).trans r12

      have hwg : Ext w ((((((((X2.setCell ⟨b7, 15, none⟩ (.bool true)).setCell ⟨b7, 16, none⟩ (.int .u16 (size : Int))).setCell ⟨b7, 17, none⟩ (.int .u8 ((code : Int) / 16))).setCell ⟨b7, 18, none⟩ (.int .u8 0)).setCell ⟨b7, 19, none⟩ (.int .u16 0)).setCell ⟨b7, 20, none⟩ (.slice none 0 0)))) := (((((hw2.setCell (p := ⟨b7, 15, none⟩) (by dsimp only; omega) _).setCell (p := ⟨b7, 16, none⟩) (by dsimp only; omega) _).setCell (p := ⟨b7, 17, none⟩) (by dsimp only; omega) _).setCell (p := ⟨b7, 18, none⟩) (by dsimp only; omega) _).setCell (p := ⟨b7, 19, none⟩) (by dsimp only; omega) _).setCell (p := ⟨b7, 20, none⟩) (by dsimp only; omega) _
      obtain ⟨X5, hX⟩ : ∃ X5, X5 = (((((((X2.setCell ⟨b7, 15, none⟩ (.bool true)).setCell ⟨b7, 16, none⟩ (.int .u16 (size : Int))).setCell ⟨b7, 17, none⟩ (.int .u8 ((code : Int) / 16))).setCell ⟨b7, 18, none⟩ (.int .u8 0)).setCell ⟨b7, 19, none⟩ (.int .u16 0)).setCell ⟨b7, 20, none⟩ (.slice none 0 0))) := ⟨_, rfl⟩
      rw [← hX] at g7 g12 hwg 
      rw [show ((((((((X2.setCell ⟨b7, 15, none⟩ (.bool true)).setCell ⟨b7, 16, none⟩ (.int .u16 (size : Int))).setCell ⟨b7, 17, none⟩ (.int .u8 ((code : Int) / 16))).setCell ⟨b7, 18, none⟩ (.int .u8 0)).setCell ⟨b7, 19, none⟩ (.int .u16 0)).setCell ⟨b7, 20, none⟩ (.slice none 0 0))) : World) = X5 from hX.symm]
      clear hX hby k15 f15 k16 f16 k17 f17 k18 f18 k19 f19 k20 f20 r7 r12 hw2 
      have r7 := g7
      have r12 := g12
      have hw2 := hwg

      clear g7 g12 hwg 
      have L7 := row_all r7
      go_upto_region 8 with fail
      refine wp_region_lit ?_
      repeat (first
        | (refine wpList_load_part (by rfl) 55 (.tmp 7) rfl b7 0 rfl _ L7 _ Tryd.underlying55 rfl (by kernel_rfl) ?_)
        | (refine Go.wpList_store_rowTo rfl 55 (.tmp 6) (.tmp 44) rfl rfl (w.heap.size + 1) #[.int .u16 h.id, .bool true, .int .u8 h.op, .bool false, .bool false, .bool h.rd, .bool true, .bool false, .bool false, .bool h.cd, .int .u8 ((code % 16 : Nat) : Int), .slice none 0 0, .slice none 0 0, .slice none 0 0, .slice none 0 0, .bool true, .int .u16 ((size : Nat) : Int), .int .u8 ((code : Int) / 16), .int .u8 0, .int .u16 0, .slice none 0 0] rfl rfl 55 _ r12 (by kernel_rfl) rfl (by kernel_rfl) ?_)
        | go_step)
      (try simp only [Exit.inBlock, Exit.then])
      refine bodyPost_ret (results_cell_row rfl _ _ (w.heap.size + 1) _ _ _ _ rfl (setRow_heap X5 (w.heap.size + 1) _ _ _ _ r12) Tryd.underlying55 rfl (by kernel_rfl)) rfl ?_
      have gr := grown_row X5 (w.heap.size + 1) #[.int .u16 h.id, .bool true, .int .u8 h.op, .bool false, .bool false, .bool h.rd, .bool true, .bool false, .bool false, .bool h.cd, .int .u8 ((code % 16 : Nat) : Int), .slice none 0 0, .slice none 0 0, .slice none 0 0, .slice none 0 0, .bool true, .int .u16 ((size : Nat) : Int), .int .u8 ((code : Int) / 16), .int .u8 0, .int .u16 0, .slice none 0 0]
      have hfin := Below.grown hw2 gr hw2.size (fun k hk => by injection hk with hk; omega)
      refine ⟨.slice none 0 0, ?_, by rw [HBl.out]; exact ⟨none, 0, rfl, Nat.le_refl _, Nat.zero_le _, ⟨rfl, fun hh => absurd hh (Nat.lt_irrefl _)⟩⟩, hfin⟩
      rw [HBl.out]
      first | done | rfl
  · rcases hasE with _ | _
    · have HBl := Lib.hid (show blankOf ⟨kind, ccode, h, true, q, false, csize⟩ (code : Int) (size : Int) = ⟨⟨h.id, true, h.op, false, false, h.rd, true, false, false, h.cd, ((code % 16 : Nat) : Int)⟩, [q], [], [], [], false, edNone⟩ by
        unfold blankOf
        simp only [if_true, Bool.false_eq_true, if_false]
        rw [show (code : Int) % 4096 % 16 = ((code % 16 : Nat) : Int) by omega])
      have k11 := box_cell (j := 11) r7 rfl
      have f11 := box_free (j := 11) r7
      have hz7b := (Array.getElem?_eq_some_iff.1 r7).1
      go_upto_region 5 with fail
      obtain ⟨bq, hbq⟩ : ∃ bq, bq = X2.heap.size := ⟨_, rfl⟩
      have hZs : (X2.setCell ⟨b7, 11, none⟩ (.slice (some ⟨bq, 0, none⟩) 1 1)).heap.size = bq := by rw [hbq]; simp
      have e7 := row_set r7 11 (.slice (some ⟨bq, 0, none⟩) 1 1)
      have e12 := (Below.heap_setCell X2 ⟨b7, 11, none⟩ (.slice (some ⟨bq, 0, none⟩) 1 1) (w.heap.size + 1) (by dsimp only; omega)).trans r12
      have e02 := (Below.heap_setCell X2 ⟨b7, 11, none⟩ (.slice (some ⟨bq, 0, none⟩) 1 1) w.heap.size (by dsimp only; omega)).trans r02
      have hwe := hw2.setCell (p := ⟨b7, 11, none⟩) (by dsimp only; omega) (.slice (some ⟨bq, 0, none⟩) 1 1)
      obtain ⟨Z, hZ⟩ : ∃ Z, Z = X2.setCell ⟨b7, 11, none⟩ (.slice (some ⟨bq, 0, none⟩) 1 1) := ⟨_, rfl⟩
      rw [← hZ] at hZs e7 e12 e02 hwe
      rw [← hbq]
      rw [← hZ]
      have g0 := heap_alloc_new Z (.cells #[S q.name, .int .u16 q.typ, .int .u16 q.cls] 27)
      rw [hZs] at g0
      have g7 := (heap_alloc_old Z (.cells #[S q.name, .int .u16 q.typ, .int .u16 q.cls] 27) (Array.getElem?_eq_some_iff.1 e7).1).trans e7
      have g12 := (heap_alloc_old Z (.cells #[S q.name, .int .u16 q.typ, .int .u16 q.cls] 27) (Array.getElem?_eq_some_iff.1 e12).1).trans e12
      have g02 := (heap_alloc_old Z (.cells #[S q.name, .int .u16 q.typ, .int .u16 q.cls] 27) (Array.getElem?_eq_some_iff.1 e02).1).trans e02
      have hwg : Ext w (Z.alloc (.cells #[S q.name, .int .u16 q.typ, .int .u16 q.cls] 27)) := Ext.alloc hwe _
      obtain ⟨X3, hX⟩ : ∃ X3, X3 = Z.alloc (.cells #[S q.name, .int .u16 q.typ, .int .u16 q.cls] 27) := ⟨_, rfl⟩
      rw [← hX] at g7 g0 g12 g02 hwg ⊢
      have hbq7 : b7 < bq := by omega
      clear hX e7 e12 e02 hwe hZ hZs k11 f11 r7 r12 r02 hw2 y13 y14 y15 y16 y17 hbq hz7b
      have r7 := g7
      have r12 := g12
      have hw2 := hwg
      have y17 := box_cell (j := 17) g02 rfl
      clear g7 g12 hwg g02
      have gq := ((grown_row X3 (w.heap.size + 1) #[.int .u16 h.id, .bool true, .int .u8 h.op, .bool false, .bool false, .bool h.rd, .bool true, .bool false, .bool false, .bool h.cd, .int .u8 ((code % 16 : Nat) : Int), .slice (some ⟨bq, 0, none⟩) 1 1, .slice none 0 0, .slice none 0 0, .slice none 0 0, .bool false, .int .u16 0, .int .u8 0, .int .u8 0, .int .u16 0, .slice none 0 0]).block bq (Array.getElem?_eq_some_iff.1 g0).1 (by simp; omega)).trans g0
      have hqus : Qus (X3.setRow (w.heap.size + 1) #[.int .u16 h.id, .bool true, .int .u8 h.op, .bool false, .bool false, .bool h.rd, .bool true, .bool false, .bool false, .bool h.cd, .int .u8 ((code % 16 : Nat) : Int), .slice (some ⟨bq, 0, none⟩) 1 1, .slice none 0 0, .slice none 0 0, .slice none 0 0, .bool false, .int .u16 0, .int .u8 0, .int .u8 0, .int .u16 0, .slice none 0 0]) 0 (.slice (some ⟨bq, 0, none⟩) 1 1) [q] := ⟨some ⟨bq, 0, none⟩, 1, rfl, Nat.le_refl _, by unfold maxLen; omega, ⟨rfl, fun _ => ⟨bq, 0, rfl, Nat.zero_le _, (Array.getElem?_eq_some_iff.1 gq).1, fun j u hu => by
        rw [Nat.zero_add]
        exact box_cell (j := j) gq (by simpa [quCells] using hu)⟩⟩⟩
      have L7 := row_all r7
      go_upto_region 8 with fail
      refine wp_region_lit ?_
      repeat (first
        | (refine wpList_load_part (by rfl) 55 (.tmp 7) rfl b7 0 rfl _ L7 _ Tryd.underlying55 rfl (by kernel_rfl) ?_)
        | (refine Go.wpList_store_rowTo rfl 55 (.tmp 6) (.tmp 44) rfl rfl (w.heap.size + 1) #[.int .u16 h.id, .bool true, .int .u8 h.op, .bool false, .bool false, .bool h.rd, .bool true, .bool false, .bool false, .bool h.cd, .int .u8 ((code % 16 : Nat) : Int), .slice (some ⟨bq, 0, none⟩) 1 1, .slice none 0 0, .slice none 0 0, .slice none 0 0, .bool false, .int .u16 0, .int .u8 0, .int .u8 0, .int .u16 0, .slice none 0 0] rfl rfl 55 _ r12 (by kernel_rfl) rfl (by kernel_rfl) ?_)
        | go_step)
      (try simp only [Exit.inBlock, Exit.then])
      refine bodyPost_ret (results_cell_row rfl _ _ (w.heap.size + 1) _ _ _ _ rfl (setRow_heap X3 (w.heap.size + 1) _ _ _ _ r12) Tryd.underlying55 rfl (by kernel_rfl)) rfl ?_
      have gr := grown_row X3 (w.heap.size + 1) #[.int .u16 h.id, .bool true, .int .u8 h.op, .bool false, .bool false, .bool h.rd, .bool true, .bool false, .bool false, .bool h.cd, .int .u8 ((code % 16 : Nat) : Int), .slice (some ⟨bq, 0, none⟩) 1 1, .slice none 0 0, .slice none 0 0, .slice none 0 0, .bool false, .int .u16 0, .int .u8 0, .int .u8 0, .int .u16 0, .slice none 0 0]
      have hfin := Below.grown hw2 gr hw2.size (fun k hk => by injection hk with hk; omega)
      refine ⟨.slice (some ⟨bq, 0, none⟩) 1 1, ?_, by rw [HBl.out]; exact hqus, hfin⟩
      rw [HBl.out]
      first | done | rfl
    · have HBl := Lib.hid (show blankOf ⟨kind, ccode, h, true, q, true, csize⟩ (code : Int) (size : Int) = ⟨⟨h.id, true, h.op, false, false, h.rd, true, false, false, h.cd, ((code % 16 : Nat) : Int)⟩, [q], [], [], [], true, ⟨(size : Int), ((code : Int) / 16), 0, 0, []⟩⟩ by
        unfold blankOf
        simp only [if_true, Bool.false_eq_true, if_false]
        rw [show (code : Int) % 4096 % 16 = ((code % 16 : Nat) : Int) by omega, show (size : Int) % 65536 = (size : Int) by omega, show (code : Int) % 4096 / 16 = ((code : Int) / 16) by omega])
      have k11 := box_cell (j := 11) r7 rfl
      have f11 := box_free (j := 11) r7
      have hz7b := (Array.getElem?_eq_some_iff.1 r7).1
      go_upto_region 5 with fail
      obtain ⟨bq, hbq⟩ : ∃ bq, bq = X2.heap.size := ⟨_, rfl⟩
      have hZs : (X2.setCell ⟨b7, 11, none⟩ (.slice (some ⟨bq, 0, none⟩) 1 1)).heap.size = bq := by rw [hbq]; simp
      have e7 := row_set r7 11 (.slice (some ⟨bq, 0, none⟩) 1 1)
      have e12 := (Below.heap_setCell X2 ⟨b7, 11, none⟩ (.slice (some ⟨bq, 0, none⟩) 1 1) (w.heap.size + 1) (by dsimp only; omega)).trans r12
      have e02 := (Below.heap_setCell X2 ⟨b7, 11, none⟩ (.slice (some ⟨bq, 0, none⟩) 1 1) w.heap.size (by dsimp only; omega)).trans r02
      have hwe := hw2.setCell (p := ⟨b7, 11, none⟩) (by dsimp only; omega) (.slice (some ⟨bq, 0, none⟩) 1 1)
      obtain ⟨Z, hZ⟩ : ∃ Z, Z = X2.setCell ⟨b7, 11, none⟩ (.slice (some ⟨bq, 0, none⟩) 1 1) := ⟨_, rfl⟩
      rw [← hZ] at hZs e7 e12 e02 hwe
      rw [← hbq]
      rw [← hZ]
      have g0 := heap_alloc_new Z (.cells #[S q.name, .int .u16 q.typ, .int .u16 q.cls] 27)
      rw [hZs] at g0
      have g7 := (heap_alloc_old Z (.cells #[S q.name, .int .u16 q.typ, .int .u16 q.cls] 27) (Array.getElem?_eq_some_iff.1 e7).1).trans e7
      have g12 := (heap_alloc_old Z (.cells #[S q.name, .int .u16 q.typ, .int .u16 q.cls] 27) (Array.getElem?_eq_some_iff.1 e12).1).trans e12
      have g02 := (heap_alloc_old Z (.cells #[S q.name, .int .u16 q.typ, .int .u16 q.cls] 27) (Array.getElem?_eq_some_iff.1 e02).1).trans e02
      have hwg : Ext w (Z.alloc (.cells #[S q.name, .int .u16 q.typ, .int .u16 q.cls] 27)) := Ext.alloc hwe _
      obtain ⟨X3, hX⟩ : ∃ X3, X3 = Z.alloc (.cells #[S q.name, .int .u16 q.typ, .int .u16 q.cls] 27) := ⟨_, rfl⟩
      rw [← hX] at g7 g0 g12 g02 hwg ⊢
      have hbq7 : b7 < bq := by omega
      clear hX e7 e12 e02 hwe hZ hZs k11 f11 r7 r12 r02 hw2 y13 y14 y15 y16 y17 hbq hz7b
      have r7 := g7
      have r12 := g12
      have hw2 := hwg
      have y17 := box_cell (j := 17) g02 rfl
      clear g7 g12 hwg g02
      have k15 := box_cell (j := 15) r7 rfl
      have f15 := box_free (j := 15) r7
      have k16 := box_cell (j := 16) r7 rfl
      have f16 := box_free (j := 16) r7
      have k17 := box_cell (j := 17) r7 rfl
      have f17 := box_free (j := 17) r7
      have k18 := box_cell (j := 18) r7 rfl
      have f18 := box_free (j := 18) r7
      have k19 := box_cell (j := 19) r7 rfl
      have f19 := box_free (j := 19) r7
      have k20 := box_cell (j := 20) r7 rfl
      have f20 := box_free (j := 20) r7
      go_upto_region 8 with fail
      have g7 : ((((((((X3.setCell ⟨b7, 15, none⟩ (.bool true)).setCell ⟨b7, 16, none⟩ (.int .u16 (size : Int))).setCell ⟨b7, 17, none⟩ (.int .u8 ((code : Int) / 16))).setCell ⟨b7, 18, none⟩ (.int .u8 0)).setCell ⟨b7, 19, none⟩ (.int .u16 0)).setCell ⟨b7, 20, none⟩ (.slice none 0 0)))).heap[b7]? = some (.cells #[.int .u16 h.id, .bool true, .int .u8 h.op, .bool false, .bool false, .bool h.rd, .bool true, .bool false, .bool false, .bool h.cd, .int .u8 ((code % 16 : Nat) : Int), .slice (some ⟨bq, 0, none⟩) 1 1, .slice none 0 0, .slice none 0 0, .slice none 0 0, .bool true, .int .u16 ((size : Nat) : Int), .int .u8 ((code : Int) / 16), .int .u8 0, .int .u16 0, .slice none 0 0] 55) := by
        have q1 := row_set r7 15 (.bool true)
        have q2 := row_set q1 16 (.int .u16 (size : Int))
        have q3 := row_set q2 17 (.int .u8 ((code : Int) / 16))
        have q4 := row_set q3 18 (.int .u8 0)
        have q5 := row_set q4 19 (.int .u16 0)
        exact row_set q5 20 (.slice none 0 0)
      have hby : ∀ k, k ≠ b7 → ((((((((X3.setCell ⟨b7, 15, none⟩ (.bool true)).setCell ⟨b7, 16, none⟩ (.int .u16 (size : Int))).setCell ⟨b7, 17, none⟩ (.int .u8 ((code : Int) / 16))).setCell ⟨b7, 18, none⟩ (.int .u8 0)).setCell ⟨b7, 19, none⟩ (.int .u16 0)).setCell ⟨b7, 20, none⟩ (.slice none 0 0)))).heap[k]? = X3.heap[k]? := fun k hk => by
        rw [Below.heap_setCell _ _ _ k hk, Below.heap_setCell _ _ _ k hk, Below.heap_setCell _ _ _ k hk, Below.heap_setCell _ _ _ k hk, Below.heap_setCell _ _ _ k hk, Below.heap_setCell _ _ _ k hk]
      have g12 := (hby (w.heap.size + 1) (by omega)).trans r12
      have g0b := (hby bq (by omega)).trans g0
      have hwg : Ext w ((((((((X3.setCell ⟨b7, 15, none⟩ (.bool true)).setCell ⟨b7, 16, none⟩ (.int .u16 (size : Int))).setCell ⟨b7, 17, none⟩ (.int .u8 ((code : Int) / 16))).setCell ⟨b7, 18, none⟩ (.int .u8 0)).setCell ⟨b7, 19, none⟩ (.int .u16 0)).setCell ⟨b7, 20, none⟩ (.slice none 0 0)))) := (((((hw2.setCell (p := ⟨b7, 15, none⟩) (by dsimp only; omega) _).setCell (p := ⟨b7, 16, none⟩) (by dsimp only; omega) _).setCell (p := ⟨b7, 17, none⟩) (by dsimp only; omega) _).setCell (p := ⟨b7, 18, none⟩) (by dsimp only; omega) _).setCell (p := ⟨b7, 19, none⟩) (by dsimp only; omega) _).setCell (p := ⟨b7, 20, none⟩) (by dsimp only; omega) _
      obtain ⟨X5, hX⟩ : ∃ X5, X5 = (((((((X3.setCell ⟨b7, 15, none⟩ (.bool true)).setCell ⟨b7, 16, none⟩ (.int .u16 (size : Int))).setCell ⟨b7, 17, none⟩ (.int .u8 ((code : Int) / 16))).setCell ⟨b7, 18, none⟩ (.int .u8 0)).setCell ⟨b7, 19, none⟩ (.int .u16 0)).setCell ⟨b7, 20, none⟩ (.slice none 0 0))) := ⟨_, rfl⟩
      rw [← hX] at g7 g12 hwg g0b
      rw [show ((((((((X3.setCell ⟨b7, 15, none⟩ (.bool true)).setCell ⟨b7, 16, none⟩ (.int .u16 (size : Int))).setCell ⟨b7, 17, none⟩ (.int .u8 ((code : Int) / 16))).setCell ⟨b7, 18, none⟩ (.int .u8 0)).setCell ⟨b7, 19, none⟩ (.int .u16 0)).setCell ⟨b7, 20, none⟩ (.slice none 0 0))) : World) = X5 from hX.symm]
      clear hX hby k15 f15 k16 f16 k17 f17 k18 f18 k19 f19 k20 f20 r7 r12 hw2 g0
      have r7 := g7
      have r12 := g12
      have hw2 := hwg
      have g0 := g0b
      clear g7 g12 hwg g0b
      have gq := ((grown_row X5 (w.heap.size + 1) #[.int .u16 h.id, .bool true, .int .u8 h.op, .bool false, .bool false, .bool h.rd, .bool true, .bool false, .bool false, .bool h.cd, .int .u8 ((code % 16 : Nat) : Int), .slice (some ⟨bq, 0, none⟩) 1 1, .slice none 0 0, .slice none 0 0, .slice none 0 0, .bool true, .int .u16 ((size : Nat) : Int), .int .u8 ((code : Int) / 16), .int .u8 0, .int .u16 0, .slice none 0 0]).block bq (Array.getElem?_eq_some_iff.1 g0).1 (by simp; omega)).trans g0
      have hqus : Qus (X5.setRow (w.heap.size + 1) #[.int .u16 h.id, .bool true, .int .u8 h.op, .bool false, .bool false, .bool h.rd, .bool true, .bool false, .bool false, .bool h.cd, .int .u8 ((code % 16 : Nat) : Int), .slice (some ⟨bq, 0, none⟩) 1 1, .slice none 0 0, .slice none 0 0, .slice none 0 0, .bool true, .int .u16 ((size : Nat) : Int), .int .u8 ((code : Int) / 16), .int .u8 0, .int .u16 0, .slice none 0 0]) 0 (.slice (some ⟨bq, 0, none⟩) 1 1) [q] := ⟨some ⟨bq, 0, none⟩, 1, rfl, Nat.le_refl _, by unfold maxLen; omega, ⟨rfl, fun _ => ⟨bq, 0, rfl, Nat.zero_le _, (Array.getElem?_eq_some_iff.1 gq).1, fun j u hu => by
        rw [Nat.zero_add]
        exact box_cell (j := j) gq (by simpa [quCells] using hu)⟩⟩⟩
      have L7 := row_all r7
      go_upto_region 8 with fail
      refine wp_region_lit ?_
      repeat (first
        | (refine wpList_load_part (by rfl) 55 (.tmp 7) rfl b7 0 rfl _ L7 _ Tryd.underlying55 rfl (by kernel_rfl) ?_)
        | (refine Go.wpList_store_rowTo rfl 55 (.tmp 6) (.tmp 44) rfl rfl (w.heap.size + 1) #[.int .u16 h.id, .bool true, .int .u8 h.op, .bool false, .bool false, .bool h.rd, .bool true, .bool false, .bool false, .bool h.cd, .int .u8 ((code % 16 : Nat) : Int), .slice (some ⟨bq, 0, none⟩) 1 1, .slice none 0 0, .slice none 0 0, .slice none 0 0, .bool true, .int .u16 ((size : Nat) : Int), .int .u8 ((code : Int) / 16), .int .u8 0, .int .u16 0, .slice none 0 0] rfl rfl 55 _ r12 (by kernel_rfl) rfl (by kernel_rfl) ?_)
        | go_step)
      (try simp only [Exit.inBlock, Exit.then])
      refine bodyPost_ret (results_cell_row rfl _ _ (w.heap.size + 1) _ _ _ _ rfl (setRow_heap X5 (w.heap.size + 1) _ _ _ _ r12) Tryd.underlying55 rfl (by kernel_rfl)) rfl ?_
      have gr := grown_row X5 (w.heap.size + 1) #[.int .u16 h.id, .bool true, .int .u8 h.op, .bool false, .bool false, .bool h.rd, .bool true, .bool false, .bool false, .bool h.cd, .int .u8 ((code % 16 : Nat) : Int), .slice (some ⟨bq, 0, none⟩) 1 1, .slice none 0 0, .slice none 0 0, .slice none 0 0, .bool true, .int .u16 ((size : Nat) : Int), .int .u8 ((code : Int) / 16), .int .u8 0, .int .u16 0, .slice none 0 0]
      have hfin := Below.grown hw2 gr hw2.size (fun k hk => by injection hk with hk; omega)
      refine ⟨.slice (some ⟨bq, 0, none⟩) 1 1, ?_, by rw [HBl.out]; exact hqus, hfin⟩
      rw [HBl.out]
      first | done | rfl
end Go.Proofs.YtjmfpillnbnofaaDoor
