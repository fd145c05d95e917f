/- Contracts of functions and plain lemmas that the proofs of this seat share (joined texts). No condition. -/
import Derived.Test.YtebkdcamblifoaaGreatDoorBry
import Derived.Test.YtebkdcamblifoaaGreatDoorBfw4
import Derived.Test.YtebkdcamblifoaaGreatDoorBrz
namespace Go.Proofs.YtebkdcamblifoaaGreatDoor
set_option linter.unusedSimpArgs false
set_option linter.unusedVariables false
open Go.RowKit
set_option maxRecDepth 100000

set_option maxHeartbeats 4000000 in
theorem ref25_blank (c : CameD) (code size : Nat) (w : World) (hc : code ≤ 4095) (hs : size ≤ 65535) : Calls Tryz.prog 41 #[caV c, .int .i64 code, .int .i64 size] w (BlPost (blankOf c code size) w) := by
  obtain ⟨kind, ccode, h, hasQ, q, hasE, csize⟩ := c
  obtain ⟨W0, hW0⟩ : ∃ W0, W0 = (w.alloc (.cells (caRow kind ccode h hasQ q hasE csize) 28)).alloc (.cells msgZ 52) := ⟨_, rfl⟩
  have hw0 : Ext w W0 := by rw [hW0]; exact ((Ext.refl _).alloc _).alloc _
  have r1 : W0.heap[w.heap.size + 1]? = some (.cells msgZ 52) := by rw [hW0]; exact heap_alloc2_new w _ _
  have r0 : W0.heap[w.heap.size]? = some (.cells (caRow kind ccode h hasQ q hasE csize) 28) := by
    rw [hW0]
    have h1 := heap_alloc_new w (.cells (caRow kind ccode h hasQ q hasE csize) 28)
    rw [heap_alloc_old _ _ (Array.getElem?_eq_some_iff.1 h1).1]; exact h1
  have hz0 := (Array.getElem?_eq_some_iff.1 r1).1
  have n1 : (code : Int) % 4096 = (code : Int) := by omega
  have n3 : (0 : Int) ≤ (code : Int) := by omega
  have n4 : (code : Int) ≤ 4095 := by omega
  have n5 : (0 : Int) ≤ (size : Int) := by omega
  have n6 : (size : Int) ≤ 65535 := by omega
  have m1 : ((code : Int) % 16) % 256 = ((code : Int) % 16) := by omega
  have m2 : (size : Int) % 65536 = (size : Int) := by omega
  have m3 : ((code : Int) / 16) % 256 = (code : Int) / 16 := by omega
  have m4 : IntKind.u16.wrap (size : Int) = (size : Int) := by show (size : Int) % 65536 = _; omega
  have m5 : IntKind.u8.wrap ((code : Int) / 16) = ((code : Int) / 16) := by show ((code : Int) / 16) % 256 = _; omega
  have m6 : IntKind.u8.wrap ((code : Int) % 16) = ((code : Int) % 16) := by show ((code : Int) % 16) % 256 = _; omega
  go_enter Tryz.func41, Tryz.ntmps41
  go_upto_region 1 with fail
  have hzz : (w.alloc (.cells (caRow kind ccode h hasQ q hasE csize) 28)).alloc (.cells msgZ 52) = W0 := hW0.symm
  rw [hzz]
  clear hzz hW0
  have z2 := box_cell (j := 2) r0 rfl
  have z4 := box_cell (j := 4) r0 rfl
  have z7 := box_cell (j := 7) r0 rfl
  have z11 := box_cell (j := 11) r0 rfl
  go_upto_region 2 with fail
  refine wp_region_lit ?_
  iterate 51 go_step
  obtain ⟨b7, hb7⟩ : ∃ b7, b7 = W0.heap.size := ⟨_, rfl⟩
  have hz7 : (W0.alloc (.cells msgZ 52)).heap[b7]? = some (.cells msgZ 52) := by rw [hb7]; exact heap_alloc_new _ _
  refine Go.Great.wpList_allocTo rfl (some 7) rfl (.pointer (some ⟨W0.heap.size, 0, none⟩)) (.cells msgZ 52) (by kernel_rfl) ?_
  rw [← hb7]
  refine Go.wpList_store_rowTo rfl 52 (.tmp 7) (.tmp 28) rfl rfl b7 #[.int .u16 h.id, .bool true, .int .u8 h.op, .bool false, .bool false, .bool h.rd, .bool true, .bool false, .bool false, .bool h.cd, .int .u8 ((code : Int) % 16), .slice none 0 0, .slice none 0 0, .slice none 0 0, .slice none 0 0, .bool false, .int .u16 0, .int .u8 0, .int .u8 0, .int .u16 0, .slice none 0 0] rfl rfl 52 _ hz7 (by kernel_rfl) rfl (by kernel_rfl) ?_
  rw [alloc_setRow7 W0 msgZ #[.int .u16 h.id, .bool true, .int .u8 h.op, .bool false, .bool false, .bool h.rd, .bool true, .bool false, .bool false, .bool h.cd, .int .u8 ((code : Int) % 16), .slice none 0 0, .slice none 0 0, .slice none 0 0, .slice none 0 0, .bool false, .int .u16 0, .int .u8 0, .int .u8 0, .int .u16 0, .slice none 0 0] 52 b7 hb7]
  refine wpList_nil ?_
  have r7 : (W0.alloc (.cells #[.int .u16 h.id, .bool true, .int .u8 h.op, .bool false, .bool false, .bool h.rd, .bool true, .bool false, .bool false, .bool h.cd, .int .u8 ((code : Int) % 16), .slice none 0 0, .slice none 0 0, .slice none 0 0, .slice none 0 0, .bool false, .int .u16 0, .int .u8 0, .int .u8 0, .int .u16 0, .slice none 0 0] 52)).heap[b7]? = some (.cells #[.int .u16 h.id, .bool true, .int .u8 h.op, .bool false, .bool false, .bool h.rd, .bool true, .bool false, .bool false, .bool h.cd, .int .u8 ((code : Int) % 16), .slice none 0 0, .slice none 0 0, .slice none 0 0, .slice none 0 0, .bool false, .int .u16 0, .int .u8 0, .int .u8 0, .int .u16 0, .slice none 0 0] 52) := by rw [hb7]; exact heap_alloc_new _ _
  have hE7 : Ext W0 (W0.alloc (.cells #[.int .u16 h.id, .bool true, .int .u8 h.op, .bool false, .bool false, .bool h.rd, .bool true, .bool false, .bool false, .bool h.cd, .int .u8 ((code : Int) % 16), .slice none 0 0, .slice none 0 0, .slice none 0 0, .slice none 0 0, .bool false, .int .u16 0, .int .u8 0, .int .u8 0, .int .u16 0, .slice none 0 0] 52)) := (Ext.refl _).alloc _
  obtain ⟨X2, hX⟩ : ∃ X2, X2 = W0.alloc (.cells #[.int .u16 h.id, .bool true, .int .u8 h.op, .bool false, .bool false, .bool h.rd, .bool true, .bool false, .bool false, .bool h.cd, .int .u8 ((code : Int) % 16), .slice none 0 0, .slice none 0 0, .slice none 0 0, .slice none 0 0, .bool false, .int .u16 0, .int .u8 0, .int .u8 0, .int .u16 0, .slice none 0 0] 52) := ⟨_, rfl⟩
  rw [← hX] at r7 hE7 ⊢
  have hle7 : w.heap.size + 1 < b7 := by omega
  have r02 := (hE7.block _ (Array.getElem?_eq_some_iff.1 r0).1).trans r0
  have r12 := (hE7.block _ (Array.getElem?_eq_some_iff.1 r1).1).trans r1
  have hw2 : Ext w X2 := hw0.trans hE7
  clear hX hz7 hb7 z2 z4 z7 z11 hE7 hw0 r0 r1 hz0
  have y13 := box_cell (j := 13) r02 rfl
  have y14 := box_cell (j := 14) r02 rfl
  have y15 := box_cell (j := 15) r02 rfl
  have y16 := box_cell (j := 16) r02 rfl
  have y17 := box_cell (j := 17) r02 rfl
  go_upto_region 3 with fail
  rcases hasQ with _ | _
  · rcases hasE with _ | _
    · have HBl := Lib.hid (show blankOf ⟨kind, ccode, h, false, q, false, csize⟩ (code : Int) (size : Int) = ⟨⟨h.id, true, h.op, false, false, h.rd, true, false, false, h.cd, ((code : Int) % 16)⟩, [], [], [], [], false, edNone⟩ by
        unfold blankOf
        simp only [if_true, Bool.false_eq_true, if_false]
        rw [show (code : Int) % 4096 % 16 = ((code : Int) % 16) by omega])
      have L7 := row_all r7
      go_upto_region 8 with fail
      refine wp_region_lit ?_
      repeat (first
        | (refine wpList_load_part (by rfl) 52 (.tmp 7) rfl b7 0 rfl _ L7 _ Tryz.underlying52 rfl (by kernel_rfl) ?_)
        | (refine Go.wpList_store_rowTo rfl 52 (.tmp 6) (.tmp 47) rfl rfl (w.heap.size + 1) #[.int .u16 h.id, .bool true, .int .u8 h.op, .bool false, .bool false, .bool h.rd, .bool true, .bool false, .bool false, .bool h.cd, .int .u8 ((code : Int) % 16), .slice none 0 0, .slice none 0 0, .slice none 0 0, .slice none 0 0, .bool false, .int .u16 0, .int .u8 0, .int .u8 0, .int .u16 0, .slice none 0 0] rfl rfl 52 _ r12 (by kernel_rfl) rfl (by kernel_rfl) ?_)
        | go_step)
      (try simp only [Exit.inBlock, Exit.then])
      refine bodyPost_ret (results_cell_row rfl _ _ (w.heap.size + 1) _ _ _ _ rfl (setRow_heap X2 (w.heap.size + 1) _ _ _ _ r12) Tryz.underlying52 rfl (by kernel_rfl)) rfl ?_
      have gr := grown_row X2 (w.heap.size + 1) #[.int .u16 h.id, .bool true, .int .u8 h.op, .bool false, .bool false, .bool h.rd, .bool true, .bool false, .bool false, .bool h.cd, .int .u8 ((code : Int) % 16), .slice none 0 0, .slice none 0 0, .slice none 0 0, .slice none 0 0, .bool false, .int .u16 0, .int .u8 0, .int .u8 0, .int .u16 0, .slice none 0 0]
      have hfin := Below.grown hw2 gr hw2.size (fun k hk => by injection hk with hk; omega)
      refine ⟨.slice none 0 0, ?_, by rw [HBl.out]; exact ⟨none, 0, rfl, Nat.le_refl _, Nat.zero_le _, ⟨rfl, fun hh => absurd hh (Nat.lt_irrefl _)⟩⟩, hfin⟩
      rw [HBl.out]
      first | done | rfl
    · have HBl := Lib.hid (show blankOf ⟨kind, ccode, h, false, q, true, csize⟩ (code : Int) (size : Int) = ⟨⟨h.id, true, h.op, false, false, h.rd, true, false, false, h.cd, ((code : Int) % 16)⟩, [], [], [], [], true, ⟨(size : Int), ((code : Int) / 16), 0, 0, []⟩⟩ by
        unfold blankOf
        simp only [if_true, Bool.false_eq_true, if_false]
        rw [show (code : Int) % 4096 % 16 = ((code : Int) % 16) by omega, show (size : Int) % 65536 = (size : Int) by omega, show (code : Int) % 4096 / 16 = ((code : Int) / 16) by omega])
      have k15 := box_cell (j := 15) r7 rfl
      have f15 := box_free (j := 15) r7
      have k16 := box_cell (j := 16) r7 rfl
      have f16 := box_free (j := 16) r7
      have k17 := box_cell (j := 17) r7 rfl
      have f17 := box_free (j := 17) r7
      have k18 := box_cell (j := 18) r7 rfl
      have f18 := box_free (j := 18) r7
      have k19 := box_cell (j := 19) r7 rfl
      have f19 := box_free (j := 19) r7
      have k20 := box_cell (j := 20) r7 rfl
      have f20 := box_free (j := 20) r7
      go_upto_region 8 with fail
      have g7 : ((((((((X2.setCell ⟨b7, 15, none⟩ (.bool true)).setCell ⟨b7, 16, none⟩ (.int .u16 (size : Int))).setCell ⟨b7, 17, none⟩ (.int .u8 ((code : Int) / 16))).setCell ⟨b7, 18, none⟩ (.int .u8 0)).setCell ⟨b7, 19, none⟩ (.int .u16 0)).setCell ⟨b7, 20, none⟩ (.slice none 0 0)))).heap[b7]? = some (.cells #[.int .u16 h.id, .bool true, .int .u8 h.op, .bool false, .bool false, .bool h.rd, .bool true, .bool false, .bool false, .bool h.cd, .int .u8 ((code : Int) % 16), .slice none 0 0, .slice none 0 0, .slice none 0 0, .slice none 0 0, .bool true, .int .u16 ((size : Nat) : Int), .int .u8 ((code : Int) / 16), .int .u8 0, .int .u16 0, .slice none 0 0] 52) := by
        have q1 := row_set r7 15 (.bool true)
        have q2 := row_set q1 16 (.int .u16 (size : Int))
        have q3 := row_set q2 17 (.int .u8 ((code : Int) / 16))
        have q4 := row_set q3 18 (.int .u8 0)
        have q5 := row_set q4 19 (.int .u16 0)
        exact row_set q5 20 (.slice none 0 0)
      have hby : ∀ k, k ≠ b7 → ((((((((X2.setCell ⟨b7, 15, none⟩ (.bool true)).setCell ⟨b7, 16, none⟩ (.int .u16 (size : Int))).setCell ⟨b7, 17, none⟩ (.int .u8 ((code : Int) / 16))).setCell ⟨b7, 18, none⟩ (.int .u8 0)).setCell ⟨b7, 19, none⟩ (.int .u16 0)).setCell ⟨b7, 20, none⟩ (.slice none 0 0)))).heap[k]? = X2.heap[k]? := fun k hk => by
        rw [Below.heap_setCell _ _ _ k hk, Below.heap_setCell _ _ _ k hk, Below.heap_setCell _ _ _ k hk, Below.heap_setCell _ _ _ k hk, Below.heap_setCell _ _ _ k hk, Below.heap_setCell _ _ _ k hk]
      have g12 := (hby (w.heap.size + 1) (by omega)).trans r12

      have hwg : Ext w ((((((((X2.setCell ⟨b7, 15, none⟩ (.bool true)).setCell ⟨b7, 16, none⟩ (.int .u16 (size : Int))).setCell ⟨b7, 17, none⟩ (.int .u8 ((code : Int) / 16))).setCell ⟨b7, 18, none⟩ (.int .u8 0)).setCell ⟨b7, 19, none⟩ (.int .u16 0)).setCell ⟨b7, 20, none⟩ (.slice none 0 0)))) := (((((hw2.setCell (p := ⟨b7, 15, none⟩) (by dsimp only; omega) _).setCell (p := ⟨b7, 16, none⟩) (by dsimp only; omega) _).setCell (p := ⟨b7, 17, none⟩) (by dsimp only; omega) _).setCell (p := ⟨b7, 18, none⟩) (by dsimp only; omega) _).setCell (p := ⟨b7, 19, none⟩) (by dsimp only; omega) _).setCell (p := ⟨b7, 20, none⟩) (by dsimp only; omega) _
      obtain ⟨X5, hX⟩ : ∃ X5, X5 = (((((((X2.setCell ⟨b7, 15, none⟩ (.bool true)).setCell ⟨b7, 16, none⟩ (.int .u16 (size : Int))).setCell ⟨b7, 17, none⟩ (.int .u8 ((code : Int) / 16))).setCell ⟨b7, 18, none⟩ (.int .u8 0)).setCell ⟨b7, 19, none⟩ (.int .u16 0)).setCell ⟨b7, 20, none⟩ (.slice none 0 0))) := ⟨_, rfl⟩
      rw [← hX] at g7 g12 hwg 
      rw [show ((((((((X2.setCell ⟨b7, 15, none⟩ (.bool true)).setCell ⟨b7, 16, none⟩ (.int .u16 (size : Int))).setCell ⟨b7, 17, none⟩ (.int .u8 ((code : Int) / 16))).setCell ⟨b7, 18, none⟩ (.int .u8 0)).setCell ⟨b7, 19, none⟩ (.int .u16 0)).setCell ⟨b7, 20, none⟩ (.slice none 0 0))) : World) = X5 from hX.symm]
      clear hX hby k15 f15 k16 f16 k17 f17 k18 f18 k19 f19 k20 f20 r7 r12 hw2 
      have r7 := g7
      have r12 := g12
      have hw2 := hwg

      clear g7 g12 hwg 
      have L7 := row_all r7
      go_upto_region 8 with fail
      refine wp_region_lit ?_
      repeat (first
        | (refine wpList_load_part (by rfl) 52 (.tmp 7) rfl b7 0 rfl _ L7 _ Tryz.underlying52 rfl (by kernel_rfl) ?_)
        | (refine Go.wpList_store_rowTo rfl 52 (.tmp 6) (.tmp 47) rfl rfl (w.heap.size + 1) #[.int .u16 h.id, .bool true, .int .u8 h.op, .bool false, .bool false, .bool h.rd, .bool true, .bool false, .bool false, .bool h.cd, .int .u8 ((code : Int) % 16), .slice none 0 0, .slice none 0 0, .slice none 0 0, .slice none 0 0, .bool true, .int .u16 ((size : Nat) : Int), .int .u8 ((code : Int) / 16), .int .u8 0, .int .u16 0, .slice none 0 0] rfl rfl 52 _ r12 (by kernel_rfl) rfl (by kernel_rfl) ?_)
        | go_step)
      (try simp only [Exit.inBlock, Exit.then])
      refine bodyPost_ret (results_cell_row rfl _ _ (w.heap.size + 1) _ _ _ _ rfl (setRow_heap X5 (w.heap.size + 1) _ _ _ _ r12) Tryz.underlying52 rfl (by kernel_rfl)) rfl ?_
      have gr := grown_row X5 (w.heap.size + 1) #[.int .u16 h.id, .bool true, .int .u8 h.op, .bool false, .bool false, .bool h.rd, .bool true, .bool false, .bool false, .bool h.cd, .int .u8 ((code : Int) % 16), .slice none 0 0, .slice none 0 0, .slice none 0 0, .slice none 0 0, .bool true, .int .u16 ((size : Nat) : Int), .int .u8 ((code : Int) / 16), .int .u8 0, .int .u16 0, .slice none 0 0]
      have hfin := Below.grown hw2 gr hw2.size (fun k hk => by injection hk with hk; omega)
      refine ⟨.slice none 0 0, ?_, by rw [HBl.out]; exact ⟨none, 0, rfl, Nat.le_refl _, Nat.zero_le _, ⟨rfl, fun hh => absurd hh (Nat.lt_irrefl _)⟩⟩, hfin⟩
      rw [HBl.out]
      first | done | rfl
  · rcases hasE with _ | _
    · have HBl := Lib.hid (show blankOf ⟨kind, ccode, h, true, q, false, csize⟩ (code : Int) (size : Int) = ⟨⟨h.id, true, h.op, false, false, h.rd, true, false, false, h.cd, ((code : Int) % 16)⟩, [q], [], [], [], false, edNone⟩ by
        unfold blankOf
        simp only [if_true, Bool.false_eq_true, if_false]
        rw [show (code : Int) % 4096 % 16 = ((code : Int) % 16) by omega])
      have k11 := box_cell (j := 11) r7 rfl
      have f11 := box_free (j := 11) r7
      have hz7b := (Array.getElem?_eq_some_iff.1 r7).1
      go_upto_region 5 with fail
      obtain ⟨bq, hbq⟩ : ∃ bq, bq = X2.heap.size := ⟨_, rfl⟩
      have hZs : (X2.setCell ⟨b7, 11, none⟩ (.slice (some ⟨bq, 0, none⟩) 1 1)).heap.size = bq := by rw [hbq]; simp
      have e7 := row_set r7 11 (.slice (some ⟨bq, 0, none⟩) 1 1)
      have e12 := (Below.heap_setCell X2 ⟨b7, 11, none⟩ (.slice (some ⟨bq, 0, none⟩) 1 1) (w.heap.size + 1) (by dsimp only; omega)).trans r12
      have e02 := (Below.heap_setCell X2 ⟨b7, 11, none⟩ (.slice (some ⟨bq, 0, none⟩) 1 1) w.heap.size (by dsimp only; omega)).trans r02
      have hwe := hw2.setCell (p := ⟨b7, 11, none⟩) (by dsimp only; omega) (.slice (some ⟨bq, 0, none⟩) 1 1)
      obtain ⟨Z, hZ⟩ : ∃ Z, Z = X2.setCell ⟨b7, 11, none⟩ (.slice (some ⟨bq, 0, none⟩) 1 1) := ⟨_, rfl⟩
      rw [← hZ] at hZs e7 e12 e02 hwe
      rw [← hbq]
      rw [← hZ]
      have g0 := heap_alloc_new Z (.cells #[S q.name, .int .u16 q.typ, .int .u16 q.cls] 26)
      rw [hZs] at g0
      have g7 := (heap_alloc_old Z (.cells #[S q.name, .int .u16 q.typ, .int .u16 q.cls] 26) (Array.getElem?_eq_some_iff.1 e7).1).trans e7
      have g12 := (heap_alloc_old Z (.cells #[S q.name, .int .u16 q.typ, .int .u16 q.cls] 26) (Array.getElem?_eq_some_iff.1 e12).1).trans e12
      have g02 := (heap_alloc_old Z (.cells #[S q.name, .int .u16 q.typ, .int .u16 q.cls] 26) (Array.getElem?_eq_some_iff.1 e02).1).trans e02
      have hwg : Ext w (Z.alloc (.cells #[S q.name, .int .u16 q.typ, .int .u16 q.cls] 26)) := Ext.alloc hwe _
      obtain ⟨X3, hX⟩ : ∃ X3, X3 = Z.alloc (.cells #[S q.name, .int .u16 q.typ, .int .u16 q.cls] 26) := ⟨_, rfl⟩
      rw [← hX] at g7 g0 g12 g02 hwg ⊢
      have hbq7 : b7 < bq := by omega
      clear hX e7 e12 e02 hwe hZ hZs k11 f11 r7 r12 r02 hw2 y13 y14 y15 y16 y17 hbq hz7b
      have r7 := g7
      have r12 := g12
      have hw2 := hwg
      have y17 := box_cell (j := 17) g02 rfl
      clear g7 g12 hwg g02
      have gq := ((grown_row X3 (w.heap.size + 1) #[.int .u16 h.id, .bool true, .int .u8 h.op, .bool false, .bool false, .bool h.rd, .bool true, .bool false, .bool false, .bool h.cd, .int .u8 ((code : Int) % 16), .slice (some ⟨bq, 0, none⟩) 1 1, .slice none 0 0, .slice none 0 0, .slice none 0 0, .bool false, .int .u16 0, .int .u8 0, .int .u8 0, .int .u16 0, .slice none 0 0]).block bq (Array.getElem?_eq_some_iff.1 g0).1 (by simp; omega)).trans g0
      have hqus : Qus (X3.setRow (w.heap.size + 1) #[.int .u16 h.id, .bool true, .int .u8 h.op, .bool false, .bool false, .bool h.rd, .bool true, .bool false, .bool false, .bool h.cd, .int .u8 ((code : Int) % 16), .slice (some ⟨bq, 0, none⟩) 1 1, .slice none 0 0, .slice none 0 0, .slice none 0 0, .bool false, .int .u16 0, .int .u8 0, .int .u8 0, .int .u16 0, .slice none 0 0]) 0 (.slice (some ⟨bq, 0, none⟩) 1 1) [q] := ⟨some ⟨bq, 0, none⟩, 1, rfl, Nat.le_refl _, by unfold maxLen; omega, ⟨rfl, fun _ => ⟨bq, 0, rfl, Nat.zero_le _, (Array.getElem?_eq_some_iff.1 gq).1, fun j u hu => by
        rw [Nat.zero_add]
        exact box_cell (j := j) gq (by simpa [quCells] using hu)⟩⟩⟩
      have L7 := row_all r7
      go_upto_region 8 with fail
      refine wp_region_lit ?_
      repeat (first
        | (refine wpList_load_part (by rfl) 52 (.tmp 7) rfl b7 0 rfl _ L7 _ Tryz.underlying52 rfl (by kernel_rfl) ?_)
        | (refine Go.wpList_store_rowTo rfl 52 (.tmp 6) (.tmp 47) rfl rfl (w.heap.size + 1) #[.int .u16 h.id, .bool true, .int .u8 h.op, .bool false, .bool false, .bool h.rd, .bool true, .bool false, .bool false, .bool h.cd, .int .u8 ((code : Int) % 16), .slice (some ⟨bq, 0, none⟩) 1 1, .slice none 0 0, .slice none 0 0, .slice none 0 0, .bool false, .int .u16 0, .int .u8 0, .int .u8 0, .int .u16 0, .slice none 0 0] rfl rfl 52 _ r12 (by kernel_rfl) rfl (by kernel_rfl) ?_)
        | go_step)
      (try simp only [Exit.inBlock, Exit.then])
      refine bodyPost_ret (results_cell_row rfl _ _ (w.heap.size + 1) _ _ _ _ rfl (setRow_heap X3 (w.heap.size + 1) _ _ _ _ r12) Tryz.underlying52 rfl (by kernel_rfl)) rfl ?_
      have gr := grown_row X3 (w.heap.size + 1) #[.int .u16 h.id, .bool true, .int .u8 h.op, .bool false, .bool false, .bool h.rd, .bool true, .bool false, .bool false, .bool h.cd, .int .u8 ((code : Int) % 16), .slice (some ⟨bq, 0, none⟩) 1 1, .slice none 0 0, .slice none 0 0, .slice none 0 0, .bool false, .int .u16 0, .int .u8 0, .int .u8 0, .int .u16 0, .slice none 0 0]
      have hfin := Below.grown hw2 gr hw2.size (fun k hk => by injection hk with hk; omega)
      refine ⟨.slice (some ⟨bq, 0, none⟩) 1 1, ?_, by rw [HBl.out]; exact hqus, hfin⟩
      rw [HBl.out]
      first | done | rfl
    · have HBl := Lib.hid (show blankOf ⟨kind, ccode, h, true, q, true, csize⟩ (code : Int) (size : Int) = ⟨⟨h.id, true, h.op, false, false, h.rd, true, false, false, h.cd, ((code : Int) % 16)⟩, [q], [], [], [], true, ⟨(size : Int), ((code : Int) / 16), 0, 0, []⟩⟩ by
        unfold blankOf
        simp only [if_true, Bool.false_eq_true, if_false]
        rw [show (code : Int) % 4096 % 16 = ((code : Int) % 16) by omega, show (size : Int) % 65536 = (size : Int) by omega, show (code : Int) % 4096 / 16 = ((code : Int) / 16) by omega])
      have k11 := box_cell (j := 11) r7 rfl
      have f11 := box_free (j := 11) r7
      have hz7b := (Array.getElem?_eq_some_iff.1 r7).1
      go_upto_region 5 with fail
      obtain ⟨bq, hbq⟩ : ∃ bq, bq = X2.heap.size := ⟨_, rfl⟩
      have hZs : (X2.setCell ⟨b7, 11, none⟩ (.slice (some ⟨bq, 0, none⟩) 1 1)).heap.size = bq := by rw [hbq]; simp
      have e7 := row_set r7 11 (.slice (some ⟨bq, 0, none⟩) 1 1)
      have e12 := (Below.heap_setCell X2 ⟨b7, 11, none⟩ (.slice (some ⟨bq, 0, none⟩) 1 1) (w.heap.size + 1) (by dsimp only; omega)).trans r12
      have e02 := (Below.heap_setCell X2 ⟨b7, 11, none⟩ (.slice (some ⟨bq, 0, none⟩) 1 1) w.heap.size (by dsimp only; omega)).trans r02
      have hwe := hw2.setCell (p := ⟨b7, 11, none⟩) (by dsimp only; omega) (.slice (some ⟨bq, 0, none⟩) 1 1)
      obtain ⟨Z, hZ⟩ : ∃ Z, Z = X2.setCell ⟨b7, 11, none⟩ (.slice (some ⟨bq, 0, none⟩) 1 1) := ⟨_, rfl⟩
      rw [← hZ] at hZs e7 e12 e02 hwe
      rw [← hbq]
      rw [← hZ]
      have g0 := heap_alloc_new Z (.cells #[S q.name, .int .u16 q.typ, .int .u16 q.cls] 26)
      rw [hZs] at g0
      have g7 := (heap_alloc_old Z (.cells #[S q.name, .int .u16 q.typ, .int .u16 q.cls] 26) (Array.getElem?_eq_some_iff.1 e7).1).trans e7
      have g12 := (heap_alloc_old Z (.cells #[S q.name, .int .u16 q.typ, .int .u16 q.cls] 26) (Array.getElem?_eq_some_iff.1 e12).1).trans e12
      have g02 := (heap_alloc_old Z (.cells #[S q.name, .int .u16 q.typ, .int .u16 q.cls] 26) (Array.getElem?_eq_some_iff.1 e02).1).trans e02
      have hwg : Ext w (Z.alloc (.cells #[S q.name, .int .u16 q.typ, .int .u16 q.cls] 26)) := Ext.alloc hwe _
      obtain ⟨X3, hX⟩ : ∃ X3, X3 = Z.alloc (.cells #[S q.name, .int .u16 q.typ, .int .u16 q.cls] 26) := ⟨_, rfl⟩
      rw [← hX] at g7 g0 g12 g02 hwg ⊢
      have hbq7 : b7 < bq := by omega
      clear hX e7 e12 e02 hwe hZ hZs k11 f11 r7 r12 r02 hw2 y13 y14 y15 y16 y17 hbq hz7b
      have r7 := g7
      have r12 := g12
      have hw2 := hwg
      have y17 := box_cell (j := 17) g02 rfl
      clear g7 g12 hwg g02
      have k15 := box_cell (j := 15) r7 rfl
      have f15 := box_free (j := 15) r7
      have k16 := box_cell (j := 16) r7 rfl
      have f16 := box_free (j := 16) r7
      have k17 := box_cell (j := 17) r7 rfl
      have f17 := box_free (j := 17) r7
      have k18 := box_cell (j := 18) r7 rfl
      have f18 := box_free (j := 18) r7
      have k19 := box_cell (j := 19) r7 rfl
      have f19 := box_free (j := 19) r7
      have k20 := box_cell (j := 20) r7 rfl
      have f20 := box_free (j := 20) r7
      go_upto_region 8 with fail
      have g7 : ((((((((X3.setCell ⟨b7, 15, none⟩ (.bool true)).setCell ⟨b7, 16, none⟩ (.int .u16 (size : Int))).setCell ⟨b7, 17, none⟩ (.int .u8 ((code : Int) / 16))).setCell ⟨b7, 18, none⟩ (.int .u8 0)).setCell ⟨b7, 19, none⟩ (.int .u16 0)).setCell ⟨b7, 20, none⟩ (.slice none 0 0)))).heap[b7]? = some (.cells #[.int .u16 h.id, .bool true, .int .u8 h.op, .bool false, .bool false, .bool h.rd, .bool true, .bool false, .bool false, .bool h.cd, .int .u8 ((code : Int) % 16), .slice (some ⟨bq, 0, none⟩) 1 1, .slice none 0 0, .slice none 0 0, .slice none 0 0, .bool true, .int .u16 ((size : Nat) : Int), .int .u8 ((code : Int) / 16), .int .u8 0, .int .u16 0, .slice none 0 0] 52) := by
        have q1 := row_set r7 15 (.bool true)
        have q2 := row_set q1 16 (.int .u16 (size : Int))
        have q3 := row_set q2 17 (.int .u8 ((code : Int) / 16))
        have q4 := row_set q3 18 (.int .u8 0)
        have q5 := row_set q4 19 (.int .u16 0)
        exact row_set q5 20 (.slice none 0 0)
      have hby : ∀ k, k ≠ b7 → ((((((((X3.setCell ⟨b7, 15, none⟩ (.bool true)).setCell ⟨b7, 16, none⟩ (.int .u16 (size : Int))).setCell ⟨b7, 17, none⟩ (.int .u8 ((code : Int) / 16))).setCell ⟨b7, 18, none⟩ (.int .u8 0)).setCell ⟨b7, 19, none⟩ (.int .u16 0)).setCell ⟨b7, 20, none⟩ (.slice none 0 0)))).heap[k]? = X3.heap[k]? := fun k hk => by
        rw [Below.heap_setCell _ _ _ k hk, Below.heap_setCell _ _ _ k hk, Below.heap_setCell _ _ _ k hk, Below.heap_setCell _ _ _ k hk, Below.heap_setCell _ _ _ k hk, Below.heap_setCell _ _ _ k hk]
      have g12 := (hby (w.heap.size + 1) (by omega)).trans r12
      have g0b := (hby bq (by omega)).trans g0
      have hwg : Ext w ((((((((X3.setCell ⟨b7, 15, none⟩ (.bool true)).setCell ⟨b7, 16, none⟩ (.int .u16 (size : Int))).setCell ⟨b7, 17, none⟩ (.int .u8 ((code : Int) / 16))).setCell ⟨b7, 18, none⟩ (.int .u8 0)).setCell ⟨b7, 19, none⟩ (.int .u16 0)).setCell ⟨b7, 20, none⟩ (.slice none 0 0)))) := (((((hw2.setCell (p := ⟨b7, 15, none⟩) (by dsimp only; omega) _).setCell (p := ⟨b7, 16, none⟩) (by dsimp only; omega) _).setCell (p := ⟨b7, 17, none⟩) (by dsimp only; omega) _).setCell (p := ⟨b7, 18, none⟩) (by dsimp only; omega) _).setCell (p := ⟨b7, 19, none⟩) (by dsimp only; omega) _).setCell (p := ⟨b7, 20, none⟩) (by dsimp only; omega) _
      obtain ⟨X5, hX⟩ : ∃ X5, X5 = (((((((X3.setCell ⟨b7, 15, none⟩ (.bool true)).setCell ⟨b7, 16, none⟩ (.int .u16 (size : Int))).setCell ⟨b7, 17, none⟩ (.int .u8 ((code : Int) / 16))).setCell ⟨b7, 18, none⟩ (.int .u8 0)).setCell ⟨b7, 19, none⟩ (.int .u16 0)).setCell ⟨b7, 20, none⟩ (.slice none 0 0))) := ⟨_, rfl⟩
      rw [← hX] at g7 g12 hwg g0b
      rw [show ((((((((X3.setCell ⟨b7, 15, none⟩ (.bool true)).setCell ⟨b7, 16, none⟩ (.int .u16 (size : Int))).setCell ⟨b7, 17, none⟩ (.int .u8 ((code : Int) / 16))).setCell ⟨b7, 18, none⟩ (.int .u8 0)).setCell ⟨b7, 19, none⟩ (.int .u16 0)).setCell ⟨b7, 20, none⟩ (.slice none 0 0))) : World) = X5 from hX.symm]
      clear hX hby k15 f15 k16 f16 k17 f17 k18 f18 k19 f19 k20 f20 r7 r12 hw2 g0
      have r7 := g7
      have r12 := g12
      have hw2 := hwg
      have g0 := g0b
      clear g7 g12 hwg g0b
      have gq := ((grown_row X5 (w.heap.size + 1) #[.int .u16 h.id, .bool true, .int .u8 h.op, .bool false, .bool false, .bool h.rd, .bool true, .bool false, .bool false, .bool h.cd, .int .u8 ((code : Int) % 16), .slice (some ⟨bq, 0, none⟩) 1 1, .slice none 0 0, .slice none 0 0, .slice none 0 0, .bool true, .int .u16 ((size : Nat) : Int), .int .u8 ((code : Int) / 16), .int .u8 0, .int .u16 0, .slice none 0 0]).block bq (Array.getElem?_eq_some_iff.1 g0).1 (by simp; omega)).trans g0
      have hqus : Qus (X5.setRow (w.heap.size + 1) #[.int .u16 h.id, .bool true, .int .u8 h.op, .bool false, .bool false, .bool h.rd, .bool true, .bool false, .bool false, .bool h.cd, .int .u8 ((code : Int) % 16), .slice (some ⟨bq, 0, none⟩) 1 1, .slice none 0 0, .slice none 0 0, .slice none 0 0, .bool true, .int .u16 ((size : Nat) : Int), .int .u8 ((code : Int) / 16), .int .u8 0, .int .u16 0, .slice none 0 0]) 0 (.slice (some ⟨bq, 0, none⟩) 1 1) [q] := ⟨some ⟨bq, 0, none⟩, 1, rfl, Nat.le_refl _, by unfold maxLen; omega, ⟨rfl, fun _ => ⟨bq, 0, rfl, Nat.zero_le _, (Array.getElem?_eq_some_iff.1 gq).1, fun j u hu => by
        rw [Nat.zero_add]
        exact box_cell (j := j) gq (by simpa [quCells] using hu)⟩⟩⟩
      have L7 := row_all r7
      go_upto_region 8 with fail
      refine wp_region_lit ?_
      repeat (first
        | (refine wpList_load_part (by rfl) 52 (.tmp 7) rfl b7 0 rfl _ L7 _ Tryz.underlying52 rfl (by kernel_rfl) ?_)
        | (refine Go.wpList_store_rowTo rfl 52 (.tmp 6) (.tmp 47) rfl rfl (w.heap.size + 1) #[.int .u16 h.id, .bool true, .int .u8 h.op, .bool false, .bool false, .bool h.rd, .bool true, .bool false, .bool false, .bool h.cd, .int .u8 ((code : Int) % 16), .slice (some ⟨bq, 0, none⟩) 1 1, .slice none 0 0, .slice none 0 0, .slice none 0 0, .bool true, .int .u16 ((size : Nat) : Int), .int .u8 ((code : Int) / 16), .int .u8 0, .int .u16 0, .slice none 0 0] rfl rfl 52 _ r12 (by kernel_rfl) rfl (by kernel_rfl) ?_)
        | go_step)
      (try simp only [Exit.inBlock, Exit.then])
      refine bodyPost_ret (results_cell_row rfl _ _ (w.heap.size + 1) _ _ _ _ rfl (setRow_heap X5 (w.heap.size + 1) _ _ _ _ r12) Tryz.underlying52 rfl (by kernel_rfl)) rfl ?_
      have gr := grown_row X5 (w.heap.size + 1) #[.int .u16 h.id, .bool true, .int .u8 h.op, .bool false, .bool false, .bool h.rd, .bool true, .bool false, .bool false, .bool h.cd, .int .u8 ((code : Int) % 16), .slice (some ⟨bq, 0, none⟩) 1 1, .slice none 0 0, .slice none 0 0, .slice none 0 0, .bool true, .int .u16 ((size : Nat) : Int), .int .u8 ((code : Int) / 16), .int .u8 0, .int .u16 0, .slice none 0 0]
      have hfin := Below.grown hw2 gr hw2.size (fun k hk => by injection hk with hk; omega)
      refine ⟨.slice (some ⟨bq, 0, none⟩) 1 1, ?_, by rw [HBl.out]; exact hqus, hfin⟩
      rw [HBl.out]
      first | done | rfl
end Go.Proofs.YtebkdcamblifoaaGreatDoor
namespace Go.Proofs.YtebkdcamblifoaaGreatDoor
set_option linter.unusedSimpArgs false
set_option linter.unusedVariables false
open Go.RowKit
set_option maxRecDepth 100000

set_option maxHeartbeats 4000000 in
theorem ref28_bytes (m : MsgD) (q a u x o : Value) (w : World) (hwf : m.wf) (h : Msg7 w m q a u x o) (hda : ∀ r ∈ m.ans ++ m.auth ++ m.extra, r.data.length ≤ 100000) :
    Calls Tryz.prog 40 #[msg7V m.hd q a u x m.he m.ed o] w (StrPost (encOf m) w) := by
  have HE := Lib.hid (fun V (hV : Ext w V) => ref7_encode m q a u x o V hwf (h.ext hV) hda)
  unfold EncPost at HE
  obtain ⟨X0, hX0⟩ : ∃ X0, X0 = w.alloc (.cells #[.int .u16 m.hd.id, .bool m.hd.qr, .int .u8 m.hd.op, .bool m.hd.aa, .bool m.hd.tc, .bool m.hd.rd, .bool m.hd.ra, .bool m.hd.z, .bool m.hd.ad, .bool m.hd.cd, .int .u8 m.hd.code, q, a, u, x, .bool m.he, .int .u16 m.ed.size, .int .u8 m.ed.ext, .int .u8 m.ed.ver, .int .u16 m.ed.flags, o] 52) := ⟨_, rfl⟩
  have hw0 : Ext w X0 := by rw [hX0]; exact (Ext.refl _).alloc _
  have r0 : X0.heap[w.heap.size]? = some (.cells #[.int .u16 m.hd.id, .bool m.hd.qr, .int .u8 m.hd.op, .bool m.hd.aa, .bool m.hd.tc, .bool m.hd.rd, .bool m.hd.ra, .bool m.hd.z, .bool m.hd.ad, .bool m.hd.cd, .int .u8 m.hd.code, q, a, u, x, .bool m.he, .int .u16 m.ed.size, .int .u8 m.ed.ext, .int .u8 m.ed.ver, .int .u16 m.ed.flags, o] 52) := by rw [hX0]; exact heap_alloc_new w _
  have He : encErr m = 0 ∨ encErr m ≠ 0 := Decidable.em _
  go_enter Tryz.func40, Tryz.ntmps40
  go_upto_region 1 with fail
  have hzz : w.alloc (.cells #[.int .u16 m.hd.id, .bool m.hd.qr, .int .u8 m.hd.op, .bool m.hd.aa, .bool m.hd.tc, .bool m.hd.rd, .bool m.hd.ra, .bool m.hd.z, .bool m.hd.ad, .bool m.hd.cd, .int .u8 m.hd.code, q, a, u, x, .bool m.he, .int .u16 m.ed.size, .int .u8 m.ed.ext, .int .u8 m.ed.ver, .int .u16 m.ed.flags, o] 52) = X0 := hX0.symm
  rw [hzz]
  clear hzz hX0
  go_wp2_with (first | (refine wpList_load_part (by rfl) 52 (.tmp 1) rfl w.heap.size 0 rfl [.int .u16 m.hd.id, .bool m.hd.qr, .int .u8 m.hd.op, .bool m.hd.aa, .bool m.hd.tc, .bool m.hd.rd, .bool m.hd.ra, .bool m.hd.z, .bool m.hd.ad, .bool m.hd.cd, .int .u8 m.hd.code, q, a, u, x, .bool m.he, .int .u16 m.ed.size, .int .u8 m.ed.ext, .int .u8 m.ed.ver, .int .u16 m.ed.flags, o] (row_all r0) _ Tryz.underlying52 rfl (by kernel_rfl) ?_) | fail)
  refine (HE.out _ hw0).mono ?_
  rintro e w1 ⟨rfl, hE1⟩
  rcases He with he | he
  · rw [he]
    clear he
    go_wp2_with fail
    go_ret
    exact ⟨rfl, hw0.trans hE1⟩
  · have fe : ((encErr m : Int) == 0) = false := len_ne he
    have hnil := Lib.hid (show encOf m = [] by unfold encOf; rw [if_neg he])
    clear he
    go_wp2_with fail
    go_ret
    exact ⟨by rw [hnil.out]; rfl, hw0.trans hE1⟩
set_option maxHeartbeats 4000000 in
theorem ref28_code (c : CameD) (code size : Int) (w : World) (hc : c.wf) (hn : c.q.name.length ≤ 1048576) :
    Calls Tryz.prog 13 #[caV c, .int .i64 code, .int .i64 size] w (StrPost (codeOf c code size) w) := by
  obtain ⟨R, hR⟩ : ∃ R, R = codeOf c code size := ⟨_, rfl⟩
  rw [← hR]
  unfold codeOf at hR
  obtain ⟨X0, hX0⟩ : ∃ X0, X0 = w.alloc (.cells (caRow c.kind c.code c.hd c.hasQ c.q c.hasE c.size) 28) := ⟨_, rfl⟩
  have hw0 : Ext w X0 := by rw [hX0]; exact (Ext.refl _).alloc _
  have r0 : X0.heap[w.heap.size]? = some (.cells (caRow c.kind c.code c.hd c.hasQ c.q c.hasE c.size) 28) := by rw [hX0]; exact heap_alloc_new _ _
  have z0 : X0.cell? ⟨w.heap.size, 0, none⟩ = some (.int .u8 c.kind) := box_cell r0 rfl
  have z17 : X0.cell? ⟨w.heap.size, 17, none⟩ = some (.bool c.hasE) := box_cell r0 rfl
  have L0 := row_all r0
  have hcut : ((c.kind = 2 ∨ c.kind = 3) ∧ (512 ≤ size ∧ size ≤ 4096) ∧ (0 ≤ code ∧ code ≤ 4095) ∧ (code ≤ 15 ∨ c.hasE = true)) ∨ ¬ ((c.kind = 2 ∨ c.kind = 3) ∧ (512 ≤ size ∧ size ≤ 4096) ∧ (0 ≤ code ∧ code ≤ 4095) ∧ (code ≤ 15 ∨ c.hasE = true)) := Decidable.em _
  have hk3 : ((c.kind = 2 ∨ c.kind = 3) ∧ (((c.kind != 2) = false) ∨ ((c.kind != 2) = true ∧ (c.kind != 3) = false))) ∨ (¬ (c.kind = 2 ∨ c.kind = 3) ∧ (c.kind != 2) = true ∧ (c.kind != 3) = true) := by
    by_cases h2 : c.kind = 2
    · exact .inl ⟨.inl h2, .inl (by rw [h2]; rfl)⟩
    · have f2 : (c.kind != 2) = true := by rw [bne_iff_ne]; exact h2
      by_cases h3 : c.kind = 3
      · exact .inl ⟨.inr h3, .inr ⟨f2, by rw [h3]; rfl⟩⟩
      · exact .inr ⟨fun h => by rcases h with h | h; exact h2 h; exact h3 h, f2, by rw [bne_iff_ne]; exact h3⟩
  go_enter Tryz.func13, Tryz.ntmps13
  go_upto_region 1 with fail
  have hzz : w.alloc (.cells (caRow c.kind c.code c.hd c.hasQ c.q c.hasE c.size) 28) = X0 := hX0.symm
  rw [hzz]
  clear hzz hX0
  rcases hcut with hcut | hcut
  · rw [if_pos hcut] at hR
    obtain ⟨hk, hs, hcd, hh⟩ := hcut
    obtain ⟨cn, rfl⟩ : ∃ cn : Nat, code = cn := ⟨code.toNat, by omega⟩
    obtain ⟨sn, rfl⟩ : ∃ sn : Nat, size = sn := ⟨size.toNat, by omega⟩
    have HB := Lib.hid (ref25_blank c cn sn X0 (by omega) (by omega))
    have HEn := Lib.hid (fun V q (hV : Ext w V) (h : Qus V 0 q (blankOf c cn sn).qs) => ref28_bytes (blankOf c cn sn) q (.slice none 0 0) (.slice none 0 0) (.slice none 0 0) (.slice none 0 0) V (blank_wf hc cn sn) (blank_msg7 h hn) (fun r hr => by simp [blankOf] at hr))
    obtain ⟨m, hm⟩ : ∃ m, m = blankOf c cn sn := ⟨_, rfl⟩
    rw [← hm] at HB HEn hR
    clear hm
    have HR := Lib.hid hR
    have hc1 : ¬ ((cn : Int) < 0) := by omega
    have hc2 : ¬ ((4095 : Int) < (cn : Int)) := by omega
    have hs1 : ¬ ((sn : Int) < 512) := by omega
    have hs2 : ¬ ((4096 : Int) < (sn : Int)) := by omega
    clear hR
    have k4 : ¬ ((15 : Int) < (cn : Int)) ∨ (((15 : Int) < (cn : Int)) ∧ c.hasE = true) := by
      by_cases h : (15 : Int) < (cn : Int)
      · rcases hh with hh | hh
        · omega
        · exact .inr ⟨h, hh⟩
      · exact .inl h
    clear hh hs hcd
    rcases hk3 with ⟨_, k3⟩ | ⟨h, _⟩
    rotate_left
    · exact absurd hk h
    clear hk
    rcases k3 with k3 | ⟨k3, k3'⟩ <;> rcases k4 with k4 | ⟨k4, k4'⟩
    all_goals
      go_upto_region 3 with fail
      (try clear k3')
      (try clear k4')
      clear k3 k4 hc1 hc2 hs1 hs2
      go_wp2_with (first
        | (refine wpList_load_part (by rfl) 28 (.tmp 3) rfl w.heap.size 0 rfl [.int .u8 c.kind, .int .i64 c.code, .int .u16 c.hd.id, .bool c.hd.qr, .int .u8 c.hd.op, .bool c.hd.aa, .bool c.hd.tc, .bool c.hd.rd, .bool c.hd.ra, .bool c.hd.z, .bool c.hd.ad, .bool c.hd.cd, .int .u8 c.hd.code, .bool c.hasQ, S c.q.name, .int .u16 c.q.typ, .int .u16 c.q.cls, .bool c.hasE, .int .i64 c.size] L0 _ Tryz.underlying28 rfl (by kernel_rfl) ?_)
        | fail)
      refine HB.out.mono ?_
      rintro e w2 ⟨q, rfl, hq, hE2⟩
      have hw2 := hw0.trans hE2
      have HE2 := Lib.hid (HEn.out w2 q hw2 hq)
      clear hq hE2
      unfold StrPost at HE2
      go_wp2_with fail
      refine HE2.out.mono ?_
      rintro e w3 ⟨rfl, hE3⟩
      go_wp2_with fail
      go_ret
      exact ⟨by rw [HR.out]; rfl, hw2.trans hE3⟩
  · rw [if_neg hcut] at hR
    have HR := Lib.hid hR
    clear hR
    have hcs : (c.kind = 2 ∨ c.kind = 3) → (size < 512 ∨ (¬ size < 512 ∧ 4096 < size) ∨ (¬ size < 512 ∧ ¬ 4096 < size ∧ code < 0) ∨ (¬ size < 512 ∧ ¬ 4096 < size ∧ ¬ code < 0 ∧ 4095 < code) ∨ (¬ size < 512 ∧ ¬ 4096 < size ∧ ¬ code < 0 ∧ ¬ 4095 < code ∧ 15 < code ∧ c.hasE = false)) := fun hk => by
      by_cases h1 : size < 512
      · exact .inl h1
      by_cases h2 : 4096 < size
      · exact .inr (.inl ⟨h1, h2⟩)
      by_cases h3 : code < 0
      · exact .inr (.inr (.inl ⟨h1, h2, h3⟩))
      by_cases h4 : 4095 < code
      · exact .inr (.inr (.inr (.inl ⟨h1, h2, h3, h4⟩)))
      by_cases h5 : 15 < code
      · refine .inr (.inr (.inr (.inr ⟨h1, h2, h3, h4, h5, ?_⟩)))
        rcases he : c.hasE with _ | _
        · rfl
        · exact absurd ⟨hk, ⟨by omega, by omega⟩, ⟨by omega, by omega⟩, .inr he⟩ hcut
      · exact absurd ⟨hk, ⟨by omega, by omega⟩, ⟨by omega, by omega⟩, .inl (by omega)⟩ hcut
    rcases hk3 with ⟨hk, k3⟩ | ⟨h, k3, k3'⟩
    · have hcs := hcs hk
      clear hcut hk
      rcases k3 with k3 | ⟨k3, k3'⟩ <;> rcases hcs with h1 | ⟨h1, h2⟩ | ⟨h1, h2, h3⟩ | ⟨h1, h2, h3, h4⟩ | ⟨h1, h2, h3, h4, h5, h6⟩
      all_goals
        go_wp2_with fail
        go_ret
        exact ⟨by rw [HR.out]; rfl, hw0⟩
    · clear hcut h hcs
      go_wp2_with fail
      go_ret
      exact ⟨by rw [HR.out]; rfl, hw0⟩
end Go.Proofs.YtebkdcamblifoaaGreatDoor
