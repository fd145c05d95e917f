/- Contracts of functions and plain lemmas that the proofs of this seat share (joined texts). No condition. -/
import Derived.Test.YtebkdcamblifoaaGreatDoorBry
import Derived.Test.YtebkdcamblifoaaGreatDoorBfw4
import Derived.Test.YtebkdcamblifoaaGreatDoorBrz
namespace Go.Proofs.YtebkdcamblifoaaGreatDoor
set_option linter.unusedSimpArgs false
set_option linter.unusedVariables false
open Go.RowKit
set_option maxRecDepth 100000

set_option maxHeartbeats 4000000 in
theorem ref25_blank (c : CameD) (code size : Nat) (w : World) (hc : code ≤ 4095) (hs : size ≤ 65535) : Calls Tryz.prog 41 #[caV c, .int .i64 code, .int .i64 size] w (BlPost (blankOf c code size) w) := by
  obtain ⟨kind, ccode, h, hasQ, q, hasE, csize⟩ := c
  obtain ⟨W0, hW0⟩ : ∃ W0, W0 = (w.alloc (.cells (caRow kind ccode h hasQ q hasE csize) 28)).alloc (.cells msgZ 52) := ⟨_, rfl⟩
  have hw0 : Ext w W0 := by rw [hW0]; exact ((Ext.refl _).alloc _).alloc _
  have r1 : W0.heap[w.heap.size + 1]? = some (.cells msgZ 52) := by rw [hW0]; exact heap_alloc2_new w _ _
  have r0 : W0.heap[w.heap.size]? = some (.cells (caRow kind ccode h hasQ q hasE csize) 28) := by
    rw [hW0]
    have h1 := heap_alloc_new w (.cells (caRow kind ccode h hasQ q hasE csize) 28)
    rw [heap_alloc_old _ _ (Array.getElem?_eq_some_iff.1 h1).1]; exact h1
  have hz0 := (Array.getElem?_eq_some_iff.1 r1).1
  have n1 : (code : Int) % 4096 = (code : Int) := by omega
  have n3 : (0 : Int) ≤ (code : Int) := by omega
  have n4 : (code : Int) ≤ 4095 := by omega
  have n5 : (0 : Int) ≤ (size : Int) := by omega
  have n6 : (size : Int) ≤ 65535 := by omega
  have m1 : ((code : Int) % 16) % 256 = ((code : Int) % 16) := by omega
  have m2 : (size : Int) % 65536 = (size : Int) := by omega
  have m3 : ((code : Int) / 16) % 256 = (code : Int) / 16 := by omega
  have m4 : IntKind.u16.wrap (size : Int) = (size : Int) := by show (size : Int) % 65536 = _; omega
  have m5 : IntKind.u8.wrap ((code : Int) / 16) = ((code : Int) / 16) := by show ((code : Int) / 16) % 256 = _; omega
  have m6 : IntKind.u8.wrap ((code : Int) % 16) = ((code : Int) % 16) := by show ((code : Int) % 16) % 256 = _; omega
  go_enter Tryz.func41, Tryz.ntmps41
  go_upto_region 1 with fail
  have hzz : (w.alloc (.cells (caRow kind ccode h hasQ q hasE csize) 28)).alloc (.cells msgZ 52) = W0 := hW0.symm
  rw [hzz]
  clear hzz hW0
  have z2 := box_cell (j := 2) r0 rfl
  have z4 := box_cell (j := 4) r0 rfl
  have z7 := box_cell (j := 7) r0 rfl
  have z11 := box_cell (j := 11) r0 rfl
  go_upto_region 2 with fail
  refine wp_region_lit ?_
  iterate 51 go_step
  obtain ⟨b7, hb7⟩ : ∃ b7, b7 = W0.heap.size := ⟨_, rfl⟩
  have hz7 : (W0.alloc (.cells msgZ 52)).heap[b7]? = some (.cells msgZ 52) := by rw [hb7]; exact heap_alloc_new _ _
  refine Go.Great.wpList_allocTo rfl (some 7) rfl (.pointer (some ⟨W0.heap.size, 0, none⟩)) (.cells msgZ 52) (by kernel_rfl) ?_
  rw [← hb7]
  refine Go.wpList_store_rowTo rfl 52 (.tmp 7) (.tmp 28) rfl rfl b7 #[.int .u16 h.id, .bool true, .int .u8 h.op, .bool false, .bool false, .bool h.rd, .bool true, .bool false, .bool false, .bool h.cd, .int .u8 ((code : Int) % 16), .slice none 0 0, .slice none 0 0, .slice none 0 0, .slice none 0 0, .bool false, .int .u16 0, .int .u8 0, .int .u8 0, .int .u16 0, .slice none 0 0] rfl rfl 52 _ hz7 (by kernel_rfl) rfl (by kernel_rfl) ?_
  rw [alloc_setRow7 W0 msgZ #[.int .u16 h.id, .bool true, .int .u8 h.op, .bool false, .bool false, .bool h.rd, .bool true, .bool false, .bool false, .bool h.cd, .int .u8 ((code : Int) % 16), .slice none 0 0, .slice none 0 0, .slice none 0 0, .slice none 0 0, .bool false, .int .u16 0, .int .u8 0, .int .u8 0, .int .u16 0, .slice none 0 0] 52 b7 hb7]
  refine wpList_nil ?_
  have r7 : (W0.alloc (.cells #[.int .u16 h.id, .bool true, .int .u8 h.op, .bool false, .bool false, .bool h.rd, .bool true, .bool false, .bool false, .bool h.cd, .int .u8 ((code : Int) % 16), .slice none 0 0, .slice none 0 0, .slice none 0 0, .slice none 0 0, .bool false, .int .u16 0, .int .u8 0, .int .u8 0, .int .u16 0, .slice none 0 0] 52)).heap[b7]? = some (.cells #[.int .u16 h.id, .bool true, .int .u8 h.op, .bool false, .bool false, .bool h.rd, .bool true, .bool false, .bool false, .bool h.cd, .int .u8 ((code : Int) % 16), .slice none 0 0, .slice none 0 0, .slice none 0 0, .slice none 0 0, .bool false, .int .u16 0, .int .u8 0, .int .u8 0, .int .u16 0, .slice none 0 0] 52) := by rw [hb7]; exact heap_alloc_new _ _
  have hE7 : Ext W0 (W0.alloc (.cells #[.int .u16 h.id, .bool true, .int .u8 h.op, .bool false, .bool false, .bool h.rd, .bool true, .bool false, .bool false, .bool h.cd, .int .u8 ((code : Int) % 16), .slice none 0 0, .slice none 0 0, .slice none 0 0, .slice none 0 0, .bool false, .int .u16 0, .int .u8 0, .int .u8 0, .int .u16 0, .slice none 0 0] 52)) := (Ext.refl _).alloc _
  obtain ⟨X2, hX⟩ : ∃ X2, X2 = W0.alloc (.cells #[.int .u16 h.id, .bool true, .int .u8 h.op, .bool false, .bool false, .bool h.rd, .bool true, .bool false, .bool false, .bool h.cd, .int .u8 ((code : Int) % 16), .slice none 0 0, .slice none 0 0, .slice none 0 0, .slice none 0 0, .bool false, .int .u16 0, .int .u8 0, .int .u8 0, .int .u16 0, .slice none 0 0] 52) := ⟨_, rfl⟩
  rw [← hX] at r7 hE7 ⊢
  have hle7 : w.heap.size + 1 < b7 := by omega
  have r02 := (hE7.block _ (Array.getElem?_eq_some_iff.1 r0).1).trans r0
  have r12 := (hE7.block _ (Array.getElem?_eq_some_iff.1 r1).1).trans r1
  have hw2 : Ext w X2 := hw0.trans hE7
  clear hX hz7 hb7 z2 z4 z7 z11 hE7 hw0 r0 r1 hz0
  have y13 := box_cell (j := 13) r02 rfl
  have y14 := box_cell (j := 14) r02 rfl
  have y15 := box_cell (j := 15) r02 rfl
  have y16 := box_cell (j := 16) r02 rfl
  have y17 := box_cell (j := 17) r02 rfl
  go_upto_region 3 with fail
  rcases hasQ with _ | _
  · rcases hasE with _ | _
    · have HBl := Lib.hid (show blankOf ⟨kind, ccode, h, false, q, false, csize⟩ (code : Int) (size : Int) = ⟨⟨h.id, true, h.op, false, false, h.rd, true, false, false, h.cd, ((code : Int) % 16)⟩, [], [], [], [], false, edNone⟩ by
        unfold blankOf
        simp only [if_true, Bool.false_eq_true, if_false]
        rw [show (code : Int) % 4096 % 16 = ((code : Int) % 16) by omega])
      have L7 := row_all r7
      go_upto_region 8 with fail
      refine wp_region_lit ?_
      repeat (first
        | (refine wpList_load_part (by rfl) 52 (.tmp 7) rfl b7 0 rfl _ L7 _ Tryz.underlying52 rfl (by kernel_rfl) ?_)
        | (refine Go.wpList_store_rowTo rfl 52 (.tmp 6) (.tmp 47) rfl rfl (w.heap.size + 1) #[.int .u16 h.id, .bool true, .int .u8 h.op, .bool false, .bool false, .bool h.rd, .bool true, .bool false, .bool false, .bool h.cd, .int .u8 ((code : Int) % 16), .slice none 0 0, .slice none 0 0, .slice none 0 0, .slice none 0 0, .bool false, .int .u16 0, .int .u8 0, .int .u8 0, .int .u16 0, .slice none 0 0] rfl rfl 52 _ r12 (by kernel_rfl) rfl (by kernel_rfl) ?_)
        | go_step)
      (try simp only [Exit.inBlock, Exit.then])
      refine bodyPost_ret (results_cell_row rfl _ _ (w.heap.size + 1) _ _ _ _ rfl (setRow_heap X2 (w.heap.size + 1) _ _ _ _ r12) Tryz.underlying52 rfl (by kernel_rfl)) rfl ?_
      have gr := grown_row X2 (w.heap.size + 1) #[.int .u16 h.id, .bool true, .int .u8 h.op, .bool false, .bool false, .bool h.rd, .bool true, .bool false, .bool false, .bool h.cd, .int .u8 ((code : Int) % 16), .slice none 0 0, .slice none 0 0, .slice none 0 0, .slice none 0 0, .bool false, .int .u16 0, .int .u8 0, .int .u8 0, .int .u16 0, .slice none 0 0]
      have hfin := Below.grown hw2 gr hw2.size (fun k hk => by injection hk with hk; omega)
      refine ⟨.slice none 0 0, ?_, by rw [HBl.out]; exact ⟨none, 0, rfl, Nat.le_refl _, Nat.zero_le _, ⟨rfl, fun hh => absurd hh (Nat.lt_irrefl _)⟩⟩, hfin⟩
      rw [HBl.out]
      first | done | rfl
    · have HBl := Lib.hid (show blankOf ⟨kind, ccode, h, false, q, true, csize⟩ (code : Int) (size : Int) = ⟨⟨h.id, true, h.op, false, false, h.rd, true, false, false, h.cd, ((code : Int) % 16)⟩, [], [], [], [], true, ⟨(size : Int), ((code : Int) / 16), 0, 0, []⟩⟩ by
        unfold blankOf
        simp only [if_true, Bool.false_eq_true, if_false]
        rw [show (code : Int) % 4096 % 16 = ((code : Int) % 16) by omega, show (size : Int) % 65536 = (size : Int) by omega, show (code : Int) % 4096 / 16 = ((code : Int) / 16) by omega])
      have k15 := box_cell (j := 15) r7 rfl
      have f15 := box_free (j := 15) r7
      have k16 := box_cell (j := 16) r7 rfl
      have f16 := box_free (j := 16) r7
      have k17 := box_cell (j := 17) r7 rfl
      have f17 := box_free (j := 17) r7
      have k18 := box_cell (j := 18) r7 rfl
      have f18 := box_free (j := 18) r7
      have k19 := box_cell (j := 19) r7 rfl
      have f19 := box_free (j := 19) r7
      have k20 := box_cell (j := 20) r7 rfl
      have f20 := box_free (j := 20) r7
      go_upto_region 8 with fail
      have g7 : ((((((((X2.setCell ⟨b7, 15, none⟩ (.bool true)).setCell ⟨b7, 16, none⟩ (.int .u16 (size : Int))).setCell ⟨b7, 17, none⟩ (.int .u8 ((code : Int) / 16))).setCell ⟨b7, 18, none⟩ (.int .u8 0)).setCell ⟨b7, 19, none⟩ (.int .u16 0)).setCell ⟨b7, 20, none⟩ (.slice none 0 0)))).heap[b7]? = some (.cells #[.int .u16 h.id, .bool true, .int .u8 h.op, .bool false, .bool false, .bool h.rd, .bool true, .bool false, .bool false, .bool h.cd, .int .u8 ((code : Int) % 16), .slice none 0 0, .slice none 0 0, .slice none 0 0, .slice none 0 0, .bool true, .int .u16 ((size : Nat) : Int), .int .u8 ((code : Int) / 16), .int .u8 0, .int .u16 0, .slice none 0 0] 52) := by
        have q1 := row_set r7 15 (.bool true)
        have q2 := row_set q1 16 (.int .u16 (size : Int))
        have q3 := row_set q2 17 (.int .u8 ((code : Int) / 16))
        have q4 := row_set q3 18 (.int .u8 0)
        have q5 := row_set q4 19 (.int .u16 0)
        exact row_set q5 20 (.slice none 0 0)
      have hby : ∀ k, k ≠ b7 → ((((((((X2.setCell ⟨b7, 15, none⟩ (.bool true)).setCell ⟨b7, 16, none⟩ (.int .u16 (size : Int))).setCell ⟨b7, 17, none⟩ (.int .u8 ((code : Int) / 16))).setCell ⟨b7, 18, none⟩ (.int .u8 0)).setCell ⟨b7, 19, none⟩ (.int .u16 0)).setCell ⟨b7, 20, none⟩ (.slice none 0 0)))).heap[k]? = X2.heap[k]? := fun k hk => by
        rw [Below.heap_setCell _ _ _ k hk, Below.heap_setCell _ _ _ k hk, Below.heap_setCell _ _ _ k hk, Below.heap_setCell _ _ _ k hk, Below.heap_setCell _ _ _ k hk, Below.heap_setCell _ _ _ k hk]
      have g12 := (hby (w.heap.size + 1) (by omega)).trans r12

      have hwg : Ext w ((((((((X2.setCell ⟨b7, 15, none⟩ (.bool true)).setCell ⟨b7, 16, none⟩ (.int .u16 (size : Int))).setCell ⟨b7, 17, none⟩ (.int .u8 ((code : Int) / 16))).setCell ⟨b7, 18, none⟩ (.int .u8 0)).setCell ⟨b7, 19, none⟩ (.int .u16 0)).setCell ⟨b7, 20, none⟩ (.slice none 0 0)))) := (((((hw2.setCell (p := ⟨b7, 15, none⟩) (by dsimp only; omega) _).setCell (p := ⟨b7, 16, none⟩) (by dsimp only; omega) _).setCell (p := ⟨b7, 17, none⟩) (by dsimp only; omega) _).setCell (p := ⟨b7, 18, none⟩) (by dsimp only; omega) _).setCell (p := ⟨b7, 19, none⟩) (by dsimp only; omega) _).setCell (p := ⟨b7, 20, none⟩) (by dsimp only; omega) _
      obtain ⟨X5, hX⟩ : ∃ X5, X5 = (((((((X2.setCell ⟨b7, 15, none⟩ (.bool true)).setCell ⟨b7, 16, none⟩ (.int .u16 (size : Int))).setCell ⟨b7, 17, none⟩ (.int .u8 ((code : Int) / 16))).setCell ⟨b7, 18, none⟩ (.int .u8 0)).setCell ⟨b7, 19, none⟩ (.int .u16 0)).setCell ⟨b7, 20, none⟩ (.slice none 0 0))) := ⟨_, rfl⟩
      rw [← hX] at g7 g12 hwg 
      rw [show ((((((((X2.setCell ⟨b7, 15, none⟩ (.bool true)).setCell ⟨b7, 16, none⟩ (.int .u16 (size : Int))).setCell ⟨b7, 17, none⟩ (.int .u8 ((code : Int) / 16))).setCell ⟨b7, 18, none⟩ (.int .u8 0)).setCell ⟨b7, 19, none⟩ (.int .u16 0)).setCell ⟨b7, 20, none⟩ (.slice none 0 0))) : World) = X5 from hX.symm]
      clear hX hby k15 f15 k16 f16 k17 f17 k18 f18 k19 f19 k20 f20 r7 r12 hw2 
      have r7 := g7
      have r12 := g12
      have hw2 := hwg

      clear g7 g12 hwg 
      have L7 := row_all r7
      go_upto_region 8 with fail
      refine wp_region_lit ?_
      repeat (first
        | (refine wpList_load_part (by rfl) 52 (.tmp 7) rfl b7 0 rfl _ L7 _ Tryz.underlying52 rfl (by kernel_rfl) ?_)
        | (refine Go.wpList_store_rowTo rfl 52 (.tmp 6) (.tmp 47) rfl rfl (w.heap.size + 1) #[.int .u16 h.id, .bool true, .int .u8 h.op, .bool false, .bool false, .bool h.rd, .bool true, .bool false, .bool false, .bool h.cd, .int .u8 ((code : Int) % 16), .slice none 0 0, .slice none 0 0, .slice none 0 0, .slice none 0 0, .bool true, .int .u16 ((size : Nat) : Int), .int .u8 ((code : Int) / 16), .int .u8 0, .int .u16 0, .slice none 0 0] rfl rfl 52 _ r12 (by kernel_rfl) rfl (by kernel_rfl) ?_)
        | go_step)
      (try simp only [Exit.inBlock, Exit.then])
      refine bodyPost_ret (results_cell_row rfl _ _ (w.heap.size + 1) _ _ _ _ rfl (setRow_heap X5 (w.heap.size + 1) _ _ _ _ r12) Tryz.underlying52 rfl (by kernel_rfl)) rfl ?_
      have gr := grown_row X5 (w.heap.size + 1) #[.int .u16 h.id, .bool true, .int .u8 h.op, .bool false, .bool false, .bool h.rd, .bool true, .bool false, .bool false, .bool h.cd, .int .u8 ((code : Int) % 16), .slice none 0 0, .slice none 0 0, .slice none 0 0, .slice none 0 0, .bool true, .int .u16 ((size : Nat) : Int), .int .u8 ((code : Int) / 16), .int .u8 0, .int .u16 0, .slice none 0 0]
      have hfin := Below.grown hw2 gr hw2.size (fun k hk => by injection hk with hk; omega)
      refine ⟨.slice none 0 0, ?_, by rw [HBl.out]; exact ⟨none, 0, rfl, Nat.le_refl _, Nat.zero_le _, ⟨rfl, fun hh => absurd hh (Nat.lt_irrefl _)⟩⟩, hfin⟩
      rw [HBl.out]
      first | done | rfl
  · rcases hasE with _ | _
    · have HBl := Lib.hid (show blankOf ⟨kind, ccode, h, true, q, false, csize⟩ (code : Int) (size : Int) = ⟨⟨h.id, true, h.op, false, false, h.rd, true, false, false, h.cd, ((code : Int) % 16)⟩, [q], [], [], [], false, edNone⟩ by
        unfold blankOf
        simp only [if_true, Bool.false_eq_true, if_false]
        rw [show (code : Int) % 4096 % 16 = ((code : Int) % 16) by omega])
      have k11 := box_cell (j := 11) r7 rfl
      have f11 := box_free (j := 11) r7
      have hz7b := (Array.getElem?_eq_some_iff.1 r7).1
      go_upto_region 5 with fail
      obtain ⟨bq, hbq⟩ : ∃ bq, bq = X2.heap.size := ⟨_, rfl⟩
      have hZs : (X2.setCell ⟨b7, 11, none⟩ (.slice (some ⟨bq, 0, none⟩) 1 1)).heap.size = bq := by rw [hbq]; simp
      have e7 := row_set r7 11 (.slice (some ⟨bq, 0, none⟩) 1 1)
      have e12 := (Below.heap_setCell X2 ⟨b7, 11, none⟩ (.slice (some ⟨bq, 0, none⟩) 1 1) (w.heap.size + 1) (by dsimp only; omega)).trans r12
      have e02 := (Below.heap_setCell X2 ⟨b7, 11, none⟩ (.slice (some ⟨bq, 0, none⟩) 1 1) w.heap.size (by dsimp only; omega)).trans r02
      have hwe := hw2.setCell (p := ⟨b7, 11, none⟩) (by dsimp only; omega) (.slice (some ⟨bq, 0, none⟩) 1 1)
      obtain ⟨Z, hZ⟩ : ∃ Z, Z = X2.setCell ⟨b7, 11, none⟩ (.slice (some ⟨bq, 0, none⟩) 1 1) := ⟨_, rfl⟩
      rw [← hZ] at hZs e7 e12 e02 hwe
      rw [← hbq]
      rw [← hZ]
      have g0 := heap_alloc_new Z (.cells #[S q.name, .int .u16 q.typ, .int .u16 q.cls] 26)
      rw [hZs] at g0
      have g7 := (heap_alloc_old Z (.cells #[S q.name, .int .u16 q.typ, .int .u16 q.cls] 26) (Array.getElem?_eq_some_iff.1 e7).1).trans e7
      have g12 := (heap_alloc_old Z (.cells #[S q.name, .int .u16 q.typ, .int .u16 q.cls] 26) (Array.getElem?_eq_some_iff.1 e12).1).trans e12
      have g02 := (heap_alloc_old Z (.cells #[S q.name, .int .u16 q.typ, .int .u16 q.cls] 26) (Array.getElem?_eq_some_iff.1 e02).1).trans e02
      have hwg : Ext w (Z.alloc (.cells #[S q.name, .int .u16 q.typ, .int .u16 q.cls] 26)) := Ext.alloc hwe _
      obtain ⟨X3, hX⟩ : ∃ X3, X3 = Z.alloc (.cells #[S q.name, .int .u16 q.typ, .int .u16 q.cls] 26) := ⟨_, rfl⟩
      rw [← hX] at g7 g0 g12 g02 hwg ⊢
      have hbq7 : b7 < bq := by omega
      clear hX e7 e12 e02 hwe hZ hZs k11 f11 r7 r12 r02 hw2 y13 y14 y15 y16 y17 hbq hz7b
      have r7 := g7
      have r12 := g12
      have hw2 := hwg
      have y17 := box_cell (j := 17) g02 rfl
      clear g7 g12 hwg g02
      have gq := ((grown_row X3 (w.heap.size + 1) #[.int .u16 h.id, .bool true, .int .u8 h.op, .bool false, .bool false, .bool h.rd, .bool true, .bool false, .bool false, .bool h.cd, .int .u8 ((code : Int) % 16), .slice (some ⟨bq, 0, none⟩) 1 1, .slice none 0 0, .slice none 0 0, .slice none 0 0, .bool false, .int .u16 0, .int .u8 0, .int .u8 0, .int .u16 0, .slice none 0 0]).block bq (Array.getElem?_eq_some_iff.1 g0).1 (by simp; omega)).trans g0
      have hqus : Qus (X3.setRow (w.heap.size + 1) #[.int .u16 h.id, .bool true, .int .u8 h.op, .bool false, .bool false, .bool h.rd, .bool true, .bool false, .bool false, .bool h.cd, .int .u8 ((code : Int) % 16), .slice (some ⟨bq, 0, none⟩) 1 1, .slice none 0 0, .slice none 0 0, .slice none 0 0, .bool false, .int .u16 0, .int .u8 0, .int .u8 0, .int .u16 0, .slice none 0 0]) 0 (.slice (some ⟨bq, 0, none⟩) 1 1) [q] := ⟨some ⟨bq, 0, none⟩, 1, rfl, Nat.le_refl _, by unfold maxLen; omega, ⟨rfl, fun _ => ⟨bq, 0, rfl, Nat.zero_le _, (Array.getElem?_eq_some_iff.1 gq).1, fun j u hu => by
        rw [Nat.zero_add]
        exact box_cell (j := j) gq (by simpa [quCells] using hu)⟩⟩⟩
      have L7 := row_all r7
      go_upto_region 8 with fail
      refine wp_region_lit ?_
      repeat (first
        | (refine wpList_load_part (by rfl) 52 (.tmp 7) rfl b7 0 rfl _ L7 _ Tryz.underlying52 rfl (by kernel_rfl) ?_)
        | (refine Go.wpList_store_rowTo rfl 52 (.tmp 6) (.tmp 47) rfl rfl (w.heap.size + 1) #[.int .u16 h.id, .bool true, .int .u8 h.op, .bool false, .bool false, .bool h.rd, .bool true, .bool false, .bool false, .bool h.cd, .int .u8 ((code : Int) % 16), .slice (some ⟨bq, 0, none⟩) 1 1, .slice none 0 0, .slice none 0 0, .slice none 0 0, .bool false, .int .u16 0, .int .u8 0, .int .u8 0, .int .u16 0, .slice none 0 0] rfl rfl 52 _ r12 (by kernel_rfl) rfl (by kernel_rfl) ?_)
        | go_step)
      (try simp only [Exit.inBlock, Exit.then])
      refine bodyPost_ret (results_cell_row rfl _ _ (w.heap.size + 1) _ _ _ _ rfl (setRow_heap X3 (w.heap.size + 1) _ _ _ _ r12) Tryz.underlying52 rfl (by kernel_rfl)) rfl ?_
      have gr := grown_row X3 (w.heap.size + 1) #[.int .u16 h.id, .bool true, .int .u8 h.op, .bool false, .bool false, .bool h.rd, .bool true, .bool false, .bool false, .bool h.cd, .int .u8 ((code : Int) % 16), .slice (some ⟨bq, 0, none⟩) 1 1, .slice none 0 0, .slice none 0 0, .slice none 0 0, .bool false, .int .u16 0, .int .u8 0, .int .u8 0, .int .u16 0, .slice none 0 0]
      have hfin := Below.grown hw2 gr hw2.size (fun k hk => by injection hk with hk; omega)
      refine ⟨.slice (some ⟨bq, 0, none⟩) 1 1, ?_, by rw [HBl.out]; exact hqus, hfin⟩
      rw [HBl.out]
      first | done | rfl
    · have HBl := Lib.hid (show blankOf ⟨kind, ccode, h, true, q, true, csize⟩ (code : Int) (size : Int) = ⟨⟨h.id, true, h.op, false, false, h.rd, true, false, false, h.cd, ((code : Int) % 16)⟩, [q], [], [], [], true, ⟨(size : Int), ((code : Int) / 16), 0, 0, []⟩⟩ by
        unfold blankOf
        simp only [if_true, Bool.false_eq_true, if_false]
        rw [show (code : Int) % 4096 % 16 = ((code : Int) % 16) by omega, show (size : Int) % 65536 = (size : Int) by omega, show (code : Int) % 4096 / 16 = ((code : Int) / 16) by omega])
      have k11 := box_cell (j := 11) r7 rfl
      have f11 := box_free (j := 11) r7
      have hz7b := (Array.getElem?_eq_some_iff.1 r7).1
      go_upto_region 5 with fail
      obtain ⟨bq, hbq⟩ : ∃ bq, bq = X2.heap.size := ⟨_, rfl⟩
      have hZs : (X2.setCell ⟨b7, 11, none⟩ (.slice (some ⟨bq, 0, none⟩) 1 1)).heap.size = bq := by rw [hbq]; simp
      have e7 := row_set r7 11 (.slice (some ⟨bq, 0, none⟩) 1 1)
      have e12 := (Below.heap_setCell X2 ⟨b7, 11, none⟩ (.slice (some ⟨bq, 0, none⟩) 1 1) (w.heap.size + 1) (by dsimp only; omega)).trans r12
      have e02 := (Below.heap_setCell X2 ⟨b7, 11, none⟩ (.slice (some ⟨bq, 0, none⟩) 1 1) w.heap.size (by dsimp only; omega)).trans r02
      have hwe := hw2.setCell (p := ⟨b7, 11, none⟩) (by dsimp only; omega) (.slice (some ⟨bq, 0, none⟩) 1 1)
      obtain ⟨Z, hZ⟩ : ∃ Z, Z = X2.setCell ⟨b7, 11, none⟩ (.slice (some ⟨bq, 0, none⟩) 1 1) := ⟨_, rfl⟩
      rw [← hZ] at hZs e7 e12 e02 hwe
      rw [← hbq]
      rw [← hZ]
      have g0 := heap_alloc_new Z (.cells #[S q.name, .int .u16 q.typ, .int .u16 q.cls] 26)
      rw [hZs] at g0
      have g7 := (heap_alloc_old Z (.cells #[S q.name, .int .u16 q.typ, .int .u16 q.cls] 26) (Array.getElem?_eq_some_iff.1 e7).1).trans e7
      have g12 := (heap_alloc_old Z (.cells #[S q.name, .int .u16 q.typ, .int .u16 q.cls] 26) (Array.getElem?_eq_some_iff.1 e12).1).trans e12
      have g02 := (heap_alloc_old Z (.cells #[S q.name, .int .u16 q.typ, .int .u16 q.cls] 26) (Array.getElem?_eq_some_iff.1 e02).1).trans e02
      have hwg : Ext w (Z.alloc (.cells #[S q.name, .int .u16 q.typ, .int .u16 q.cls] 26)) := Ext.alloc hwe _
      obtain ⟨X3, hX⟩ : ∃ X3, X3 = Z.alloc (.cells #[S q.name, .int .u16 q.typ, .int .u16 q.cls] 26) := ⟨_, rfl⟩
      rw [← hX] at g7 g0 g12 g02 hwg ⊢
      have hbq7 : b7 < bq := by omega
      clear hX e7 e12 e02 hwe hZ hZs k11 f11 r7 r12 r02 hw2 y13 y14 y15 y16 y17 hbq hz7b
      have r7 := g7
      have r12 := g12
      have hw2 := hwg
      have y17 := box_cell (j := 17) g02 rfl
      clear g7 g12 hwg g02
      have k15 := box_cell (j := 15) r7 rfl
      have f15 := box_free (j := 15) r7
      have k16 := box_cell (j := 16) r7 rfl
      have f16 := box_free (j := 16) r7
      have k17 := box_cell (j := 17) r7 rfl
      have f17 := box_free (j := 17) r7
      have k18 := box_cell (j := 18) r7 rfl
      have f18 := box_free (j := 18) r7
      have k19 := box_cell (j := 19) r7 rfl
      have f19 := box_free (j := 19) r7
      have k20 := box_cell (j := 20) r7 rfl
      have f20 := box_free (j := 20) r7
      go_upto_region 8 with fail
      have g7 : ((((((((X3.setCell ⟨b7, 15, none⟩ (.bool true)).setCell ⟨b7, 16, none⟩ (.int .u16 (size : Int))).setCell ⟨b7, 17, none⟩ (.int .u8 ((code : Int) / 16))).setCell ⟨b7, 18, none⟩ (.int .u8 0)).setCell ⟨b7, 19, none⟩ (.int .u16 0)).setCell ⟨b7, 20, none⟩ (.slice none 0 0)))).heap[b7]? = some (.cells #[.int .u16 h.id, .bool true, .int .u8 h.op, .bool false, .bool false, .bool h.rd, .bool true, .bool false, .bool false, .bool h.cd, .int .u8 ((code : Int) % 16), .slice (some ⟨bq, 0, none⟩) 1 1, .slice none 0 0, .slice none 0 0, .slice none 0 0, .bool true, .int .u16 ((size : Nat) : Int), .int .u8 ((code : Int) / 16), .int .u8 0, .int .u16 0, .slice none 0 0] 52) := by
        have q1 := row_set r7 15 (.bool true)
        have q2 := row_set q1 16 (.int .u16 (size : Int))
        have q3 := row_set q2 17 (.int .u8 ((code : Int) / 16))
        have q4 := row_set q3 18 (.int .u8 0)
        have q5 := row_set q4 19 (.int .u16 0)
        exact row_set q5 20 (.slice none 0 0)
      have hby : ∀ k, k ≠ b7 → ((((((((X3.setCell ⟨b7, 15, none⟩ (.bool true)).setCell ⟨b7, 16, none⟩ (.int .u16 (size : Int))).setCell ⟨b7, 17, none⟩ (.int .u8 ((code : Int) / 16))).setCell ⟨b7, 18, none⟩ (.int .u8 0)).setCell ⟨b7, 19, none⟩ (.int .u16 0)).setCell ⟨b7, 20, none⟩ (.slice none 0 0)))).heap[k]? = X3.heap[k]? := fun k hk => by
        rw [Below.heap_setCell _ _ _ k hk, Below.heap_setCell _ _ _ k hk, Below.heap_setCell _ _ _ k hk, Below.heap_setCell _ _ _ k hk, Below.heap_setCell _ _ _ k hk, Below.heap_setCell _ _ _ k hk]
      have g12 := (hby (w.heap.size + 1) (by omega)).trans r12
      have g0b := (hby bq (by omega)).trans g0
      have hwg : Ext w ((((((((X3.setCell ⟨b7, 15, none⟩ (.bool true)).setCell ⟨b7, 16, none⟩ (.int .u16 (size : Int))).setCell ⟨b7, 17, none⟩ (.int .u8 ((code : Int) / 16))).setCell ⟨b7, 18, none⟩ (.int .u8 0)).setCell ⟨b7, 19, none⟩ (.int .u16 0)).setCell ⟨b7, 20, none⟩ (.slice none 0 0)))) := (((((hw2.setCell (p := ⟨b7, 15, none⟩) (by dsimp only; omega) _).setCell (p := ⟨b7, 16, none⟩) (by dsimp only; omega) _).setCell (p := ⟨b7, 17, none⟩) (by dsimp only; omega) _).setCell (p := ⟨b7, 18, none⟩) (by dsimp only; omega) _).setCell (p := ⟨b7, 19, none⟩) (by dsimp only; omega) _).setCell (p := ⟨b7, 20, none⟩) (by dsimp only; omega) _
      obtain ⟨X5, hX⟩ : ∃ X5, X5 = (((((((X3.setCell ⟨b7, 15, none⟩ (.bool true)).setCell ⟨b7, 16, none⟩ (.int .u16 (size : Int))).setCell ⟨b7, 17, none⟩ (.int .u8 ((code : Int) / 16))).setCell ⟨b7, 18, none⟩ (.int .u8 0)).setCell ⟨b7, 19, none⟩ (.int .u16 0)).setCell ⟨b7, 20, none⟩ (.slice none 0 0))) := ⟨_, rfl⟩
      rw [← hX] at g7 g12 hwg g0b
      rw [show ((((((((X3.setCell ⟨b7, 15, none⟩ (.bool true)).setCell ⟨b7, 16, none⟩ (.int .u16 (size : Int))).setCell ⟨b7, 17, none⟩ (.int .u8 ((code : Int) / 16))).setCell ⟨b7, 18, none⟩ (.int .u8 0)).setCell ⟨b7, 19, none⟩ (.int .u16 0)).setCell ⟨b7, 20, none⟩ (.slice none 0 0))) : World) = X5 from hX.symm]
      clear hX hby k15 f15 k16 f16 k17 f17 k18 f18 k19 f19 k20 f20 r7 r12 hw2 g0
      have r7 := g7
      have r12 := g12
      have hw2 := hwg
      have g0 := g0b
      clear g7 g12 hwg g0b
      have gq := ((grown_row X5 (w.heap.size + 1) #[.int .u16 h.id, .bool true, .int .u8 h.op, .bool false, .bool false, .bool h.rd, .bool true, .bool false, .bool false, .bool h.cd, .int .u8 ((code : Int) % 16), .slice (some ⟨bq, 0, none⟩) 1 1, .slice none 0 0, .slice none 0 0, .slice none 0 0, .bool true, .int .u16 ((size : Nat) : Int), .int .u8 ((code : Int) / 16), .int .u8 0, .int .u16 0, .slice none 0 0]).block bq (Array.getElem?_eq_some_iff.1 g0).1 (by simp; omega)).trans g0
      have hqus : Qus (X5.setRow (w.heap.size + 1) #[.int .u16 h.id, .bool true, .int .u8 h.op, .bool false, .bool false, .bool h.rd, .bool true, .bool false, .bool false, .bool h.cd, .int .u8 ((code : Int) % 16), .slice (some ⟨bq, 0, none⟩) 1 1, .slice none 0 0, .slice none 0 0, .slice none 0 0, .bool true, .int .u16 ((size : Nat) : Int), .int .u8 ((code : Int) / 16), .int .u8 0, .int .u16 0, .slice none 0 0]) 0 (.slice (some ⟨bq, 0, none⟩) 1 1) [q] := ⟨some ⟨bq, 0, none⟩, 1, rfl, Nat.le_refl _, by unfold maxLen; omega, ⟨rfl, fun _ => ⟨bq, 0, rfl, Nat.zero_le _, (Array.getElem?_eq_some_iff.1 gq).1, fun j u hu => by
        rw [Nat.zero_add]
        exact box_cell (j := j) gq (by simpa [quCells] using hu)⟩⟩⟩
      have L7 := row_all r7
      go_upto_region 8 with fail
      refine wp_region_lit ?_
      repeat (first
        | (refine wpList_load_part (by rfl) 52 (.tmp 7) rfl b7 0 rfl _ L7 _ Tryz.underlying52 rfl (by kernel_rfl) ?_)
        | (refine Go.wpList_store_rowTo rfl 52 (.tmp 6) (.tmp 47) rfl rfl (w.heap.size + 1) #[.int .u16 h.id, .bool true, .int .u8 h.op, .bool false, .bool false, .bool h.rd, .bool true, .bool false, .bool false, .bool h.cd, .int .u8 ((code : Int) % 16), .slice (some ⟨bq, 0, none⟩) 1 1, .slice none 0 0, .slice none 0 0, .slice none 0 0, .bool true, .int .u16 ((size : Nat) : Int), .int .u8 ((code : Int) / 16), .int .u8 0, .int .u16 0, .slice none 0 0] rfl rfl 52 _ r12 (by kernel_rfl) rfl (by kernel_rfl) ?_)
        | go_step)
      (try simp only [Exit.inBlock, Exit.then])
      refine bodyPost_ret (results_cell_row rfl _ _ (w.heap.size + 1) _ _ _ _ rfl (setRow_heap X5 (w.heap.size + 1) _ _ _ _ r12) Tryz.underlying52 rfl (by kernel_rfl)) rfl ?_
      have gr := grown_row X5 (w.heap.size + 1) #[.int .u16 h.id, .bool true, .int .u8 h.op, .bool false, .bool false, .bool h.rd, .bool true, .bool false, .bool false, .bool h.cd, .int .u8 ((code : Int) % 16), .slice (some ⟨bq, 0, none⟩) 1 1, .slice none 0 0, .slice none 0 0, .slice none 0 0, .bool true, .int .u16 ((size : Nat) : Int), .int .u8 ((code : Int) / 16), .int .u8 0, .int .u16 0, .slice none 0 0]
      have hfin := Below.grown hw2 gr hw2.size (fun k hk => by injection hk with hk; omega)
      refine ⟨.slice (some ⟨bq, 0, none⟩) 1 1, ?_, by rw [HBl.out]; exact hqus, hfin⟩
      rw [HBl.out]
      first | done | rfl
end Go.Proofs.YtebkdcamblifoaaGreatDoor
namespace Go.Proofs.YtebkdcamblifoaaGreatDoor
set_option linter.unusedSimpArgs false
set_option linter.unusedVariables false
open Go.RowKit
set_option maxRecDepth 100000

set_option maxHeartbeats 4000000 in
theorem ref28_bytes (m : MsgD) (q a u x o : Value) (w : World) (hwf : m.wf) (h : Msg7 w m q a u x o) (hda : ∀ r ∈ m.ans ++ m.auth ++ m.extra, r.data.length ≤ 100000) :
    Calls Tryz.prog 40 #[msg7V m.hd q a u x m.he m.ed o] w (StrPost (encOf m) w) := by
  have HE := Lib.hid (fun V (hV : Ext w V) => ref7_encode m q a u x o V hwf (h.ext hV) hda)
  unfold EncPost at HE
  obtain ⟨X0, hX0⟩ : ∃ X0, X0 = w.alloc (.cells #[.int .u16 m.hd.id, .bool m.hd.qr, .int .u8 m.hd.op, .bool m.hd.aa, .bool m.hd.tc, .bool m.hd.rd, .bool m.hd.ra, .bool m.hd.z, .bool m.hd.ad, .bool m.hd.cd, .int .u8 m.hd.code, q, a, u, x, .bool m.he, .int .u16 m.ed.size, .int .u8 m.ed.ext, .int .u8 m.ed.ver, .int .u16 m.ed.flags, o] 52) := ⟨_, rfl⟩
  have hw0 : Ext w X0 := by rw [hX0]; exact (Ext.refl _).alloc _
  have r0 : X0.heap[w.heap.size]? = some (.cells #[.int .u16 m.hd.id, .bool m.hd.qr, .int .u8 m.hd.op, .bool m.hd.aa, .bool m.hd.tc, .bool m.hd.rd, .bool m.hd.ra, .bool m.hd.z, .bool m.hd.ad, .bool m.hd.cd, .int .u8 m.hd.code, q, a, u, x, .bool m.he, .int .u16 m.ed.size, .int .u8 m.ed.ext, .int .u8 m.ed.ver, .int .u16 m.ed.flags, o] 52) := by rw [hX0]; exact heap_alloc_new w _
  have He : encErr m = 0 ∨ encErr m ≠ 0 := Decidable.em _
  go_enter Tryz.func40, Tryz.ntmps40
  go_upto_region 1 with fail
  have hzz : w.alloc (.cells #[.int .u16 m.hd.id, .bool m.hd.qr, .int .u8 m.hd.op, .bool m.hd.aa, .bool m.hd.tc, .bool m.hd.rd, .bool m.hd.ra, .bool m.hd.z, .bool m.hd.ad, .bool m.hd.cd, .int .u8 m.hd.code, q, a, u, x, .bool m.he, .int .u16 m.ed.size, .int .u8 m.ed.ext, .int .u8 m.ed.ver, .int .u16 m.ed.flags, o] 52) = X0 := hX0.symm
  rw [hzz]
  clear hzz hX0
  go_wp2_with (first | (refine wpList_load_part (by rfl) 52 (.tmp 1) rfl w.heap.size 0 rfl [.int .u16 m.hd.id, .bool m.hd.qr, .int .u8 m.hd.op, .bool m.hd.aa, .bool m.hd.tc, .bool m.hd.rd, .bool m.hd.ra, .bool m.hd.z, .bool m.hd.ad, .bool m.hd.cd, .int .u8 m.hd.code, q, a, u, x, .bool m.he, .int .u16 m.ed.size, .int .u8 m.ed.ext, .int .u8 m.ed.ver, .int .u16 m.ed.flags, o] (row_all r0) _ Tryz.underlying52 rfl (by kernel_rfl) ?_) | fail)
  refine (HE.out _ hw0).mono ?_
  rintro e w1 ⟨rfl, hE1⟩
  rcases He with he | he
  · rw [he]
    clear he
    go_wp2_with fail
    go_ret
    exact ⟨rfl, hw0.trans hE1⟩
  · have fe : ((encErr m : Int) == 0) = false := len_ne he
    have hnil := Lib.hid (show encOf m = [] by unfold encOf; rw [if_neg he])
    clear he
    go_wp2_with fail
    go_ret
    exact ⟨by rw [hnil.out]; rfl, hw0.trans hE1⟩
set_option maxHeartbeats 4000000 in
theorem ref28_code (c : CameD) (code size : Int) (w : World) (hc : c.wf) (hn : c.q.name.length ≤ 1048576) :
    Calls Tryz.prog 13 #[caV c, .int .i64 code, .int .i64 size] w (StrPost (codeOf c code size) w) := by
  obtain ⟨R, hR⟩ : ∃ R, R = codeOf c code size := ⟨_, rfl⟩
  rw [← hR]
  unfold codeOf at hR
  obtain ⟨X0, hX0⟩ : ∃ X0, X0 = w.alloc (.cells (caRow c.kind c.code c.hd c.hasQ c.q c.hasE c.size) 28) := ⟨_, rfl⟩
  have hw0 : Ext w X0 := by rw [hX0]; exact (Ext.refl _).alloc _
  have r0 : X0.heap[w.heap.size]? = some (.cells (caRow c.kind c.code c.hd c.hasQ c.q c.hasE c.size) 28) := by rw [hX0]; exact heap_alloc_new _ _
  have z0 : X0.cell? ⟨w.heap.size, 0, none⟩ = some (.int .u8 c.kind) := box_cell r0 rfl
  have z17 : X0.cell? ⟨w.heap.size, 17, none⟩ = some (.bool c.hasE) := box_cell r0 rfl
  have L0 := row_all r0
  have hcut : ((c.kind = 2 ∨ c.kind = 3) ∧ (512 ≤ size ∧ size ≤ 4096) ∧ (0 ≤ code ∧ code ≤ 4095) ∧ (code ≤ 15 ∨ c.hasE = true)) ∨ ¬ ((c.kind = 2 ∨ c.kind = 3) ∧ (512 ≤ size ∧ size ≤ 4096) ∧ (0 ≤ code ∧ code ≤ 4095) ∧ (code ≤ 15 ∨ c.hasE = true)) := Decidable.em _
  have hk3 : ((c.kind = 2 ∨ c.kind = 3) ∧ (((c.kind != 2) = false) ∨ ((c.kind != 2) = true ∧ (c.kind != 3) = false))) ∨ (¬ (c.kind = 2 ∨ c.kind = 3) ∧ (c.kind != 2) = true ∧ (c.kind != 3) = true) := by
    by_cases h2 : c.kind = 2
    · exact .inl ⟨.inl h2, .inl (by rw [h2]; rfl)⟩
    · have f2 : (c.kind != 2) = true := by rw [bne_iff_ne]; exact h2
      by_cases h3 : c.kind = 3
      · exact .inl ⟨.inr h3, .inr ⟨f2, by rw [h3]; rfl⟩⟩
      · exact .inr ⟨fun h => by rcases h with h | h; exact h2 h; exact h3 h, f2, by rw [bne_iff_ne]; exact h3⟩
  go_enter Tryz.func13, Tryz.ntmps13
  go_upto_region 1 with fail
  have hzz : w.alloc (.cells (caRow c.kind c.code c.hd c.hasQ c.q c.hasE c.size) 28) = X0 := hX0.symm
  rw [hzz]
  clear hzz hX0
  rcases hcut with hcut | hcut
  · rw [if_pos hcut] at hR
    obtain ⟨hk, hs, hcd, hh⟩ := hcut
    obtain ⟨cn, rfl⟩ : ∃ cn : Nat, code = cn := ⟨code.toNat, by omega⟩
    obtain ⟨sn, rfl⟩ : ∃ sn : Nat, size = sn := ⟨size.toNat, by omega⟩
    have HB := Lib.hid (ref25_blank c cn sn X0 (by omega) (by omega))
    have HEn := Lib.hid (fun V q (hV : Ext w V) (h : Qus V 0 q (blankOf c cn sn).qs) => ref28_bytes (blankOf c cn sn) q (.slice none 0 0) (.slice none 0 0) (.slice none 0 0) (.slice none 0 0) V (blank_wf hc cn sn) (blank_msg7 h hn) (fun r hr => by simp [blankOf] at hr))
    obtain ⟨m, hm⟩ : ∃ m, m = blankOf c cn sn := ⟨_, rfl⟩
    rw [← hm] at HB HEn hR
    clear hm
    have HR := Lib.hid hR
    have hc1 : ¬ ((cn : Int) < 0) := by omega
    have hc2 : ¬ ((4095 : Int) < (cn : Int)) := by omega
    have hs1 : ¬ ((sn : Int) < 512) := by omega
    have hs2 : ¬ ((4096 : Int) < (sn : Int)) := by omega
    clear hR
    have k4 : ¬ ((15 : Int) < (cn : Int)) ∨ (((15 : Int) < (cn : Int)) ∧ c.hasE = true) := by
      by_cases h : (15 : Int) < (cn : Int)
      · rcases hh with hh | hh
        · omega
        · exact .inr ⟨h, hh⟩
      · exact .inl h
    clear hh hs hcd
    rcases hk3 with ⟨_, k3⟩ | ⟨h, _⟩
    rotate_left
    · exact absurd hk h
    clear hk
    rcases k3 with k3 | ⟨k3, k3'⟩ <;> rcases k4 with k4 | ⟨k4, k4'⟩
    all_goals
      go_upto_region 3 with fail
      (try clear k3')
      (try clear k4')
      clear k3 k4 hc1 hc2 hs1 hs2
      go_wp2_with (first
        | (refine wpList_load_part (by rfl) 28 (.tmp 3) rfl w.heap.size 0 rfl [.int .u8 c.kind, .int .i64 c.code, .int .u16 c.hd.id, .bool c.hd.qr, .int .u8 c.hd.op, .bool c.hd.aa, .bool c.hd.tc, .bool c.hd.rd, .bool c.hd.ra, .bool c.hd.z, .bool c.hd.ad, .bool c.hd.cd, .int .u8 c.hd.code, .bool c.hasQ, S c.q.name, .int .u16 c.q.typ, .int .u16 c.q.cls, .bool c.hasE, .int .i64 c.size] L0 _ Tryz.underlying28 rfl (by kernel_rfl) ?_)
        | fail)
      refine HB.out.mono ?_
      rintro e w2 ⟨q, rfl, hq, hE2⟩
      have hw2 := hw0.trans hE2
      have HE2 := Lib.hid (HEn.out w2 q hw2 hq)
      clear hq hE2
      unfold StrPost at HE2
      go_wp2_with fail
      refine HE2.out.mono ?_
      rintro e w3 ⟨rfl, hE3⟩
      go_wp2_with fail
      go_ret
      exact ⟨by rw [HR.out]; rfl, hw2.trans hE3⟩
  · rw [if_neg hcut] at hR
    have HR := Lib.hid hR
    clear hR
    have hcs : (c.kind = 2 ∨ c.kind = 3) → (size < 512 ∨ (¬ size < 512 ∧ 4096 < size) ∨ (¬ size < 512 ∧ ¬ 4096 < size ∧ code < 0) ∨ (¬ size < 512 ∧ ¬ 4096 < size ∧ ¬ code < 0 ∧ 4095 < code) ∨ (¬ size < 512 ∧ ¬ 4096 < size ∧ ¬ code < 0 ∧ ¬ 4095 < code ∧ 15 < code ∧ c.hasE = false)) := fun hk => by
      by_cases h1 : size < 512
      · exact .inl h1
      by_cases h2 : 4096 < size
      · exact .inr (.inl ⟨h1, h2⟩)
      by_cases h3 : code < 0
      · exact .inr (.inr (.inl ⟨h1, h2, h3⟩))
      by_cases h4 : 4095 < code
      · exact .inr (.inr (.inr (.inl ⟨h1, h2, h3, h4⟩)))
      by_cases h5 : 15 < code
      · refine .inr (.inr (.inr (.inr ⟨h1, h2, h3, h4, h5, ?_⟩)))
        rcases he : c.hasE with _ | _
        · rfl
        · exact absurd ⟨hk, ⟨by omega, by omega⟩, ⟨by omega, by omega⟩, .inr he⟩ hcut
      · exact absurd ⟨hk, ⟨by omega, by omega⟩, ⟨by omega, by omega⟩, .inl (by omega)⟩ hcut
    rcases hk3 with ⟨hk, k3⟩ | ⟨h, k3, k3'⟩
    · have hcs := hcs hk
      clear hcut hk
      rcases k3 with k3 | ⟨k3, k3'⟩ <;> rcases hcs with h1 | ⟨h1, h2⟩ | ⟨h1, h2, h3⟩ | ⟨h1, h2, h3, h4⟩ | ⟨h1, h2, h3, h4, h5, h6⟩
      all_goals
        go_wp2_with fail
        go_ret
        exact ⟨by rw [HR.out]; rfl, hw0⟩
    · clear hcut h hcs
      go_wp2_with fail
      go_ret
      exact ⟨by rw [HR.out]; rfl, hw0⟩
end Go.Proofs.YtebkdcamblifoaaGreatDoor
namespace Go.Proofs.YtebkdcamblifoaaGreatDoor
set_option linter.unusedSimpArgs false
set_option linter.unusedVariables false
open Go.RowKit
set_option maxRecDepth 100000

set_option maxHeartbeats 4000000 in
theorem ref28_records (v : Value) (l : List SetD) (ttl : Int) (w : World) (h : Sets w 0 v l) (hbd : AnsBd l) :
    Calls Tryz.prog 42 #[v, .int .u32 ttl] w (ORec7Post (recsT l ttl) w) := by
  obtain ⟨ps, sA, sc, hps, rfl, h1, h2, hrd, hst⟩ := h
  unfold maxLen at h2
  have hlen : l.length = ps.length := by rw [← hps]; simp
  obtain ⟨i0, hi0, hz0, hz1, hz2⟩ := info_parts info_rec7
  go_enter Tryz.func42, Tryz.ntmps42
  go_wp2_with fail
  go_loopw [5, 6, 7] (fun s5 s6 _ wr => ∃ (i : Nat) (A : Option Addr) (c : Nat), i ≤ ps.length ∧ s6 = .int .i64 i ∧ s5 = .slice A (recsT (l.take i) ttl).length c ∧ ArInv w (recsT (l.take i) ttl) A c wr) (fun _ s6 _ _ => ps.length - (intOf s6).toNat)
  case atStart => exact ⟨0, none, 0, Nat.zero_le _, rfl, rfl, ⟨Own.nil _ _ _ _, Ext.refl _⟩⟩
  case round =>
    obtain ⟨i, A, c, hi, rfl, rfl, hI⟩ := hrel
    obtain ⟨wo, rfl⟩ : ∃ wo : World, wo = wr := ⟨_, rfl⟩
    by_cases hlt : i < ps.length
    · obtain ⟨b, off, rfl, _, hbz, hc⟩ := hrd.2 (by omega)
      have hp : ps[i]? = some ps[i] := List.getElem?_eq_getElem hlt
      obtain ⟨x0, x1, x2, x3, x4⟩ := sets_cells hc i ps[i] hp
      have hli : l[i]? = some ps[i].1 := by rw [← hps, List.getElem?_map, hp]; rfl
      have hsd := hst ps[i] (List.getElem_mem hlt)
      have hdb := hbd.2 ps[i].1 (by rw [← hps]; exact List.mem_map.2 ⟨ps[i], List.getElem_mem hlt, rfl⟩)
      generalize ps[i] = p at *
      obtain ⟨⟨nm, ty, cl, tt, da⟩, dv⟩ := p
      dsimp only at *
      obtain ⟨dA, dc, rfl, hd1, hd2, hdrd⟩ := hsd
      unfold maxLen at hd2
      have HTs := Lib.hid (recsT_step l ttl i _ hli)
      have hacl := recsT_len (l := l.take i) ttl (fun s hs => hbd.2 s (List.mem_of_mem_take hs))
      have hacl2 : (recsT (l.take i) ttl).length ≤ 1099511627776 := by
        have h4 : (l.take i).length ≤ 1048576 := by rw [List.length_take]; have := hbd.1; omega
        have := Nat.mul_le_mul_right 1048576 h4
        omega
      generalize recsT (l.take i) ttl = acc at *
      have hki : (i : Int) < (ps.length : Int) := by omega
      have hk0 : (0 : Int) ≤ (i : Int) := by omega
      clear hc hli hp hacl
      have HC4 := Lib.hid (fun V (hV : Ext w V) => (hV.cell (p := ⟨b, off + i * 5 + 4, none⟩) hbz).trans x4)
      have HD0 := Lib.hid (show recs1 ⟨nm, ty, cl, tt, da⟩ ttl 0 = [] by simp [recs1])
      go_wp2_with fail
      go_loopw [5, 7] (fun s5 s7 wr => ∃ (j : Nat) (B : Option Addr) (d : Nat), j ≤ da.length ∧ s7 = .int .i64 j ∧ s5 = .slice B (acc ++ recs1 ⟨nm, ty, cl, tt, da⟩ ttl j).length d ∧ ArInv w (acc ++ recs1 ⟨nm, ty, cl, tt, da⟩ ttl j) B d wr) (fun _ s7 _ => da.length - (intOf s7).toNat)
      case atStart => exact ⟨0, A, c, Nat.zero_le _, rfl, by rw [HD0.out, List.append_nil], by rw [HD0.out, List.append_nil]; exact hI⟩
      case round =>
        obtain ⟨j, B, d, hj, rfl, rfl, hJ⟩ := hrel
        obtain ⟨wq, rfl⟩ : ∃ wq : World, wq = wr := ⟨_, rfl⟩
        have y4 := HC4.out _ hJ.ext
        by_cases hjl : j < da.length
        · obtain ⟨dg, doff, rfl, _, hdz, hdc⟩ := hdrd.2 (by omega)
          have hdj : da[j]? = some da[j] := List.getElem?_eq_getElem hjl
          have hck := hdc j (S da[j]) (by simp [hdj])
          have HT := Lib.hid (recs1_step ⟨nm, ty, cl, tt, da⟩ ttl j _ hdj)
          have hrl : (recs1 ⟨nm, ty, cl, tt, da⟩ ttl j).length ≤ 1048576 := by simp only [recs1, List.length_map, List.length_take]; omega
          generalize da[j] = y at *
          generalize recs1 ⟨nm, ty, cl, tt, da⟩ ttl j = rj at *
          have hal : (acc ++ rj).length ≤ 1099512676352 := by rw [List.length_append]; omega
          generalize hAL : acc ++ rj = al at *
          have HAL := Lib.hid hAL
          have HS := Lib.hid (fun V (hV : Ext w V) => (show V.cell? ⟨b, off + i * 5, none⟩ = some (S nm) ∧ V.cell? ⟨b, off + i * 5 + 1, none⟩ = some (.int .u16 ty) ∧ V.cell? ⟨b, off + i * 5 + 2, none⟩ = some (.int .u16 cl) ∧ V.cell? ⟨b, off + i * 5 + 4, none⟩ = some (.slice (some ⟨dg, doff, none⟩) da.length dc) ∧ V.cell? ⟨dg, doff + j, none⟩ = some (S y) from
            ⟨(hV.cell (p := ⟨b, off + i * 5, none⟩) hbz).trans x0, (hV.cell (p := ⟨b, off + i * 5 + 1, none⟩) hbz).trans x1, (hV.cell (p := ⟨b, off + i * 5 + 2, none⟩) hbz).trans x2, (hV.cell (p := ⟨b, off + i * 5 + 4, none⟩) hbz).trans x4, (hV.cell (p := ⟨dg, doff + j, none⟩) hdz).trans hck⟩))
          have hji : (j : Int) < (da.length : Int) := by omega
          have hj0 : (0 : Int) ≤ (j : Int) := by omega
          clear hdc hdj hAL hrl hck x0 x1 x2 x3 x4
          go_upto_region 8 with fail
          clear y4
          refine wp_region_noPanic ?_
          refine wp_region_tree (S := (fun V => V.cell? ⟨b, off + i * 5, none⟩ = some (S nm) ∧ V.cell? ⟨b, off + i * 5 + 1, none⟩ = some (.int .u16 ty) ∧ V.cell? ⟨b, off + i * 5 + 2, none⟩ = some (.int .u16 cl) ∧ V.cell? ⟨b, off + i * 5 + 4, none⟩ = some (.slice (some ⟨dg, doff, none⟩) da.length dc) ∧ V.cell? ⟨dg, doff + j, none⟩ = some (S y))) (.take 0 (.take 1 (.take 2 (.take 3 (.take 4 (.take 5 (.take 6 (.take 7 (.take 8 (.take 9 (.take 10 (.take 11 (.take 12 (.take 13 (.take 14 (.take 15 (.take 16 (.take 17 (.take 18 (.take 19 (.take 20 (.take 21 (.take 22 (.take 23 (.take 24 (.take 25 (.run 26 (.run 27 (.take 28 (.done)))))))))))))))))))))))))))))) (by kernel_rfl) (by kernel_rfl) (fun _ _ _ _ _ h => h) ((HS.out _ hJ.ext.drew)) ?_
          repeat ((with_reducible refine treeIs ?_); first
            | (refine treeTake (v := ?_) (by rfl) (by rfl) ?_ ?_; rotate_left; (focus (intro V hV; (try dsimp only at hV); (go_simp <;> with_reducible rfl))); (try simp only [Act.put, List.setIfInBounds_toArray, List.set_cons_zero, List.set_cons_succ]))
            | (refine treeSkip (by rfl) (by rfl) ?_; (try simp only [Act.put, List.setIfInBounds_toArray, List.set_cons_zero, List.set_cons_succ])))
          refine treeRun (by rfl) (fun K hK => ?_)
          go_simp
          have hEq1 : Ext wq (wq.drew.alloc (.cells #[S nm, .int .u16 ty, .int .u16 cl, .int .u32 ttl, S y] 65)) := (Ext.refl wq).drew.alloc _
          refine hK.out _ _ ?_ ?_
          · exact (HS.out _ (hJ.ext.trans hEq1))
          clear hK K
          (try simp only [Act.put, List.setIfInBounds_toArray, List.set_cons_zero, List.set_cons_succ])
          refine treeRun (by rfl) (fun K hK => ?_)
          have hoq := hJ.own.ext hEq1
          have hzq : w.heap.size ≤ wq.heap.size := hJ.ext.size
          refine step_app (wq.drew.alloc (.cells #[S nm, .int .u16 ty, .int .u16 cl, .int .u32 ttl, S y] 65)) rfl (.tmp 24) (.tmp 50) _ rfl w.heap.size 65 i0 _ 5 40 Tryz.underlying47 hi0 hz0 hz1 hz2 rfl (by omega) B al.length d (al.flatMap recCells) rfl hoq 0 _ 1 1 (recCells ⟨nm, ty, cl, ttl, y⟩) rfl (rd_new wq.drew wq.heap.size rfl _ _ 1 5 rfl) (rec_one7 _) (by omega) (by omega) (by have := hEq1.size; omega) ?_
          intro A5 c5 w5 hown5 hg5 hb5 hat5
          have hE5 : Ext w w5 := (Ext.trans hJ.ext hEq1).then hb5 (Nat.le_refl _)
          refine hK.out _ _ ?_ ?_
          · exact (HS.out _ hE5)
          clear hK K
          (try simp only [Act.put, List.setIfInBounds_toArray, List.set_cons_zero, List.set_cons_succ])
          repeat ((with_reducible refine treeIs ?_); first
            | (refine treeTake (v := ?_) (by rfl) (by rfl) ?_ ?_; rotate_left; (focus (intro V hV; (try dsimp only at hV); (go_simp <;> with_reducible rfl))); (try simp only [Act.put, List.setIfInBounds_toArray, List.set_cons_zero, List.set_cons_succ]))
            | (refine treeSkip (by rfl) (by rfl) ?_; (try simp only [Act.put, List.setIfInBounds_toArray, List.set_cons_zero, List.set_cons_succ])))
          refine treeDone ?_
          refine NoPanic.normal ?_
          go_wp2_with fail
          go_roundw
          case rel =>
            have hl1 : acc ++ recs1 ⟨nm, ty, cl, tt, da⟩ ttl (j + 1) = al ++ [⟨nm, ty, cl, ttl, y⟩] := by rw [HT.out, ← List.append_assoc, HAL.out]
            refine ⟨j + 1, A5, c5, by omega, by go_num, by rw [hl1]; simp, ⟨?_, hE5⟩⟩
            rw [hl1]
            simpa using hown5
          case measure => simp [intOf]; omega
        · obtain rfl : j = da.length := by omega
          go_wp2_with fail
          go_roundw
          case rel =>
            refine ⟨i + 1, B, d, by omega, by go_num, by rw [HTs.out], ?_⟩
            rw [HTs.out]
            exact hJ
          case measure => simp [intOf]; omega
    · obtain rfl : i = ps.length := by omega
      have HF := Lib.hid (show l.take ps.length = l from List.take_of_length_le (by omega))
      rw [HF.out] at hI ⊢
      go_wp2_with fail
      go_ret
      exact ⟨_, rfl, ⟨A, c, rfl, hI.own⟩, hI.ext⟩
set_option maxHeartbeats 4000000 in
theorem ref25_room (c : CameD) (most : Int) (w : World) : Calls Tryz.prog 45 #[caV c, .int .i64 most] w fun e w' => e = .returned (.int .i64 (roomOf c most)) ∧ Ext w w' := by
  obtain ⟨R, hR⟩ : ∃ R, R = roomOf c most := ⟨_, rfl⟩
  rw [← hR]
  unfold roomOf at hR
  obtain ⟨X0, hX0⟩ : ∃ X0, X0 = w.alloc (.cells (caRow c.kind c.code c.hd c.hasQ c.q c.hasE c.size) 28) := ⟨_, rfl⟩
  have hw0 : Ext w X0 := by rw [hX0]; exact (Ext.refl _).alloc _
  have r0 : X0.heap[w.heap.size]? = some (.cells (caRow c.kind c.code c.hd c.hasQ c.q c.hasE c.size) 28) := by rw [hX0]; exact heap_alloc_new _ _
  have z17 : X0.cell? ⟨w.heap.size, 17, none⟩ = some (.bool c.hasE) := box_cell r0 rfl
  have z18 : X0.cell? ⟨w.heap.size, 18, none⟩ = some (.int .i64 c.size) := box_cell r0 rfl
  by_cases hh : c.hasE = true ∧ 512 < c.size ∧ 512 < most
  · rw [if_pos hh] at hR
    obtain ⟨h1, h2, h3⟩ := hh
    rw [h1] at z17
    have HR := Lib.hid hR
    clear hR h1
    by_cases h4 : c.size ≤ most
    · have HR2 := Lib.hid (show R = c.size by rw [HR.out]; omega)
      go_enter Tryz.func45, Tryz.ntmps45
      go_upto_region 1 with fail
      have hzz : w.alloc (.cells (caRow c.kind c.code c.hd c.hasQ c.q c.hasE c.size) 28) = X0 := hX0.symm
      rw [hzz]
      clear hzz hX0
      go_wp2_with fail
      go_ret
      exact ⟨by rw [HR2.out]; first | rfl | (simp; omega), hw0⟩
    · have HR2 := Lib.hid (show R = most by rw [HR.out]; omega)
      go_enter Tryz.func45, Tryz.ntmps45
      go_upto_region 1 with fail
      have hzz : w.alloc (.cells (caRow c.kind c.code c.hd c.hasQ c.q c.hasE c.size) 28) = X0 := hX0.symm
      rw [hzz]
      clear hzz hX0
      go_wp2_with fail
      go_ret
      exact ⟨by rw [HR2.out]; first | rfl | (simp; omega), hw0⟩
  · rw [if_neg hh] at hR
    have HR := Lib.hid hR
    clear hR
    have hx : c.hasE = false ∨ (c.hasE = true ∧ ¬ 512 < c.size) ∨ (c.hasE = true ∧ 512 < c.size ∧ ¬ 512 < most) := by
      rcases he : c.hasE with _ | _
      · exact .inl rfl
      · by_cases h2 : 512 < c.size
        · exact .inr (.inr ⟨rfl, h2, fun h3 => hh ⟨he, h2, h3⟩⟩)
        · exact .inr (.inl ⟨rfl, h2⟩)
    clear hh
    rcases hx with h1 | ⟨h1, h2⟩ | ⟨h1, h2, h3⟩
    all_goals
      rw [h1] at z17
      clear h1
      go_enter Tryz.func45, Tryz.ntmps45
      go_upto_region 1 with fail
      have hzz : w.alloc (.cells (caRow c.kind c.code c.hd c.hasQ c.q c.hasE c.size) 28) = X0 := hX0.symm
      rw [hzz]
      clear hzz hX0
      go_wp2_with fail
      go_ret
      exact ⟨by rw [HR.out]; rfl, hw0⟩
end Go.Proofs.YtebkdcamblifoaaGreatDoor
namespace Go.Proofs.YtebkdcamblifoaaGreatDoor
set_option linter.unusedSimpArgs false
set_option linter.unusedVariables false
open Go.RowKit
set_option maxRecDepth 100000

def isStr : Value → Bool | .string _ => true | _ => false
/-- Questions stay, where alone a row without strings is turned. -/
theorem qus_off {w w' : World} {g : Nat} {row : Array Value} {t : TypeId} {fr : Nat × Nat} (hg : w.heap[g]? = some (.cells row t fr)) (hns : row.toList.all (fun v => !isStr v) = true) (hk : ∀ b, b < w.heap.size → b ≠ g → w'.heap[b]? = w.heap[b]?) {q : Value} {l : List QD} (h : Qus w 0 q l) : Qus w' 0 q l := by
  obtain ⟨A, c, rfl, h1, h2, hl, hr⟩ := h
  refine ⟨A, c, rfl, h1, h2, hl, fun hn => ?_⟩
  obtain ⟨b, off, rfl, hz, hb, hc⟩ := hr hn
  have hne : b ≠ g := fun e => by
    subst e
    obtain ⟨x, l', rfl⟩ : ∃ x l', l = x :: l' := by
      rcases l with _ | ⟨x, l'⟩
      · cases hn
      · exact ⟨x, l', rfl⟩
    have h3 := hc 0 (S x.name) rfl
    simp only [World.cell?, hg] at h3
    have h4 : S x.name ∈ row.toList := by
      have h5 : row.toList[off]? = some (S x.name) := by simpa using h3
      exact List.mem_of_getElem? h5
    have := List.all_eq_true.1 hns _ h4
    cases this
  have hk := hk b hb hne
  have hlt := (Array.getElem?_eq_some_iff.1 (hk.trans (Array.getElem?_eq_getElem hb))).1
  exact ⟨b, off, rfl, hz, hlt, fun j u hu => by
    have := hc j u hu
    simp only [World.cell?, hk] at this ⊢
    exact this⟩
set_option maxHeartbeats 4000000 in
theorem ref28_of (c : CameD) (code : Int) (vs vo : Value) (sets soa : List SetD) (ttl size : Int) (w : World) (hdb : ∀ s ∈ sets ++ soa, ∀ d ∈ s.data, d.length ≤ 100000) (hc : c.wf) (hn : c.q.name.length ≤ 1048576)
    (hs : Sets w 0 vs sets) (ho : Sets w 0 vo soa) (h1 : SetsOk7 sets) (h2 : SetsOk7 soa) (ht : 0 ≤ ttl ∧ ttl ≤ 4294967295) :
    Calls Tryz.prog 15 #[caV c, .agg #[.int .u8 code, vs, vo], .int .u32 ttl, .int .i64 size] w (StrPost (ansOf c code sets soa ttl size) w) := by
  obtain ⟨R, hR⟩ : ∃ R, R = ansOf c code sets soa ttl size := ⟨_, rfl⟩
  rw [← hR]
  have hs' := hs
  have ho' := ho
  obtain ⟨sps, sA, sc, _, rfl, _, _, _, _⟩ := hs
  obtain ⟨ops, oA, oc, _, rfl, _, _, _, _⟩ := ho
  obtain ⟨X0, hX0⟩ : ∃ X0, X0 = (w.alloc (.cells (caRow c.kind c.code c.hd c.hasQ c.q c.hasE c.size) 28)).alloc (.cells #[.int .u8 code, .slice sA sps.length sc, .slice oA ops.length oc] 36) := ⟨_, rfl⟩
  have hw0 : Ext w X0 := by rw [hX0]; exact ((Ext.refl _).alloc _).alloc _
  have r1 : X0.heap[w.heap.size + 1]? = some (.cells #[.int .u8 code, .slice sA sps.length sc, .slice oA ops.length oc] 36) := by rw [hX0]; exact heap_alloc2_new w _ _
  have r0 : X0.heap[w.heap.size]? = some (.cells (caRow c.kind c.code c.hd c.hasQ c.q c.hasE c.size) 28) := by
    rw [hX0]
    have h1 := heap_alloc_new w (.cells (caRow c.kind c.code c.hd c.hasQ c.q c.hasE c.size) 28)
    rw [heap_alloc_old _ _ (Array.getElem?_eq_some_iff.1 h1).1]; exact h1
  have z0 : X0.cell? ⟨w.heap.size, 0, none⟩ = some (.int .u8 c.kind) := box_cell r0 rfl
  have v0 : X0.cell? ⟨w.heap.size + 1, 0, none⟩ = some (.int .u8 code) := box_cell r1 rfl
  have hcut : ansMay c code sets soa ttl size ∨ ¬ ansMay c code sets soa ttl size := Decidable.em _
  go_enter Tryz.func15, Tryz.ntmps15
  go_upto_region 1 with fail
  have hzz : (w.alloc (.cells (caRow c.kind c.code c.hd c.hasQ c.q c.hasE c.size) 28)).alloc (.cells #[.int .u8 code, .slice sA sps.length sc, .slice oA ops.length oc] 36) = X0 := hX0.symm
  rw [hzz]
  clear hzz hX0
  rcases hcut with hcut | hcut
  rotate_left
  · unfold ansOf at hR
    rw [if_neg (fun h => hcut h.1)] at hR
    have HR := Lib.hid hR
    clear hR
    unfold ansMay at hcut
    by_cases hk : c.kind = 3
    · have f1 : (c.kind != 3) = false := by rw [hk]; rfl
      by_cases hz1 : size < 512
      · clear hk hcut
        go_wp2_with fail
        go_ret
        exact ⟨by rw [HR.out]; rfl, hw0⟩
      by_cases hz2 : 4096 < size
      · clear hk hcut
        go_wp2_with fail
        go_ret
        exact ⟨by rw [HR.out]; rfl, hw0⟩
      by_cases hcd : code = 0 ∨ code = 3
      · have f2 : (code != 0) = false ∨ ((code != 0) = true ∧ (code != 3) = false) := by
          rcases hcd with rfl | rfl
          · exact .inl rfl
          · exact .inr ⟨rfl, rfl⟩
        have f3 : (2147483647 : Int) < ttl := by
          apply Decidable.byContradiction
          intro h
          exact hcut ⟨hk, ⟨by omega, by omega⟩, hcd, by omega⟩
        clear hk hcd hcut
        rcases f2 with f2 | ⟨f2, f2'⟩
        all_goals
          go_wp2_with fail
          go_ret
          exact ⟨by rw [HR.out]; rfl, hw0⟩
      · have f2 : (code != 0) = true := by rw [bne_iff_ne]; exact fun h => hcd (.inl h)
        have f3 : (code != 3) = true := by rw [bne_iff_ne]; exact fun h => hcd (.inr h)
        clear hk hcd hcut
        go_wp2_with fail
        go_ret
        exact ⟨by rw [HR.out]; rfl, hw0⟩
    · have f1 : (c.kind != 3) = true := by rw [bne_iff_ne]; exact hk
      clear hk hcut
      go_wp2_with fail
      go_ret
      exact ⟨by rw [HR.out]; rfl, hw0⟩
  · obtain ⟨hk, hz, hcd, hth⟩ := id hcut
    have f1 : (c.kind != 3) = false := by rw [hk]; rfl
    have fz1 : ¬ size < 512 := by omega
    have fz2 : ¬ 4096 < size := by omega
    have f2 : (code != 0) = false ∨ ((code != 0) = true ∧ (code != 3) = false) := by
      rcases hcd with rfl | rfl
      · exact .inl rfl
      · exact .inr ⟨rfl, rfl⟩
    have f3 : ¬ (2147483647 : Int) < ttl := by omega
    obtain ⟨cn, rfl⟩ : ∃ cn : Nat, code = cn := ⟨code.toNat, by omega⟩
    obtain ⟨sn, rfl⟩ : ∃ sn : Nat, size = sn := ⟨size.toNat, by omega⟩
    have hcn : cn ≤ 3 := by clear hs' ho' hR; omega
    have hsn : sn ≤ 4096 := by have := hz.2; clear hs' ho' hR; omega
    have hwz : wrap64 (cn : Int) = (cn : Int) := by clear hs' ho' hR hcut; unfold wrap64; omega
    have HBB := Lib.hid (fun V => ref25_blank c cn sn V (Nat.le_trans hcn (by decide)) (Nat.le_trans hsn (by decide)))
    have HB := Lib.hid (ref25_blank c cn sn X0 (Nat.le_trans hcn (by decide)) (Nat.le_trans hsn (by decide)))
    have hmw := blank_wf hc cn sn
    have hmq := blank_qok c cn sn hn
    have hmo := blank_opts c cn sn
    have hcases := ans_cases (c := c) (sets := sets) (soa := soa) (ttl := ttl) hcut
    have HRo := Lib.hid (fun V => ref25_room c sn V)
    have hRR : R = ansOf c cn sets soa ttl sn := hR
    clear hR
    rw [← hRR] at hcases
    obtain ⟨m, hm⟩ : ∃ m, m = blankOf c cn sn := ⟨_, rfl⟩
    rw [← hm] at HBB HB hmw hmq hmo hcases
    have hbl3 : m.ans = [] ∧ m.auth = [] ∧ m.extra = [] := by rw [hm]; exact ⟨rfl, rfl, rfl⟩
    clear hm hRR hk hz hcd hth hcut
    have L0 := row_all r0
    have HR1 := Lib.hid (fun V (hV : Ext w V) => ref28_records (.slice sA sps.length sc) sets ttl V (hs'.ext hV) h1.ans)
    have HR2 := Lib.hid (fun V (hV : Ext w V) => ref28_records (.slice oA ops.length oc) soa ttl V (ho'.ext hV) h2.ans)
    have HW1 := Lib.hid (show (withR m (recsT sets ttl) (recsT soa ttl)).wf from ⟨hmw.id, hmw.op, hmw.code, hmw.qs, recsT_wf h1.wf ht, recsT_wf h2.wf ht, hmw.extra, hmw.size, hmw.ext, hmw.ver, hmw.flags, hmw.opts⟩)
    have HW2 := Lib.hid (show (withT m).wf from ⟨hmw.id, hmw.op, hmw.code, hmw.qs, hmw.ans, hmw.auth, hmw.extra, hmw.size, hmw.ext, hmw.ver, hmw.flags, hmw.opts⟩)
    have HAns := Lib.hid (show m.ans = [] ∧ m.auth = [] ∧ m.extra = [] from hbl3)
    have HB1 := Lib.hid (h1.recs ttl)
    have HB2 := Lib.hid (h2.recs ttl)
    have HDa := Lib.hid (show ∀ r ∈ (withR m (recsT sets ttl) (recsT soa ttl)).ans ++ (withR m (recsT sets ttl) (recsT soa ttl)).auth ++ (withR m (recsT sets ttl) (recsT soa ttl)).extra, r.data.length ≤ 100000 from fun r hr => by
      have hr : r ∈ recsT sets ttl ++ recsT soa ttl ++ m.extra := hr
      rw [hbl3.2.2, List.append_nil] at hr
      have hx : ∀ l, (∀ s ∈ l, ∀ d ∈ s.data, d.length ≤ 100000) → r ∈ recsT l ttl → r.data.length ≤ 100000 := fun l hl h => by
        unfold recsT at h
        obtain ⟨s, hs, h⟩ := List.mem_flatMap.1 h
        obtain ⟨d, hd, rfl⟩ := List.mem_map.1 h
        exact hl s hs d hd
      rcases List.mem_append.1 hr with h | h
      · exact hx sets (fun s hs => hdb s (List.mem_append.2 (.inl hs))) h
      · exact hx soa (fun s hs => hdb s (List.mem_append.2 (.inr hs))) h)
    have HCases := Lib.hid hcases
    clear hcases
    rcases f2 with f2 | ⟨f2, f2'⟩
    all_goals
      go_upto_region 3 with fail
      (try clear f2')
      clear f1 f2 f3 z0 fz1 fz2
      refine wp_region_lit ?_
      refine wpList_load_part (by rfl) 28 (.tmp 4) rfl w.heap.size 0 rfl [.int .u8 c.kind, .int .i64 c.code, .int .u16 c.hd.id, .bool c.hd.qr, .int .u8 c.hd.op, .bool c.hd.aa, .bool c.hd.tc, .bool c.hd.rd, .bool c.hd.ra, .bool c.hd.z, .bool c.hd.ad, .bool c.hd.cd, .int .u8 c.hd.code, .bool c.hasQ, S c.q.name, .int .u16 c.q.typ, .int .u16 c.q.cls, .bool c.hasE, .int .i64 c.size] L0 _ Tryz.underlying28 rfl (by kernel_rfl) ?_
      iterate 14 go_step
      refine HB.out.mono ?_
      rintro e w2 ⟨q, rfl, hq, hE2⟩
      obtain ⟨qA, qc, rfl, hq1, hq2, hqr⟩ := hq
      dsimp only
      iterate 1 go_step
      obtain ⟨b9, hb9⟩ : ∃ b9, b9 = w2.heap.size := ⟨_, rfl⟩
      have hz9 : (w2.alloc (.cells msgZ 52)).heap[b9]? = some (.cells msgZ 52) := by rw [hb9]; exact heap_alloc_new _ _
      refine Go.Great.wpList_allocTo rfl (some 9) rfl (.pointer (some ⟨w2.heap.size, 0, none⟩)) (.cells msgZ 52) (by kernel_rfl) ?_
      rw [← hb9]
      refine Go.wpList_store_rowTo rfl 52 (.tmp 9) (.tmp 42) rfl rfl b9 #[.int .u16 m.hd.id, .bool m.hd.qr, .int .u8 m.hd.op, .bool m.hd.aa, .bool m.hd.tc, .bool m.hd.rd, .bool m.hd.ra, .bool m.hd.z, .bool m.hd.ad, .bool m.hd.cd, .int .u8 m.hd.code, .slice qA m.qs.length qc, .slice none 0 0, .slice none 0 0, .slice none 0 0, .bool m.he, .int .u16 m.ed.size, .int .u8 m.ed.ext, .int .u8 m.ed.ver, .int .u16 m.ed.flags, .slice none 0 0] rfl rfl 52 _ hz9 (by kernel_rfl) rfl (by kernel_rfl) ?_
      rw [alloc_setRow7 w2 msgZ #[.int .u16 m.hd.id, .bool m.hd.qr, .int .u8 m.hd.op, .bool m.hd.aa, .bool m.hd.tc, .bool m.hd.rd, .bool m.hd.ra, .bool m.hd.z, .bool m.hd.ad, .bool m.hd.cd, .int .u8 m.hd.code, .slice qA m.qs.length qc, .slice none 0 0, .slice none 0 0, .slice none 0 0, .bool m.he, .int .u16 m.ed.size, .int .u8 m.ed.ext, .int .u8 m.ed.ver, .int .u16 m.ed.flags, .slice none 0 0] 52 b9 hb9]
      refine wpList_nil ?_
      have r9 : (w2.alloc (.cells #[.int .u16 m.hd.id, .bool m.hd.qr, .int .u8 m.hd.op, .bool m.hd.aa, .bool m.hd.tc, .bool m.hd.rd, .bool m.hd.ra, .bool m.hd.z, .bool m.hd.ad, .bool m.hd.cd, .int .u8 m.hd.code, .slice qA m.qs.length qc, .slice none 0 0, .slice none 0 0, .slice none 0 0, .bool m.he, .int .u16 m.ed.size, .int .u8 m.ed.ext, .int .u8 m.ed.ver, .int .u16 m.ed.flags, .slice none 0 0] 52)).heap[b9]? = some (.cells #[.int .u16 m.hd.id, .bool m.hd.qr, .int .u8 m.hd.op, .bool m.hd.aa, .bool m.hd.tc, .bool m.hd.rd, .bool m.hd.ra, .bool m.hd.z, .bool m.hd.ad, .bool m.hd.cd, .int .u8 m.hd.code, .slice qA m.qs.length qc, .slice none 0 0, .slice none 0 0, .slice none 0 0, .bool m.he, .int .u16 m.ed.size, .int .u8 m.ed.ext, .int .u8 m.ed.ver, .int .u16 m.ed.flags, .slice none 0 0] 52) := by rw [hb9]; exact heap_alloc_new _ _
      have hE9 : Ext w2 (w2.alloc (.cells #[.int .u16 m.hd.id, .bool m.hd.qr, .int .u8 m.hd.op, .bool m.hd.aa, .bool m.hd.tc, .bool m.hd.rd, .bool m.hd.ra, .bool m.hd.z, .bool m.hd.ad, .bool m.hd.cd, .int .u8 m.hd.code, .slice qA m.qs.length qc, .slice none 0 0, .slice none 0 0, .slice none 0 0, .bool m.he, .int .u16 m.ed.size, .int .u8 m.ed.ext, .int .u8 m.ed.ver, .int .u16 m.ed.flags, .slice none 0 0] 52)) := (Ext.refl _).alloc _
      obtain ⟨X5, hX⟩ : ∃ X5, X5 = w2.alloc (.cells #[.int .u16 m.hd.id, .bool m.hd.qr, .int .u8 m.hd.op, .bool m.hd.aa, .bool m.hd.tc, .bool m.hd.rd, .bool m.hd.ra, .bool m.hd.z, .bool m.hd.ad, .bool m.hd.cd, .int .u8 m.hd.code, .slice qA m.qs.length qc, .slice none 0 0, .slice none 0 0, .slice none 0 0, .bool m.he, .int .u16 m.ed.size, .int .u8 m.ed.ext, .int .u8 m.ed.ver, .int .u16 m.ed.flags, .slice none 0 0] 52) := ⟨_, rfl⟩
      rw [← hX] at r9 hE9 ⊢
      have hb92 : w2.heap.size ≤ b9 := by omega
      have hw2 : Ext w w2 := hw0.trans hE2
      clear hX hz9 hb9
      have r15 := ((hE2.trans hE9).block _ (Array.getElem?_eq_some_iff.1 r1).1).trans r1
      have r05 := ((hE2.trans hE9).block _ (Array.getElem?_eq_some_iff.1 r0).1).trans r0
      have v1 : X5.cell? ⟨w.heap.size + 1, 1, none⟩ = some (.slice sA sps.length sc) := box_cell r15 rfl
      have hb95 := (Array.getElem?_eq_some_iff.1 r9).1
      go_wp2_with fail
      refine (HR1.out _ (hw2.trans hE9)).mono ?_
      rintro e w6 ⟨v6, rfl, hor6, hE6⟩
      obtain ⟨aA, ac, rfl, hao⟩ := hor6
      have r96 := (hE6.block _ hb95).trans r9
      have k12 := box_cell (j := 12) r96 rfl
      have g12 := box_free (j := 12) r96
      go_upto_region 5 with fail
      have hE26 : Ext w2 (w6.setCell ⟨b9, 12, none⟩ (.slice aA (recsT sets ttl).length ac)) := (hE9.trans hE6).setCell (p := ⟨b9, 12, none⟩) hb92 _
      have r97 : (w6.setCell ⟨b9, 12, none⟩ (.slice aA (recsT sets ttl).length ac)).heap[b9]? = some (.cells #[.int .u16 m.hd.id, .bool m.hd.qr, .int .u8 m.hd.op, .bool m.hd.aa, .bool m.hd.tc, .bool m.hd.rd, .bool m.hd.ra, .bool m.hd.z, .bool m.hd.ad, .bool m.hd.cd, .int .u8 m.hd.code, .slice qA m.qs.length qc, .slice aA (recsT sets ttl).length ac, .slice none 0 0, .slice none 0 0, .bool m.he, .int .u16 m.ed.size, .int .u8 m.ed.ext, .int .u8 m.ed.ver, .int .u16 m.ed.flags, .slice none 0 0] 52) := row_set r96 12 _
      have hao7 := hao.set_other (p := ⟨b9, 12, none⟩) hb95 (.slice aA (recsT sets ttl).length ac)
      obtain ⟨X6, hX⟩ : ∃ X6, X6 = w6.setCell ⟨b9, 12, none⟩ (.slice aA (recsT sets ttl).length ac) := ⟨_, rfl⟩
      rw [← hX] at hE26 r97 hao7 ⊢
      clear hX k12 g12 r96 r9 hao v1
      have hw6 : Ext w X6 := hw2.trans hE26
      have r16 := ((hE2.trans hE26).block _ (Array.getElem?_eq_some_iff.1 r1).1).trans r1
      have v2 : X6.cell? ⟨w.heap.size + 1, 2, none⟩ = some (.slice oA ops.length oc) := box_cell r16 rfl
      have hb96 := (Array.getElem?_eq_some_iff.1 r97).1
      go_wp2_with fail
      refine (HR2.out _ hw6).mono ?_
      rintro e w7 ⟨v7, rfl, hor7, hE7⟩
      obtain ⟨uA, uc, rfl, huo⟩ := hor7
      have r98 := (hE7.block _ hb96).trans r97
      have k13 := box_cell (j := 13) r98 rfl
      have g13 := box_free (j := 13) r98
      go_upto_region 6 with fail
      have hE27 : Ext w2 (w7.setCell ⟨b9, 13, none⟩ (.slice uA (recsT soa ttl).length uc)) := (hE26.trans hE7).setCell (p := ⟨b9, 13, none⟩) hb92 _
      have r99 : (w7.setCell ⟨b9, 13, none⟩ (.slice uA (recsT soa ttl).length uc)).heap[b9]? = some (.cells #[.int .u16 m.hd.id, .bool m.hd.qr, .int .u8 m.hd.op, .bool m.hd.aa, .bool m.hd.tc, .bool m.hd.rd, .bool m.hd.ra, .bool m.hd.z, .bool m.hd.ad, .bool m.hd.cd, .int .u8 m.hd.code, .slice qA m.qs.length qc, .slice aA (recsT sets ttl).length ac, .slice uA (recsT soa ttl).length uc, .slice none 0 0, .bool m.he, .int .u16 m.ed.size, .int .u8 m.ed.ext, .int .u8 m.ed.ver, .int .u16 m.ed.flags, .slice none 0 0] 52) := row_set r98 13 _
      have huo8 := huo.set_other (p := ⟨b9, 13, none⟩) hb96 (.slice uA (recsT soa ttl).length uc)
      have hao8 := (hao7.ext hE7).set_other (p := ⟨b9, 13, none⟩) hb95 (.slice uA (recsT soa ttl).length uc)
      obtain ⟨X7, hX⟩ : ∃ X7, X7 = w7.setCell ⟨b9, 13, none⟩ (.slice uA (recsT soa ttl).length uc) := ⟨_, rfl⟩
      rw [← hX] at hE27 r99 huo8 hao8 ⊢
      clear hX k13 g13 r98 r97 huo hao7 v2
      have hw7 : Ext w X7 := hw2.trans hE27
      have r07 := ((hE2.trans hE27).block _ (Array.getElem?_eq_some_iff.1 r0).1).trans r0
      have HMsg := Lib.hid (show Msg7 X7 (withR m (recsT sets ttl) (recsT soa ttl)) (.slice qA m.qs.length qc) (.slice aA (recsT sets ttl).length ac) (.slice uA (recsT soa ttl).length uc) (.slice none 0 0) (.slice none 0 0) from
        ⟨⟨qA, qc, rfl, hq1, hq2, hqr.ext hE27⟩, ⟨aA, ac, rfl, hao8.cap.1, hao8.cap.2, hao8.rd.lower (Nat.zero_le _)⟩, ⟨uA, uc, rfl, huo8.cap.1, huo8.cap.2, huo8.rd.lower (Nat.zero_le _)⟩, by show Recs X7 0 _ m.extra; rw [HAns.out.2.2]; exact recs_nil X7, by show Opts X7 0 _ m.ed.opts; rw [hmo]; exact opts_nil X7, hmq, HB1.out, HB2.out, (fun r (hr : r ∈ m.extra) => by rw [HAns.out.2.2] at hr; cases hr), by show m.extra.length ≤ _; rw [HAns.out.2.2]; exact Nat.zero_le _⟩)
      have HMay := Lib.hid (ref7_may (withR m (recsT sets ttl) (recsT soa ttl)) _ _ _ _ _ X7 HMsg.out)
      have HEnc := Lib.hid (fun V (hV : Ext X7 V) => ref7_encode (withR m (recsT sets ttl) (recsT soa ttl)) _ _ _ _ _ V HW1.out (HMsg.out.ext hV) HDa.out)
      have HEncT := Lib.hid (fun V q (h : Qus V 0 q m.qs) => ref28_bytes (withT m) q (.slice none 0 0) (.slice none 0 0) (.slice none 0 0) (.slice none 0 0) V HW2.out
        ⟨h, by show Recs V 0 _ m.ans; rw [HAns.out.1]; exact recs_nil V, by show Recs V 0 _ m.auth; rw [HAns.out.2.1]; exact recs_nil V, by show Recs V 0 _ m.extra; rw [HAns.out.2.2]; exact recs_nil V, by show Opts V 0 _ m.ed.opts; rw [hmo]; exact opts_nil V, hmq, (fun r (hr : r ∈ m.ans) => by rw [HAns.out.1] at hr; cases hr), (fun r (hr : r ∈ m.auth) => by rw [HAns.out.2.1] at hr; cases hr), (fun r (hr : r ∈ m.extra) => by rw [HAns.out.2.2] at hr; cases hr), by show m.extra.length ≤ _; rw [HAns.out.2.2]; exact Nat.zero_le _⟩
        (fun r hr => by
          have hr : r ∈ m.ans ++ m.auth ++ m.extra := hr
          rw [HAns.out.1, HAns.out.2.1, HAns.out.2.2] at hr
          cases hr))
      unfold StrPost at HEncT
      unfold MayRPost at HMay
      unfold EncPost at HEnc
      clear hao8 huo8 hqr hq1 hq2
      go_wp2_with (first | (refine wpList_load_part (by rfl) 52 (.tmp 9) rfl b9 0 rfl [.int .u16 m.hd.id, .bool m.hd.qr, .int .u8 m.hd.op, .bool m.hd.aa, .bool m.hd.tc, .bool m.hd.rd, .bool m.hd.ra, .bool m.hd.z, .bool m.hd.ad, .bool m.hd.cd, .int .u8 m.hd.code, .slice qA m.qs.length qc, .slice aA (recsT sets ttl).length ac, .slice uA (recsT soa ttl).length uc, .slice none 0 0, .bool m.he, .int .u16 m.ed.size, .int .u8 m.ed.ext, .int .u8 m.ed.ver, .int .u16 m.ed.flags, .slice none 0 0] (row_all r99) _ Tryz.underlying52 rfl (by kernel_rfl) ?_) | fail)
      refine HMay.out.mono ?_
      rintro e w8 ⟨rfl, hE8⟩
      have r98 := (hE8.block _ (Array.getElem?_eq_some_iff.1 r99).1).trans r99
      rcases HCases.out with ⟨hmm, hR⟩ | ⟨hmm, he, hlr, hR⟩ | ⟨hmm, hor, hR⟩
      · have HR := Lib.hid hR
        rw [hmm]
        clear hR hmm
        go_wp2_with fail
        go_ret
        exact ⟨by rw [HR.out]; rfl, hw7.trans hE8⟩
      · have HR := Lib.hid hR
        have He := Lib.hid he
        have hrm := HRo
        rw [hmm]
        clear hR hmm he
        go_wp2_with (first | (refine wpList_load_part (by rfl) 52 (.tmp 9) rfl b9 0 rfl [.int .u16 m.hd.id, .bool m.hd.qr, .int .u8 m.hd.op, .bool m.hd.aa, .bool m.hd.tc, .bool m.hd.rd, .bool m.hd.ra, .bool m.hd.z, .bool m.hd.ad, .bool m.hd.cd, .int .u8 m.hd.code, .slice qA m.qs.length qc, .slice aA (recsT sets ttl).length ac, .slice uA (recsT soa ttl).length uc, .slice none 0 0, .bool m.he, .int .u16 m.ed.size, .int .u8 m.ed.ext, .int .u8 m.ed.ver, .int .u16 m.ed.flags, .slice none 0 0] (row_all r98) _ Tryz.underlying52 rfl (by kernel_rfl) ?_) | fail)
        refine (HEnc.out _ hE8).mono ?_
        rintro e w9 ⟨rfl, hE9⟩
        rw [He.out]
        have L09 := row_all (((hE8.trans hE9).block _ (Array.getElem?_eq_some_iff.1 r07).1).trans r07)
        generalize encOf (withR m (recsT sets ttl) (recsT soa ttl)) = EN at *
        generalize roomOf c sn = RM at *
        go_wp2_with (first | (refine wpList_load_part (by rfl) 28 (.tmp 4) rfl w.heap.size 0 rfl [.int .u8 c.kind, .int .i64 c.code, .int .u16 c.hd.id, .bool c.hd.qr, .int .u8 c.hd.op, .bool c.hd.aa, .bool c.hd.tc, .bool c.hd.rd, .bool c.hd.ra, .bool c.hd.z, .bool c.hd.ad, .bool c.hd.cd, .int .u8 c.hd.code, .bool c.hasQ, S c.q.name, .int .u16 c.q.typ, .int .u16 c.q.cls, .bool c.hasE, .int .i64 c.size] L09 _ Tryz.underlying28 rfl (by kernel_rfl) ?_) | fail)
        refine (HRo.out _).mono ?_
        rintro e w10 ⟨rfl, hE10⟩
        go_wp2_with fail
        go_ret
        exact ⟨by rw [HR.out]; rfl, (hw7.trans (hE8.trans hE9)).trans hE10⟩
      · have HR := Lib.hid hR
        rw [hmm]
        clear hR hmm
        have HeT := Lib.hid (Decidable.em (encErr (withT m) = 0))
        go_wp2_with (first | (refine wpList_load_part (by rfl) 52 (.tmp 9) rfl b9 0 rfl [.int .u16 m.hd.id, .bool m.hd.qr, .int .u8 m.hd.op, .bool m.hd.aa, .bool m.hd.tc, .bool m.hd.rd, .bool m.hd.ra, .bool m.hd.z, .bool m.hd.ad, .bool m.hd.cd, .int .u8 m.hd.code, .slice qA m.qs.length qc, .slice aA (recsT sets ttl).length ac, .slice uA (recsT soa ttl).length uc, .slice none 0 0, .bool m.he, .int .u16 m.ed.size, .int .u8 m.ed.ext, .int .u8 m.ed.ver, .int .u16 m.ed.flags, .slice none 0 0] (row_all r98) _ Tryz.underlying52 rfl (by kernel_rfl) ?_) | fail)
        refine (HEnc.out _ hE8).mono ?_
        rintro e w9 ⟨rfl, hE9⟩
        have r910 := (hE9.block _ (Array.getElem?_eq_some_iff.1 r98).1).trans r98
        have hE29 : Ext w2 w9 := hE27.trans (hE8.trans hE9)
        by_cases he : encErr (withR m (recsT sets ttl) (recsT soa ttl)) = 0
        · have hnl : ¬ ((encOf (withR m (recsT sets ttl) (recsT soa ttl))).length : Int) ≤ roomOf c sn := by
            rcases hor with h | h
            · exact absurd he h
            · exact Int.not_le.2 h
          rw [he]
          clear hor he
          have L09 := row_all (((hE8.trans hE9).block _ (Array.getElem?_eq_some_iff.1 r07).1).trans r07)
          generalize encOf (withR m (recsT sets ttl) (recsT soa ttl)) = EN at *
          generalize roomOf c sn = RM at *
          go_wp2_with (first | (refine wpList_load_part (by rfl) 28 (.tmp 4) rfl w.heap.size 0 rfl [.int .u8 c.kind, .int .i64 c.code, .int .u16 c.hd.id, .bool c.hd.qr, .int .u8 c.hd.op, .bool c.hd.aa, .bool c.hd.tc, .bool c.hd.rd, .bool c.hd.ra, .bool c.hd.z, .bool c.hd.ad, .bool c.hd.cd, .int .u8 c.hd.code, .bool c.hasQ, S c.q.name, .int .u16 c.q.typ, .int .u16 c.q.cls, .bool c.hasE, .int .i64 c.size] L09 _ Tryz.underlying28 rfl (by kernel_rfl) ?_) | fail)
          refine (HRo.out _).mono ?_
          rintro e w10 ⟨rfl, hE10⟩
          have r911 := (hE10.block _ (Array.getElem?_eq_some_iff.1 r910).1).trans r910
          have L011 := row_all ((((hE8.trans hE9).trans hE10).block _ (Array.getElem?_eq_some_iff.1 r07).1).trans r07)
          go_upto_region 11 with fail
          refine wp_region_lit ?_
          refine wpList_load_part (by rfl) 28 (.tmp 4) rfl w.heap.size 0 rfl [.int .u8 c.kind, .int .i64 c.code, .int .u16 c.hd.id, .bool c.hd.qr, .int .u8 c.hd.op, .bool c.hd.aa, .bool c.hd.tc, .bool c.hd.rd, .bool c.hd.ra, .bool c.hd.z, .bool c.hd.ad, .bool c.hd.cd, .int .u8 c.hd.code, .bool c.hasQ, S c.q.name, .int .u16 c.q.typ, .int .u16 c.q.cls, .bool c.hasE, .int .i64 c.size] L011 _ Tryz.underlying28 rfl (by kernel_rfl) ?_
          have vx : w10.cell? ⟨w.heap.size + 1, 0, none⟩ = some (.int .u8 (cn : Int)) := box_cell (((hE2.trans (hE29.trans hE10)).block _ (Array.getElem?_eq_some_iff.1 r1).1).trans r1) rfl
          iterate 14 go_step
          refine (HBB.out w10).mono ?_
          rintro e w11 ⟨q2, rfl, hq2, hE11⟩
          have hrow11 := (hE11.block _ (Array.getElem?_eq_some_iff.1 r911).1).trans r911
          obtain ⟨qA2, qc2, rfl, hq21, hq22, hqr2⟩ := hq2
          dsimp only
          iterate 1 go_step
          refine Go.wpList_store_rowTo rfl 52 (.tmp 9) (.tmp 77) rfl rfl b9 #[.int .u16 m.hd.id, .bool m.hd.qr, .int .u8 m.hd.op, .bool m.hd.aa, .bool m.hd.tc, .bool m.hd.rd, .bool m.hd.ra, .bool m.hd.z, .bool m.hd.ad, .bool m.hd.cd, .int .u8 m.hd.code, .slice qA2 m.qs.length qc2, .slice none 0 0, .slice none 0 0, .slice none 0 0, .bool m.he, .int .u16 m.ed.size, .int .u8 m.ed.ext, .int .u8 m.ed.ver, .int .u16 m.ed.flags, .slice none 0 0] rfl rfl 52 _ hrow11 (by kernel_rfl) rfl (by kernel_rfl) ?_
          refine wpList_nil ?_
          have gr := grown_row w11 b9 #[.int .u16 m.hd.id, .bool m.hd.qr, .int .u8 m.hd.op, .bool m.hd.aa, .bool m.hd.tc, .bool m.hd.rd, .bool m.hd.ra, .bool m.hd.z, .bool m.hd.ad, .bool m.hd.cd, .int .u8 m.hd.code, .slice qA2 m.qs.length qc2, .slice none 0 0, .slice none 0 0, .slice none 0 0, .bool m.he, .int .u16 m.ed.size, .int .u8 m.ed.ext, .int .u8 m.ed.ver, .int .u16 m.ed.flags, .slice none 0 0]
          have hE14 : Ext w2 (w11.setRow b9 #[.int .u16 m.hd.id, .bool m.hd.qr, .int .u8 m.hd.op, .bool m.hd.aa, .bool m.hd.tc, .bool m.hd.rd, .bool m.hd.ra, .bool m.hd.z, .bool m.hd.ad, .bool m.hd.cd, .int .u8 m.hd.code, .slice qA2 m.qs.length qc2, .slice none 0 0, .slice none 0 0, .slice none 0 0, .bool m.he, .int .u16 m.ed.size, .int .u8 m.ed.ext, .int .u8 m.ed.ver, .int .u16 m.ed.flags, .slice none 0 0]) := Below.grown ((hE29.trans hE10).trans hE11) gr ((hE29.trans hE10).trans hE11).size (fun k hk => by injection hk with hk; omega)
          have r14 := setRow_heap w11 b9 _ #[.int .u16 m.hd.id, .bool m.hd.qr, .int .u8 m.hd.op, .bool m.hd.aa, .bool m.hd.tc, .bool m.hd.rd, .bool m.hd.ra, .bool m.hd.z, .bool m.hd.ad, .bool m.hd.cd, .int .u8 m.hd.code, .slice qA2 m.qs.length qc2, .slice none 0 0, .slice none 0 0, .slice none 0 0, .bool m.he, .int .u16 m.ed.size, .int .u8 m.ed.ext, .int .u8 m.ed.ver, .int .u16 m.ed.flags, .slice none 0 0] _ _ hrow11
          have hq14 : Qus (w11.setRow b9 #[.int .u16 m.hd.id, .bool m.hd.qr, .int .u8 m.hd.op, .bool m.hd.aa, .bool m.hd.tc, .bool m.hd.rd, .bool m.hd.ra, .bool m.hd.z, .bool m.hd.ad, .bool m.hd.cd, .int .u8 m.hd.code, .slice qA2 m.qs.length qc2, .slice none 0 0, .slice none 0 0, .slice none 0 0, .bool m.he, .int .u16 m.ed.size, .int .u8 m.ed.ext, .int .u8 m.ed.ver, .int .u16 m.ed.flags, .slice none 0 0]) 0 (.slice qA2 m.qs.length qc2) m.qs := qus_off hrow11 rfl (fun b hb hne => gr.block b hb (fun e => hne (by injection e))) ⟨qA2, qc2, rfl, hq21, hq22, hqr2⟩
          obtain ⟨W14, hX⟩ : ∃ W14, W14 = w11.setRow b9 #[.int .u16 m.hd.id, .bool m.hd.qr, .int .u8 m.hd.op, .bool m.hd.aa, .bool m.hd.tc, .bool m.hd.rd, .bool m.hd.ra, .bool m.hd.z, .bool m.hd.ad, .bool m.hd.cd, .int .u8 m.hd.code, .slice qA2 m.qs.length qc2, .slice none 0 0, .slice none 0 0, .slice none 0 0, .bool m.he, .int .u16 m.ed.size, .int .u8 m.ed.ext, .int .u8 m.ed.ver, .int .u16 m.ed.flags, .slice none 0 0] := ⟨_, rfl⟩
          rw [← hX] at hE14 r14 hq14 ⊢
          clear hX gr hrow11 vx L011
          have k4 := box_cell (j := 4) r14 rfl
          have g4 := box_free (j := 4) r14
          go_upto_region 13 with fail
          have hE15 : Ext w2 (W14.setCell ⟨b9, 4, none⟩ (.bool true)) := hE14.setCell (p := ⟨b9, 4, none⟩) hb92 _
          have r15 : (W14.setCell ⟨b9, 4, none⟩ (.bool true)).heap[b9]? = some (.cells #[.int .u16 m.hd.id, .bool m.hd.qr, .int .u8 m.hd.op, .bool m.hd.aa, .bool true, .bool m.hd.rd, .bool m.hd.ra, .bool m.hd.z, .bool m.hd.ad, .bool m.hd.cd, .int .u8 m.hd.code, .slice qA2 m.qs.length qc2, .slice none 0 0, .slice none 0 0, .slice none 0 0, .bool m.he, .int .u16 m.ed.size, .int .u8 m.ed.ext, .int .u8 m.ed.ver, .int .u16 m.ed.flags, .slice none 0 0] 52) := row_set r14 4 (.bool true)
          have hq15 : Qus (W14.setCell ⟨b9, 4, none⟩ (.bool true)) 0 (.slice qA2 m.qs.length qc2) m.qs := qus_off r14 rfl (fun b hb hne => Below.heap_setCell W14 ⟨b9, 4, none⟩ (.bool true) b hne) hq14
          obtain ⟨W15, hX⟩ : ∃ W15, W15 = W14.setCell ⟨b9, 4, none⟩ (.bool true) := ⟨_, rfl⟩
          rw [← hX] at hE15 r15 hq15 ⊢
          clear hX k4 g4 r14 hq14
          go_wp2_with (first | (refine wpList_load_part (by rfl) 52 (.tmp 9) rfl b9 0 rfl [.int .u16 m.hd.id, .bool m.hd.qr, .int .u8 m.hd.op, .bool m.hd.aa, .bool true, .bool m.hd.rd, .bool m.hd.ra, .bool m.hd.z, .bool m.hd.ad, .bool m.hd.cd, .int .u8 m.hd.code, .slice qA2 m.qs.length qc2, .slice none 0 0, .slice none 0 0, .slice none 0 0, .bool m.he, .int .u16 m.ed.size, .int .u8 m.ed.ext, .int .u8 m.ed.ver, .int .u16 m.ed.flags, .slice none 0 0] (row_all r15) _ Tryz.underlying52 rfl (by kernel_rfl) ?_) | fail)
          refine (HEncT.out _ _ hq15).mono ?_
          rintro e w16 ⟨rfl, hE16⟩
          go_wp2_with fail
          go_ret
          exact ⟨by rw [HR.out]; rfl, (hw2.trans hE15).trans hE16⟩
        · have fe : ((encErr (withR m (recsT sets ttl) (recsT soa ttl)) : Int) == 0) = false := len_ne he
          clear hor he
          have L011 := row_all (((hE8.trans hE9).block _ (Array.getElem?_eq_some_iff.1 r07).1).trans r07)
          go_upto_region 11 with fail
          refine wp_region_lit ?_
          refine wpList_load_part (by rfl) 28 (.tmp 4) rfl w.heap.size 0 rfl [.int .u8 c.kind, .int .i64 c.code, .int .u16 c.hd.id, .bool c.hd.qr, .int .u8 c.hd.op, .bool c.hd.aa, .bool c.hd.tc, .bool c.hd.rd, .bool c.hd.ra, .bool c.hd.z, .bool c.hd.ad, .bool c.hd.cd, .int .u8 c.hd.code, .bool c.hasQ, S c.q.name, .int .u16 c.q.typ, .int .u16 c.q.cls, .bool c.hasE, .int .i64 c.size] L011 _ Tryz.underlying28 rfl (by kernel_rfl) ?_
          have vx : w9.cell? ⟨w.heap.size + 1, 0, none⟩ = some (.int .u8 (cn : Int)) := box_cell (((hE2.trans hE29).block _ (Array.getElem?_eq_some_iff.1 r1).1).trans r1) rfl
          iterate 14 go_step
          refine (HBB.out w9).mono ?_
          rintro e w11 ⟨q2, rfl, hq2, hE11⟩
          have hrow11 := (hE11.block _ (Array.getElem?_eq_some_iff.1 r910).1).trans r910
          obtain ⟨qA2, qc2, rfl, hq21, hq22, hqr2⟩ := hq2
          dsimp only
          iterate 1 go_step
          refine Go.wpList_store_rowTo rfl 52 (.tmp 9) (.tmp 77) rfl rfl b9 #[.int .u16 m.hd.id, .bool m.hd.qr, .int .u8 m.hd.op, .bool m.hd.aa, .bool m.hd.tc, .bool m.hd.rd, .bool m.hd.ra, .bool m.hd.z, .bool m.hd.ad, .bool m.hd.cd, .int .u8 m.hd.code, .slice qA2 m.qs.length qc2, .slice none 0 0, .slice none 0 0, .slice none 0 0, .bool m.he, .int .u16 m.ed.size, .int .u8 m.ed.ext, .int .u8 m.ed.ver, .int .u16 m.ed.flags, .slice none 0 0] rfl rfl 52 _ hrow11 (by kernel_rfl) rfl (by kernel_rfl) ?_
          refine wpList_nil ?_
          have gr := grown_row w11 b9 #[.int .u16 m.hd.id, .bool m.hd.qr, .int .u8 m.hd.op, .bool m.hd.aa, .bool m.hd.tc, .bool m.hd.rd, .bool m.hd.ra, .bool m.hd.z, .bool m.hd.ad, .bool m.hd.cd, .int .u8 m.hd.code, .slice qA2 m.qs.length qc2, .slice none 0 0, .slice none 0 0, .slice none 0 0, .bool m.he, .int .u16 m.ed.size, .int .u8 m.ed.ext, .int .u8 m.ed.ver, .int .u16 m.ed.flags, .slice none 0 0]
          have hE14 : Ext w2 (w11.setRow b9 #[.int .u16 m.hd.id, .bool m.hd.qr, .int .u8 m.hd.op, .bool m.hd.aa, .bool m.hd.tc, .bool m.hd.rd, .bool m.hd.ra, .bool m.hd.z, .bool m.hd.ad, .bool m.hd.cd, .int .u8 m.hd.code, .slice qA2 m.qs.length qc2, .slice none 0 0, .slice none 0 0, .slice none 0 0, .bool m.he, .int .u16 m.ed.size, .int .u8 m.ed.ext, .int .u8 m.ed.ver, .int .u16 m.ed.flags, .slice none 0 0]) := Below.grown (hE29.trans hE11) gr (hE29.trans hE11).size (fun k hk => by injection hk with hk; omega)
          have r14 := setRow_heap w11 b9 _ #[.int .u16 m.hd.id, .bool m.hd.qr, .int .u8 m.hd.op, .bool m.hd.aa, .bool m.hd.tc, .bool m.hd.rd, .bool m.hd.ra, .bool m.hd.z, .bool m.hd.ad, .bool m.hd.cd, .int .u8 m.hd.code, .slice qA2 m.qs.length qc2, .slice none 0 0, .slice none 0 0, .slice none 0 0, .bool m.he, .int .u16 m.ed.size, .int .u8 m.ed.ext, .int .u8 m.ed.ver, .int .u16 m.ed.flags, .slice none 0 0] _ _ hrow11
          have hq14 : Qus (w11.setRow b9 #[.int .u16 m.hd.id, .bool m.hd.qr, .int .u8 m.hd.op, .bool m.hd.aa, .bool m.hd.tc, .bool m.hd.rd, .bool m.hd.ra, .bool m.hd.z, .bool m.hd.ad, .bool m.hd.cd, .int .u8 m.hd.code, .slice qA2 m.qs.length qc2, .slice none 0 0, .slice none 0 0, .slice none 0 0, .bool m.he, .int .u16 m.ed.size, .int .u8 m.ed.ext, .int .u8 m.ed.ver, .int .u16 m.ed.flags, .slice none 0 0]) 0 (.slice qA2 m.qs.length qc2) m.qs := qus_off hrow11 rfl (fun b hb hne => gr.block b hb (fun e => hne (by injection e))) ⟨qA2, qc2, rfl, hq21, hq22, hqr2⟩
          obtain ⟨W14, hX⟩ : ∃ W14, W14 = w11.setRow b9 #[.int .u16 m.hd.id, .bool m.hd.qr, .int .u8 m.hd.op, .bool m.hd.aa, .bool m.hd.tc, .bool m.hd.rd, .bool m.hd.ra, .bool m.hd.z, .bool m.hd.ad, .bool m.hd.cd, .int .u8 m.hd.code, .slice qA2 m.qs.length qc2, .slice none 0 0, .slice none 0 0, .slice none 0 0, .bool m.he, .int .u16 m.ed.size, .int .u8 m.ed.ext, .int .u8 m.ed.ver, .int .u16 m.ed.flags, .slice none 0 0] := ⟨_, rfl⟩
          rw [← hX] at hE14 r14 hq14 ⊢
          clear hX gr hrow11 vx L011
          have k4 := box_cell (j := 4) r14 rfl
          have g4 := box_free (j := 4) r14
          go_upto_region 13 with fail
          have hE15 : Ext w2 (W14.setCell ⟨b9, 4, none⟩ (.bool true)) := hE14.setCell (p := ⟨b9, 4, none⟩) hb92 _
          have r15 : (W14.setCell ⟨b9, 4, none⟩ (.bool true)).heap[b9]? = some (.cells #[.int .u16 m.hd.id, .bool m.hd.qr, .int .u8 m.hd.op, .bool m.hd.aa, .bool true, .bool m.hd.rd, .bool m.hd.ra, .bool m.hd.z, .bool m.hd.ad, .bool m.hd.cd, .int .u8 m.hd.code, .slice qA2 m.qs.length qc2, .slice none 0 0, .slice none 0 0, .slice none 0 0, .bool m.he, .int .u16 m.ed.size, .int .u8 m.ed.ext, .int .u8 m.ed.ver, .int .u16 m.ed.flags, .slice none 0 0] 52) := row_set r14 4 (.bool true)
          have hq15 : Qus (W14.setCell ⟨b9, 4, none⟩ (.bool true)) 0 (.slice qA2 m.qs.length qc2) m.qs := qus_off r14 rfl (fun b hb hne => Below.heap_setCell W14 ⟨b9, 4, none⟩ (.bool true) b hne) hq14
          obtain ⟨W15, hX⟩ : ∃ W15, W15 = W14.setCell ⟨b9, 4, none⟩ (.bool true) := ⟨_, rfl⟩
          rw [← hX] at hE15 r15 hq15 ⊢
          clear hX k4 g4 r14 hq14
          go_wp2_with (first | (refine wpList_load_part (by rfl) 52 (.tmp 9) rfl b9 0 rfl [.int .u16 m.hd.id, .bool m.hd.qr, .int .u8 m.hd.op, .bool m.hd.aa, .bool true, .bool m.hd.rd, .bool m.hd.ra, .bool m.hd.z, .bool m.hd.ad, .bool m.hd.cd, .int .u8 m.hd.code, .slice qA2 m.qs.length qc2, .slice none 0 0, .slice none 0 0, .slice none 0 0, .bool m.he, .int .u16 m.ed.size, .int .u8 m.ed.ext, .int .u8 m.ed.ver, .int .u16 m.ed.flags, .slice none 0 0] (row_all r15) _ Tryz.underlying52 rfl (by kernel_rfl) ?_) | fail)
          refine (HEncT.out _ _ hq15).mono ?_
          rintro e w16 ⟨rfl, hE16⟩
          go_wp2_with fail
          go_ret
          exact ⟨by rw [HR.out]; rfl, (hw2.trans hE15).trans hE16⟩
end Go.Proofs.YtebkdcamblifoaaGreatDoor
