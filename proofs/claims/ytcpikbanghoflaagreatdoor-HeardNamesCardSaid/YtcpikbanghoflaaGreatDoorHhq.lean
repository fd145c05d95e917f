/- Contracts of functions and plain lemmas that the proofs of this seat share (joined texts). No condition. -/
import Derived.Test.YtcpikbanghoflaaGreatDoorHhd
import Derived.Test.YtcpikbanghoflaaGreatDoorHwy
import Derived.Deep.RegionHeld3
import Derived.OpenShut
namespace Go.Proofs.YtcpikbanghoflaaGreatDoor
set_option linter.unusedSimpArgs false
set_option linter.unusedVariables false
open Go.RowKit
set_option maxRecDepth 100000
def queryM (n : List UInt8) (ty cls id size : Int) : MsgD := ⟨⟨id, false, 0, false, false, true, false, false, false, false, 0⟩, [⟨fold n, ty, cls⟩], [], [], [], true, ⟨size, 0, 0, 0, []⟩⟩
def queryMay (n : List UInt8) (size : Int) : Prop := may n = true ∧ 0 ≤ size ∧ size ≤ 65535
instance (n : List UInt8) (size : Int) : Decidable (queryMay n size) := inferInstanceAs (Decidable (_ ∧ _))
def queryOf (n : List UInt8) (ty cls id size : Int) : List UInt8 := if queryMay n size then encOf (queryM n ty cls id size) else []
def queryErr (n : List UInt8) (ty cls id size : Int) : Nat := if queryMay n size then encErr (queryM n ty cls id size) else 1
def QueryPost (n : List UInt8) (ty cls id size : Int) (w : World) (e : Ending) (w' : World) : Prop := e = .returned (.tuple #[S (queryOf n ty cls id size), .int .i64 (queryErr n ty cls id size : Nat)]) ∧ Ext w w'
theorem queryM_wf {n : List UInt8} {ty cls id size : Int} (ht : 0 ≤ ty ∧ ty ≤ 65535) (hc : 0 ≤ cls ∧ cls ≤ 65535) (hi : 0 ≤ id ∧ id ≤ 65535) (hs : 0 ≤ size ∧ size ≤ 65535) : (queryM n ty cls id size).wf where
  id := hi
  op := by show (0 : Int) ≤ 0; omega
  code := by show (0 : Int) ≤ 0; omega
  qs := by
    intro q hq
    have e : q = ⟨fold n, ty, cls⟩ := List.mem_singleton.1 hq
    subst e
    exact ⟨ht, hc⟩
  ans := by intro r hr; cases hr
  auth := by intro r hr; cases hr
  extra := by intro r hr; cases hr
  size := hs
  ext := by show (0 : Int) ≤ 0 ∧ (0 : Int) ≤ 255; omega
  ver := by show (0 : Int) ≤ 0 ∧ (0 : Int) ≤ 255; omega
  flags := by show (0 : Int) ≤ 0 ∧ (0 : Int) ≤ 65535; omega
  opts := by intro o ho; cases ho
theorem qus_row7 {w : World} {g : Nat} {q : QD} (h : w.heap[g]? = some (.cells #[S q.name, .int .u16 q.typ, .int .u16 q.cls] 25)) : Qus w 0 (.slice (some ⟨g, 0, none⟩) 1 1) [q] := by
  refine ⟨some ⟨g, 0, none⟩, 1, rfl, Nat.le_refl _, by unfold maxLen; omega, rfl, fun _ => ⟨g, 0, rfl, Nat.zero_le _, (Array.getElem?_eq_some_iff.1 h).1, fun j u hj => ?_⟩⟩
  rw [Nat.zero_add]
  have hj' : #[S q.name, .int .u16 q.typ, .int .u16 q.cls][j]? = some u := by simpa [quCells] using hj
  simp only [World.cell?, h]
  exact hj'
theorem msg7_query {w : World} {q : Value} {n : List UInt8} {ty cls id size : Int} (h : Qus w 0 q [⟨fold n, ty, cls⟩]) (hn : (fold n).length ≤ 1048576) : Msg7 w (queryM n ty cls id size) q (.slice none 0 0) (.slice none 0 0) (.slice none 0 0) (.slice none 0 0) := by
  have hr : Recs w 0 (.slice none 0 0) [] := ⟨none, 0, rfl, Nat.le_refl _, by unfold maxLen; omega, rfl, fun h => absurd h (by decide)⟩
  refine ⟨h, hr, hr, hr, ⟨none, 0, rfl, Nat.le_refl _, by unfold maxLen; omega, rfl, fun h => absurd (show 0 < 0 from h) (Nat.lt_irrefl 0)⟩, ?_, ?_, ?_, ?_, Nat.zero_le _⟩
  · intro q hq
    have e : q = ⟨fold n, ty, cls⟩ := List.mem_singleton.1 hq
    subst e
    exact hn
  all_goals (intro r hr; cases hr)
theorem setRow_otherH (w : World) (g : Nat) (cs : Array Value) (k : Nat) (h : k ≠ g) : (w.setRow g cs).heap[k]? = w.heap[k]? := by
  show (w.heap.modify g _)[k]? = _
  rw [Array.getElem?_modify, if_neg (fun e => h e.symm)]
theorem ext_setRowH {X w : World} (hE : Ext X w) {g : Nat} (hg : X.heap.size ≤ g) (cs : Array Value) : Ext X (w.setRow g cs) :=
  ⟨hE.os, hE.tape, hE.output, by have := hE.size; simpa [World.setRow] using this, fun k hk => (setRow_otherH w g cs k (by omega)).trans (hE.block k hk)⟩
theorem keepQ {X V : World} {g : Nat} {a b c : Value} {t : TypeId} (hE : Ext X V) (r : X.heap[g]? = some (.cells #[a, b, c] t)) : V.cell? ⟨g, 0, none⟩ = some a ∧ V.cell? ⟨g, 1, none⟩ = some b ∧ V.cell? ⟨g, 2, none⟩ = some c := by
  have h := (hE.block _ (Array.getElem?_eq_some_iff.1 r).1).trans r
  exact ⟨box_cell h rfl, box_cell h rfl, box_cell h rfl⟩
set_option maxHeartbeats 4000000 in
theorem heard_query (n : List UInt8) (ty cls id size : Int) (w : World) (hg : Laid w) (hb : BitsAt w) (hn : n.length ≤ 1048576) (ht : 0 ≤ ty ∧ ty ≤ 65535) (hc : 0 ≤ cls ∧ cls ≤ 65535) (hi : 0 ≤ id ∧ id ≤ 65535) :
    Calls Tryz.prog 23 #[.agg #[S n, .int .u16 ty, .int .u16 cls], .int .u16 id, .int .i64 size] w (QueryPost n ty cls id size w) := by
  obtain ⟨X0, hX0⟩ : ∃ X0, X0 = w.alloc (.cells #[S n, .int .u16 ty, .int .u16 cls] 25) := ⟨_, rfl⟩
  obtain ⟨g3, hg3⟩ : ∃ g3, g3 = w.heap.size := ⟨_, rfl⟩
  have r0 : X0.heap[g3]? = some (.cells #[S n, .int .u16 ty, .int .u16 cls] 25) := by rw [hX0, hg3]; exact heap_alloc_new _ _
  have hE0 : Ext w X0 := by rw [hX0]; exact (Ext.refl _).alloc _
  have hfl : (fold n).length ≤ 1048576 := Nat.le_trans (fold_le n) (by omega)
  have HMy := Lib.hid (fun V => name_may n V (by unfold maxLen; omega))
  have HF := Lib.hid (fun V => name_fold n V (by unfold maxLen; omega))
  go_enter Tryz.func23, Tryz.ntmps23
  go_upto_region 1 with fail
  rw [← hX0, ← hg3]
  clear hX0 hg3
  have k0 := box_cell (j := 0) r0 rfl
  have k1 := box_cell (j := 1) r0 rfl
  have k2 := box_cell (j := 2) r0 rfl
  by_cases hmay : queryMay n size
  · obtain ⟨m1, m2, m3⟩ := hmay
    have HQ := Lib.hid (show queryOf n ty cls id size = encOf (queryM n ty cls id size) from if_pos ⟨m1, m2, m3⟩)
    have HQe := Lib.hid (show queryErr n ty cls id size = encErr (queryM n ty cls id size) from if_pos ⟨m1, m2, m3⟩)
    rw [m1] at HMy
    clear m1
    have s1 : ¬ size < 0 := by omega
    have s2 : ¬ 65535 < size := by omega
    go_wp2_with fail
    refine (HMy.out _).mono ?_
    rintro e w1 ⟨rfl, hq1⟩
    rw [← hq1]
    clear hq1
    go_upto_region 3 with fail
    have HS3 := Lib.hid (fun V (hV : Ext X0 V) => keepQ hV r0)
    refine wp_region_noPanic ?_
    refine wp_region_tree (S := (fun V => V.cell? ⟨g3, 0, none⟩ = some (S n) ∧ V.cell? ⟨g3, 1, none⟩ = some (.int .u16 ty) ∧ V.cell? ⟨g3, 2, none⟩ = some (.int .u16 cls))) (.take 0 (.take 1 (.take 2 (.take 3 (.take 5 (.take 6 (.take 7 (.take 8 (.take 11 (.take 12 (.take 13 (.run2 4 (.take 9 (.run2 10 (.take 14 (.run 15 (.run 16 (.done)))) 15 (.run 10 (.take 14 (.run 16 (.done)))))) 15 (.run 4 (.take 9 (.run 10 (.take 14 (.run 16 (.done)))))))))))))))))) (by kernel_rfl) (by kernel_rfl) (fun _ _ _ _ _ h => h) ((HS3.out _ (Ext.refl X0).drew)) ?_
    repeat ((with_reducible refine treeIs ?_); first
      | (refine treeTakeX (a' := ?_) ⟨_, (HS3.out _ (Ext.refl X0).drew)⟩ (by rfl) rfl (by kernel_rfl) rfl ?_ ?_; rotate_left; (focus (intro V Q' hV hq; obtain ⟨hV1, hV2, hV3⟩ := hV; (repeat (first | go_guarded | go_skip | go_step)); (first | exact hq | exact wpList_nil hq)))))
    refine treeRun2 ?_ ?_
    · refine treeRun (by rfl) (fun K hK => ?_)
      go_simp
      refine (HF.out _).mono ?_
      rintro e wf ⟨rfl, hEq⟩
      have hEf : Ext X0 wf := ((Ext.refl X0).drew).trans hEq
      clear hEq
      refine hK.out _ _ ?_ ?_
      · exact (HS3.out _ hEf)
      clear hK K
      (try simp only [Act.put, List.setIfInBounds_toArray, List.set_cons_zero, List.set_cons_succ])
      repeat ((with_reducible refine treeIs ?_); first
        | (refine treeTakeX (a' := ?_) ⟨_, (HS3.out _ (Ext.refl X0).drew)⟩ (by rfl) rfl (by kernel_rfl) rfl ?_ ?_; rotate_left; (focus (intro V Q' hV hq; obtain ⟨hV1, hV2, hV3⟩ := hV; (repeat (first | go_guarded | go_skip | go_step)); (first | exact hq | exact wpList_nil hq)))))
      refine treeRun2 ?_ ?_
      · refine treeRun (by rfl) (fun K hK => ?_)
        go_simp
        obtain ⟨gs, hgs⟩ : ∃ gs, gs = (wf).heap.size := ⟨_, rfl⟩
        have rs : ((wf).alloc (.cells #[S (fold n), .int .u16 ty, .int .u16 cls] 25)).heap[gs]? = some (.cells #[S (fold n), .int .u16 ty, .int .u16 cls] 25) := by rw [hgs]; exact heap_alloc_new _ _
        have hEs : Ext (wf) ((wf).alloc (.cells #[S (fold n), .int .u16 ty, .int .u16 cls] 25)) := (Ext.refl _).alloc _
        obtain ⟨ws, hws⟩ : ∃ ws, ws = (wf).alloc (.cells #[S (fold n), .int .u16 ty, .int .u16 cls] 25) := ⟨_, rfl⟩
        try rw [← hws]
        try rw [← hgs]
        rw [← hws] at rs hEs
        have hE10 : Ext X0 ws := (hEf).trans hEs
        clear hws hgs
        clear hEs
        refine hK.out _ _ ?_ ?_
        · exact (HS3.out _ hE10)
        clear hK K
        (try simp only [Act.put, List.setIfInBounds_toArray, List.set_cons_zero, List.set_cons_succ])
        repeat ((with_reducible refine treeIs ?_); first
          | (refine treeTakeX (a' := ?_) ⟨_, (HS3.out _ (Ext.refl X0).drew)⟩ (by rfl) rfl (by kernel_rfl) rfl ?_ ?_; rotate_left; (focus (intro V Q' hV hq; obtain ⟨hV1, hV2, hV3⟩ := hV; (repeat (first | go_guarded | go_skip | go_step)); (first | exact hq | exact wpList_nil hq)))))
        refine treeRunX (by rfl) (fun Q' hQ hP => ?_)
        obtain ⟨g8, hg8⟩ : ∃ g8, g8 = (ws).heap.size := ⟨_, rfl⟩
        have ra : ((ws).alloc (.cells msgZ 38)).heap[g8]? = some (.cells msgZ 38) := by rw [hg8]; exact heap_alloc_new _ _
        have hEa : Ext (ws) ((ws).alloc (.cells msgZ 38)) := (Ext.refl _).alloc _
        refine Go.Great.wpList_allocTo rfl (some 8) rfl (.pointer (some ⟨(ws).heap.size, 0, none⟩)) (.cells msgZ 38) (by kernel_rfl) ?_
        rw [← hg8]
        have hg8l : X0.heap.size ≤ g8 := by rw [hg8]; exact (hE10).size
        obtain ⟨wa, hwa⟩ : ∃ wa, wa = (ws).alloc (.cells msgZ 38) := ⟨_, rfl⟩
        rw [← hwa] at ra hEa ⊢
        have hE15 : Ext X0 wa := (hE10).trans hEa
        clear hwa hg8
        have rs := (hEa.block _ (Array.getElem?_eq_some_iff.1 rs).1).trans rs
        clear hEa
        refine wpList_nil ?_
        refine hQ.out _ _ (HS3.out _ hE15) ?_
        clear hQ hP Q'
        (try simp only [Act.put, List.setIfInBounds_toArray, List.set_cons_zero, List.set_cons_succ])
        refine treeRunX (by rfl) (fun Q' hQ hP => ?_)
        refine Go.wpList_store_rowTo rfl 38 (.tmp 8) (.tmp 35) rfl rfl g8 #[.int .u16 id, .bool false, .int .u8 0, .bool false, .bool false, .bool true, .bool false, .bool false, .bool false, .bool false, .int .u8 0, .slice (some ⟨gs, 0, none⟩) 1 1, .slice none 0 0, .slice none 0 0, .slice none 0 0, .bool true, .int .u16 size, .int .u8 0, .int .u8 0, .int .u16 0, .slice none 0 0] rfl rfl 38 _ ra (by kernel_rfl) rfl (by kernel_rfl) ?_
        have hgne : gs ≠ g8 := by intro e; subst e; rw [rs] at ra; injection ra with ra; injection ra with _ h2 _; exact absurd h2 (by decide)
        have rr := setRow_heap (wa) g8 _ #[.int .u16 id, .bool false, .int .u8 0, .bool false, .bool false, .bool true, .bool false, .bool false, .bool false, .bool false, .int .u8 0, .slice (some ⟨gs, 0, none⟩) 1 1, .slice none 0 0, .slice none 0 0, .slice none 0 0, .bool true, .int .u16 size, .int .u8 0, .int .u8 0, .int .u16 0, .slice none 0 0] _ _ ra
        have rq := (setRow_otherH (wa) g8 #[.int .u16 id, .bool false, .int .u8 0, .bool false, .bool false, .bool true, .bool false, .bool false, .bool false, .bool false, .int .u8 0, .slice (some ⟨gs, 0, none⟩) 1 1, .slice none 0 0, .slice none 0 0, .slice none 0 0, .bool true, .int .u16 size, .int .u8 0, .int .u8 0, .int .u16 0, .slice none 0 0] gs hgne).trans rs
        have hEr : Ext X0 (World.setRow (wa) g8 #[.int .u16 id, .bool false, .int .u8 0, .bool false, .bool false, .bool true, .bool false, .bool false, .bool false, .bool false, .int .u8 0, .slice (some ⟨gs, 0, none⟩) 1 1, .slice none 0 0, .slice none 0 0, .slice none 0 0, .bool true, .int .u16 size, .int .u8 0, .int .u8 0, .int .u16 0, .slice none 0 0]) := ext_setRowH (hE15) hg8l _
        obtain ⟨wr, hwr⟩ : ∃ wr, wr = World.setRow (wa) g8 #[.int .u16 id, .bool false, .int .u8 0, .bool false, .bool false, .bool true, .bool false, .bool false, .bool false, .bool false, .int .u8 0, .slice (some ⟨gs, 0, none⟩) 1 1, .slice none 0 0, .slice none 0 0, .slice none 0 0, .bool true, .int .u16 size, .int .u8 0, .int .u8 0, .int .u16 0, .slice none 0 0] := ⟨_, rfl⟩
        rw [← hwr] at rr rq hEr ⊢
        clear hwr
        refine wpList_nil ?_
        refine hQ.out _ _ (HS3.out _ hEr) ?_
        clear hQ hP Q'
        (try simp only [Act.put, List.setIfInBounds_toArray, List.set_cons_zero, List.set_cons_succ])
        refine treeDone ?_
        refine NoPanic.normal ?_
        have hqu : Qus wr 0 (.slice (some ⟨gs, 0, none⟩) 1 1) [⟨fold n, ty, cls⟩] := qus_row7 (q := ⟨fold n, ty, cls⟩) rq
        have hm7 : Msg7 wr (queryM n ty cls id size) (.slice (some ⟨gs, 0, none⟩) 1 1) (.slice none 0 0) (.slice none 0 0) (.slice none 0 0) (.slice none 0 0) := msg7_query hqu hfl
        have HEn := wire_encode (queryM n ty cls id size) _ _ _ _ _ wr (hg.ext (hE0.trans hEr)) (hb.ext (hE0.trans hEr)) (queryM_wf ht hc hi ⟨m2, m3⟩) hm7
        go_wp2_with (first | (refine wpList_load_part (by rfl) 38 (.tmp 8) rfl g8 0 rfl [.int .u16 id, .bool false, .int .u8 0, .bool false, .bool false, .bool true, .bool false, .bool false, .bool false, .bool false, .int .u8 0, .slice (some ⟨gs, 0, none⟩) 1 1, .slice none 0 0, .slice none 0 0, .slice none 0 0, .bool true, .int .u16 size, .int .u8 0, .int .u8 0, .int .u16 0, .slice none 0 0] (row_all rr) _ Tryz.underlying38 rfl (by kernel_rfl) ?_) | fail)
        refine HEn.mono ?_
        rintro e we ⟨rfl, hEe⟩
        go_wp2_with fail
        go_ret2
        exact ⟨by rw [HQ.out, HQe.out]; rfl, (hE0.trans hEr).trans hEe⟩
      · refine treeRunX (by rfl) (fun Q' hQ hP => ?_)
        obtain ⟨g8, hg8⟩ : ∃ g8, g8 = (wf).heap.size := ⟨_, rfl⟩
        have ra : ((wf).alloc (.cells msgZ 38)).heap[g8]? = some (.cells msgZ 38) := by rw [hg8]; exact heap_alloc_new _ _
        have hEa : Ext (wf) ((wf).alloc (.cells msgZ 38)) := (Ext.refl _).alloc _
        refine Go.Great.wpList_allocTo rfl (some 8) rfl (.pointer (some ⟨(wf).heap.size, 0, none⟩)) (.cells msgZ 38) (by kernel_rfl) ?_
        rw [← hg8]
        have hg8l : X0.heap.size ≤ g8 := by rw [hg8]; exact (hEf).size
        obtain ⟨wa, hwa⟩ : ∃ wa, wa = (wf).alloc (.cells msgZ 38) := ⟨_, rfl⟩
        rw [← hwa] at ra hEa ⊢
        have hE15 : Ext X0 wa := (hEf).trans hEa
        clear hwa hg8
        clear hEa
        refine wpList_nil ?_
        refine hQ.out _ _ (HS3.out _ hE15) ?_
        clear hQ hP Q'
        (try simp only [Act.put, List.setIfInBounds_toArray, List.set_cons_zero, List.set_cons_succ])
        refine treeRun (by rfl) (fun K hK => ?_)
        go_simp
        obtain ⟨gs, hgs⟩ : ∃ gs, gs = (wa).heap.size := ⟨_, rfl⟩
        have rs : ((wa).alloc (.cells #[S (fold n), .int .u16 ty, .int .u16 cls] 25)).heap[gs]? = some (.cells #[S (fold n), .int .u16 ty, .int .u16 cls] 25) := by rw [hgs]; exact heap_alloc_new _ _
        have hEs : Ext (wa) ((wa).alloc (.cells #[S (fold n), .int .u16 ty, .int .u16 cls] 25)) := (Ext.refl _).alloc _
        obtain ⟨ws, hws⟩ : ∃ ws, ws = (wa).alloc (.cells #[S (fold n), .int .u16 ty, .int .u16 cls] 25) := ⟨_, rfl⟩
        try rw [← hws]
        try rw [← hgs]
        rw [← hws] at rs hEs
        have hE10 : Ext X0 ws := (hE15).trans hEs
        clear hws hgs
        have ra := (hEs.block _ (Array.getElem?_eq_some_iff.1 ra).1).trans ra
        clear hEs
        refine hK.out _ _ ?_ ?_
        · exact (HS3.out _ hE10)
        clear hK K
        (try simp only [Act.put, List.setIfInBounds_toArray, List.set_cons_zero, List.set_cons_succ])
        repeat ((with_reducible refine treeIs ?_); first
          | (refine treeTakeX (a' := ?_) ⟨_, (HS3.out _ (Ext.refl X0).drew)⟩ (by rfl) rfl (by kernel_rfl) rfl ?_ ?_; rotate_left; (focus (intro V Q' hV hq; obtain ⟨hV1, hV2, hV3⟩ := hV; (repeat (first | go_guarded | go_skip | go_step)); (first | exact hq | exact wpList_nil hq)))))
        refine treeRunX (by rfl) (fun Q' hQ hP => ?_)
        refine Go.wpList_store_rowTo rfl 38 (.tmp 8) (.tmp 35) rfl rfl g8 #[.int .u16 id, .bool false, .int .u8 0, .bool false, .bool false, .bool true, .bool false, .bool false, .bool false, .bool false, .int .u8 0, .slice (some ⟨gs, 0, none⟩) 1 1, .slice none 0 0, .slice none 0 0, .slice none 0 0, .bool true, .int .u16 size, .int .u8 0, .int .u8 0, .int .u16 0, .slice none 0 0] rfl rfl 38 _ ra (by kernel_rfl) rfl (by kernel_rfl) ?_
        have hgne : gs ≠ g8 := by intro e; subst e; rw [rs] at ra; injection ra with ra; injection ra with _ h2 _; exact absurd h2 (by decide)
        have rr := setRow_heap (ws) g8 _ #[.int .u16 id, .bool false, .int .u8 0, .bool false, .bool false, .bool true, .bool false, .bool false, .bool false, .bool false, .int .u8 0, .slice (some ⟨gs, 0, none⟩) 1 1, .slice none 0 0, .slice none 0 0, .slice none 0 0, .bool true, .int .u16 size, .int .u8 0, .int .u8 0, .int .u16 0, .slice none 0 0] _ _ ra
        have rq := (setRow_otherH (ws) g8 #[.int .u16 id, .bool false, .int .u8 0, .bool false, .bool false, .bool true, .bool false, .bool false, .bool false, .bool false, .int .u8 0, .slice (some ⟨gs, 0, none⟩) 1 1, .slice none 0 0, .slice none 0 0, .slice none 0 0, .bool true, .int .u16 size, .int .u8 0, .int .u8 0, .int .u16 0, .slice none 0 0] gs hgne).trans rs
        have hEr : Ext X0 (World.setRow (ws) g8 #[.int .u16 id, .bool false, .int .u8 0, .bool false, .bool false, .bool true, .bool false, .bool false, .bool false, .bool false, .int .u8 0, .slice (some ⟨gs, 0, none⟩) 1 1, .slice none 0 0, .slice none 0 0, .slice none 0 0, .bool true, .int .u16 size, .int .u8 0, .int .u8 0, .int .u16 0, .slice none 0 0]) := ext_setRowH (hE10) hg8l _
        obtain ⟨wr, hwr⟩ : ∃ wr, wr = World.setRow (ws) g8 #[.int .u16 id, .bool false, .int .u8 0, .bool false, .bool false, .bool true, .bool false, .bool false, .bool false, .bool false, .int .u8 0, .slice (some ⟨gs, 0, none⟩) 1 1, .slice none 0 0, .slice none 0 0, .slice none 0 0, .bool true, .int .u16 size, .int .u8 0, .int .u8 0, .int .u16 0, .slice none 0 0] := ⟨_, rfl⟩
        rw [← hwr] at rr rq hEr ⊢
        clear hwr
        refine wpList_nil ?_
        refine hQ.out _ _ (HS3.out _ hEr) ?_
        clear hQ hP Q'
        (try simp only [Act.put, List.setIfInBounds_toArray, List.set_cons_zero, List.set_cons_succ])
        refine treeDone ?_
        refine NoPanic.normal ?_
        have hqu : Qus wr 0 (.slice (some ⟨gs, 0, none⟩) 1 1) [⟨fold n, ty, cls⟩] := qus_row7 (q := ⟨fold n, ty, cls⟩) rq
        have hm7 : Msg7 wr (queryM n ty cls id size) (.slice (some ⟨gs, 0, none⟩) 1 1) (.slice none 0 0) (.slice none 0 0) (.slice none 0 0) (.slice none 0 0) := msg7_query hqu hfl
        have HEn := wire_encode (queryM n ty cls id size) _ _ _ _ _ wr (hg.ext (hE0.trans hEr)) (hb.ext (hE0.trans hEr)) (queryM_wf ht hc hi ⟨m2, m3⟩) hm7
        go_wp2_with (first | (refine wpList_load_part (by rfl) 38 (.tmp 8) rfl g8 0 rfl [.int .u16 id, .bool false, .int .u8 0, .bool false, .bool false, .bool true, .bool false, .bool false, .bool false, .bool false, .int .u8 0, .slice (some ⟨gs, 0, none⟩) 1 1, .slice none 0 0, .slice none 0 0, .slice none 0 0, .bool true, .int .u16 size, .int .u8 0, .int .u8 0, .int .u16 0, .slice none 0 0] (row_all rr) _ Tryz.underlying38 rfl (by kernel_rfl) ?_) | fail)
        refine HEn.mono ?_
        rintro e we ⟨rfl, hEe⟩
        go_wp2_with fail
        go_ret2
        exact ⟨by rw [HQ.out, HQe.out]; rfl, (hE0.trans hEr).trans hEe⟩
    · refine treeRunX (by rfl) (fun Q' hQ hP => ?_)
      obtain ⟨g8, hg8⟩ : ∃ g8, g8 = (X0.drew).heap.size := ⟨_, rfl⟩
      have ra : ((X0.drew).alloc (.cells msgZ 38)).heap[g8]? = some (.cells msgZ 38) := by rw [hg8]; exact heap_alloc_new _ _
      have hEa : Ext (X0.drew) ((X0.drew).alloc (.cells msgZ 38)) := (Ext.refl _).alloc _
      refine Go.Great.wpList_allocTo rfl (some 8) rfl (.pointer (some ⟨(X0.drew).heap.size, 0, none⟩)) (.cells msgZ 38) (by kernel_rfl) ?_
      rw [← hg8]
      have hg8l : X0.heap.size ≤ g8 := by rw [hg8]; exact ((Ext.refl X0).drew).size
      obtain ⟨wa, hwa⟩ : ∃ wa, wa = (X0.drew).alloc (.cells msgZ 38) := ⟨_, rfl⟩
      rw [← hwa] at ra hEa ⊢
      have hE15 : Ext X0 wa := ((Ext.refl X0).drew).trans hEa
      clear hwa hg8
      clear hEa
      refine wpList_nil ?_
      refine hQ.out _ _ (HS3.out _ hE15) ?_
      clear hQ hP Q'
      (try simp only [Act.put, List.setIfInBounds_toArray, List.set_cons_zero, List.set_cons_succ])
      refine treeRun (by rfl) (fun K hK => ?_)
      go_simp
      refine (HF.out _).mono ?_
      rintro e wf ⟨rfl, hEq⟩
      have hEf : Ext X0 wf := (hE15).trans hEq
      have ra := (hEq.block _ (Array.getElem?_eq_some_iff.1 ra).1).trans ra
      clear hEq
      refine hK.out _ _ ?_ ?_
      · exact (HS3.out _ hEf)
      clear hK K
      (try simp only [Act.put, List.setIfInBounds_toArray, List.set_cons_zero, List.set_cons_succ])
      repeat ((with_reducible refine treeIs ?_); first
        | (refine treeTakeX (a' := ?_) ⟨_, (HS3.out _ (Ext.refl X0).drew)⟩ (by rfl) rfl (by kernel_rfl) rfl ?_ ?_; rotate_left; (focus (intro V Q' hV hq; obtain ⟨hV1, hV2, hV3⟩ := hV; (repeat (first | go_guarded | go_skip | go_step)); (first | exact hq | exact wpList_nil hq)))))
      refine treeRun (by rfl) (fun K hK => ?_)
      go_simp
      obtain ⟨gs, hgs⟩ : ∃ gs, gs = (wf).heap.size := ⟨_, rfl⟩
      have rs : ((wf).alloc (.cells #[S (fold n), .int .u16 ty, .int .u16 cls] 25)).heap[gs]? = some (.cells #[S (fold n), .int .u16 ty, .int .u16 cls] 25) := by rw [hgs]; exact heap_alloc_new _ _
      have hEs : Ext (wf) ((wf).alloc (.cells #[S (fold n), .int .u16 ty, .int .u16 cls] 25)) := (Ext.refl _).alloc _
      obtain ⟨ws, hws⟩ : ∃ ws, ws = (wf).alloc (.cells #[S (fold n), .int .u16 ty, .int .u16 cls] 25) := ⟨_, rfl⟩
      try rw [← hws]
      try rw [← hgs]
      rw [← hws] at rs hEs
      have hE10 : Ext X0 ws := (hEf).trans hEs
      clear hws hgs
      have ra := (hEs.block _ (Array.getElem?_eq_some_iff.1 ra).1).trans ra
      clear hEs
      refine hK.out _ _ ?_ ?_
      · exact (HS3.out _ hE10)
      clear hK K
      (try simp only [Act.put, List.setIfInBounds_toArray, List.set_cons_zero, List.set_cons_succ])
      repeat ((with_reducible refine treeIs ?_); first
        | (refine treeTakeX (a' := ?_) ⟨_, (HS3.out _ (Ext.refl X0).drew)⟩ (by rfl) rfl (by kernel_rfl) rfl ?_ ?_; rotate_left; (focus (intro V Q' hV hq; obtain ⟨hV1, hV2, hV3⟩ := hV; (repeat (first | go_guarded | go_skip | go_step)); (first | exact hq | exact wpList_nil hq)))))
      refine treeRunX (by rfl) (fun Q' hQ hP => ?_)
      refine Go.wpList_store_rowTo rfl 38 (.tmp 8) (.tmp 35) rfl rfl g8 #[.int .u16 id, .bool false, .int .u8 0, .bool false, .bool false, .bool true, .bool false, .bool false, .bool false, .bool false, .int .u8 0, .slice (some ⟨gs, 0, none⟩) 1 1, .slice none 0 0, .slice none 0 0, .slice none 0 0, .bool true, .int .u16 size, .int .u8 0, .int .u8 0, .int .u16 0, .slice none 0 0] rfl rfl 38 _ ra (by kernel_rfl) rfl (by kernel_rfl) ?_
      have hgne : gs ≠ g8 := by intro e; subst e; rw [rs] at ra; injection ra with ra; injection ra with _ h2 _; exact absurd h2 (by decide)
      have rr := setRow_heap (ws) g8 _ #[.int .u16 id, .bool false, .int .u8 0, .bool false, .bool false, .bool true, .bool false, .bool false, .bool false, .bool false, .int .u8 0, .slice (some ⟨gs, 0, none⟩) 1 1, .slice none 0 0, .slice none 0 0, .slice none 0 0, .bool true, .int .u16 size, .int .u8 0, .int .u8 0, .int .u16 0, .slice none 0 0] _ _ ra
      have rq := (setRow_otherH (ws) g8 #[.int .u16 id, .bool false, .int .u8 0, .bool false, .bool false, .bool true, .bool false, .bool false, .bool false, .bool false, .int .u8 0, .slice (some ⟨gs, 0, none⟩) 1 1, .slice none 0 0, .slice none 0 0, .slice none 0 0, .bool true, .int .u16 size, .int .u8 0, .int .u8 0, .int .u16 0, .slice none 0 0] gs hgne).trans rs
      have hEr : Ext X0 (World.setRow (ws) g8 #[.int .u16 id, .bool false, .int .u8 0, .bool false, .bool false, .bool true, .bool false, .bool false, .bool false, .bool false, .int .u8 0, .slice (some ⟨gs, 0, none⟩) 1 1, .slice none 0 0, .slice none 0 0, .slice none 0 0, .bool true, .int .u16 size, .int .u8 0, .int .u8 0, .int .u16 0, .slice none 0 0]) := ext_setRowH (hE10) hg8l _
      obtain ⟨wr, hwr⟩ : ∃ wr, wr = World.setRow (ws) g8 #[.int .u16 id, .bool false, .int .u8 0, .bool false, .bool false, .bool true, .bool false, .bool false, .bool false, .bool false, .int .u8 0, .slice (some ⟨gs, 0, none⟩) 1 1, .slice none 0 0, .slice none 0 0, .slice none 0 0, .bool true, .int .u16 size, .int .u8 0, .int .u8 0, .int .u16 0, .slice none 0 0] := ⟨_, rfl⟩
      rw [← hwr] at rr rq hEr ⊢
      clear hwr
      refine wpList_nil ?_
      refine hQ.out _ _ (HS3.out _ hEr) ?_
      clear hQ hP Q'
      (try simp only [Act.put, List.setIfInBounds_toArray, List.set_cons_zero, List.set_cons_succ])
      refine treeDone ?_
      refine NoPanic.normal ?_
      have hqu : Qus wr 0 (.slice (some ⟨gs, 0, none⟩) 1 1) [⟨fold n, ty, cls⟩] := qus_row7 (q := ⟨fold n, ty, cls⟩) rq
      have hm7 : Msg7 wr (queryM n ty cls id size) (.slice (some ⟨gs, 0, none⟩) 1 1) (.slice none 0 0) (.slice none 0 0) (.slice none 0 0) (.slice none 0 0) := msg7_query hqu hfl
      have HEn := wire_encode (queryM n ty cls id size) _ _ _ _ _ wr (hg.ext (hE0.trans hEr)) (hb.ext (hE0.trans hEr)) (queryM_wf ht hc hi ⟨m2, m3⟩) hm7
      go_wp2_with (first | (refine wpList_load_part (by rfl) 38 (.tmp 8) rfl g8 0 rfl [.int .u16 id, .bool false, .int .u8 0, .bool false, .bool false, .bool true, .bool false, .bool false, .bool false, .bool false, .int .u8 0, .slice (some ⟨gs, 0, none⟩) 1 1, .slice none 0 0, .slice none 0 0, .slice none 0 0, .bool true, .int .u16 size, .int .u8 0, .int .u8 0, .int .u16 0, .slice none 0 0] (row_all rr) _ Tryz.underlying38 rfl (by kernel_rfl) ?_) | fail)
      refine HEn.mono ?_
      rintro e we ⟨rfl, hEe⟩
      go_wp2_with fail
      go_ret2
      exact ⟨by rw [HQ.out, HQe.out]; rfl, (hE0.trans hEr).trans hEe⟩
  · have HQ := Lib.hid (show queryOf n ty cls id size = [] from if_neg hmay)
    have HQe := Lib.hid (show queryErr n ty cls id size = 1 from if_neg hmay)
    have hm : may n = true → size < 0 ∨ 65535 < size := fun h => by
      by_cases h0 : size < 0
      · exact .inl h0
      · refine .inr ?_
        by_cases h1 : 65535 < size
        · exact h1
        · exact absurd ⟨h, by omega, by omega⟩ hmay
    clear hmay
    go_wp2_with fail
    refine (HMy.out _).mono ?_
    rintro e w1 ⟨rfl, hq1⟩
    rw [← hq1]
    clear hq1
    rcases hmn : may n with _ | _
    · clear hm
      go_wp2_with fail
      go_ret2
      exact ⟨by rw [HQ.out, HQe.out]; rfl, hE0⟩
    · rcases hm hmn with s1 | s1
      · go_wp2_with fail
        go_ret2
        exact ⟨by rw [HQ.out, HQe.out]; rfl, hE0⟩
      · have s0 : ¬ size < 0 := by omega
        go_wp2_with fail
        go_ret2
        exact ⟨by rw [HQ.out, HQe.out]; rfl, hE0⟩
def ex24 : List UInt8 := [2, 101, 120, 0]
def qry24 (a b : UInt8) : List UInt8 := [0, 7, a, b, 0, 1, 0, 0, 0, 0, 0, 1, 2, 101, 120, 0, 0, 1, 0, 1, 0, 0, 41, 4, 208, 0, 0, 0, 0, 0, 0]
theorem query24 : queryOf ex24 1 1 7 1232 = qry24 1 0 ∧ queryErr ex24 1 1 7 1232 = 0 := ⟨by kernel_rfl, by kernel_rfl⟩
theorem vote24 : replyOf (qry24 129 0) ex24 1 1 = ⟨3, ⟨0, [], [], 0, 0⟩⟩ := by kernel_rfl
theorem pass24 : replyOf (qry24 131 0) ex24 1 1 = .pass := by kernel_rfl
theorem code24 : replyOf (qry24 129 2) ex24 1 1 = .pass := by kernel_rfl
theorem bad24 : replyOf (qry24 1 0) ex24 1 1 = .bad := by kernel_rfl
theorem fieldKind (k : Int) (x1 x2 x3 x4 : Value) (w : World) : (Instr.field 68 (.agg #[.int .u8 k, x1, x2, x3, x4]) 0).run Tryz.prog w = .ok (.int .u8 k) w := by kernel_rfl
theorem law24_ex (w : World) : Calls Tryz.prog 19 #[] w fun e w' => e = .returned (.agg #[S ex24, .int .u16 1, .int .u16 1]) ∧ Ext w w' := by
  obtain ⟨X0, hX0⟩ : ∃ X0, X0 = w.alloc (.cells #[S [], .int .u16 0, .int .u16 0] 25) := ⟨_, rfl⟩
  have r0 : X0.heap[w.heap.size]? = some (.cells #[S [], .int .u16 0, .int .u16 0] 25) := by rw [hX0]; exact heap_alloc_new _ _
  have hE0 : Ext w X0 := by rw [hX0]; exact (Ext.refl _).alloc _
  go_enter Tryz.func19, Tryz.ntmps19
  go_upto_region 1 with fail
  have hzz : w.alloc (.cells #[S [], .int .u16 0, .int .u16 0] 25) = X0 := hX0.symm
  try rw [hzz]
  clear hzz hX0
  have y0 := box_cell (j := 0) r0 rfl
  have y1 := box_cell (j := 1) r0 rfl
  have y2 := box_cell (j := 2) r0 rfl
  have f0 := box_free (j := 0) r0
  have f1 := box_free (j := 1) r0
  have f2 := box_free (j := 2) r0
  go_wp2_with fail
  obtain ⟨U, hU⟩ : ∃ U, U = (((X0.setCell ⟨w.heap.size, 0, none⟩ (S ex24)).setCell ⟨w.heap.size, 1, none⟩ (.int .u16 1)).setCell ⟨w.heap.size, 2, none⟩ (.int .u16 1)) := ⟨_, rfl⟩
  have hUU : (((X0.setCell ⟨w.heap.size, 0, none⟩ (S [2, 101, 120, 0])).setCell ⟨w.heap.size, 1, none⟩ (.int .u16 1)).setCell ⟨w.heap.size, 2, none⟩ (.int .u16 1)) = U := hU.symm
  try rw [hUU]
  have ru : U.heap[w.heap.size]? = some (.cells #[S ex24, .int .u16 1, .int .u16 1] 25) := by rw [hU]; exact row_set (row_set (row_set r0 0 _) 1 _) 2 _
  have hEU : Ext w U := by rw [hU]; exact (((hE0).setCell (Nat.le_refl _) _).setCell (Nat.le_refl _) _).setCell (Nat.le_refl _) _
  refine bodyPost_ret (results_rowL rfl _ _ w.heap.size _ _ _ _ rfl ru Tryz.underlying25 rfl (by kernel_rfl)) rfl ?_
  exact ⟨rfl, hEU⟩
set_option maxHeartbeats 1000000 in
theorem law24_flagged (s f : List UInt8) (w : World) (hs : 4 ≤ s.length) (hl : s.length ≤ 1048576) (hf : f.length ≤ 1048576) : Calls Tryz.prog 40 #[S s, S f] w fun e w' => e = .returned (S (s.take 2 ++ f ++ s.drop 4)) ∧ Ext w w' := by
  have h1 : ¬ ((s.length : Int) < 4) := by omega
  have h2 : ¬ ((s.length : Int) < 2) := by omega
  have h3 : (2 : Int) ≤ (s.length : Int) := by omega
  have h4 : (4 : Int) ≤ (s.length : Int) := by omega
  have c1 : ¬ 9223372036854775807 < min 2 s.length + f.length := by omega
  have c2 : ¬ 9223372036854775807 < min 2 s.length + f.length + (s.length - 4) := by omega
  go_enter Tryz.func40, Tryz.ntmps40
  go_upto_region 3 with fail
  go_region
  go_wp2_with fail
  go_ret
  refine ⟨?_, (Ext.refl w).drew⟩
  show Ending.returned (S (List.take 2 s ++ (f ++ List.take (s.length - 4) (List.drop 4 s)))) = _
  rw [List.take_of_length_le (show (List.drop 4 s).length ≤ s.length - 4 by rw [List.length_drop]; exact Nat.le_refl _)]
  try rw [List.append_assoc]
set_option maxHeartbeats 4000000 in
theorem law24_awake (a b : Addr) (w : World) (hg : Laid w) (hb : BitsAt w) (he : ErrsAt w a b) : Calls Tryz.prog 18 #[] w fun e w' => e = .returned (.bool true) ∧ Ext w w' := by
  have HX := Lib.hid (fun V => law24_ex V)
  have HQ := Lib.hid (fun V (hV : Ext w V) => heard_query ex24 1 1 7 1232 V (hg.ext hV) (hb.ext hV) (by decide) (by decide) (by decide) (by decide))
  unfold QueryPost at HQ
  rw [query24.1, query24.2] at HQ
  have HV := Lib.hid (fun V (hV : Ext w V) => heard_look (qry24 129 0) ex24 1 1 a b V (hg.ext hV) (hb.ext hV) (he.ext hV) (by decide) (by decide))
  have HP := Lib.hid (fun V (hV : Ext w V) => heard_look (qry24 131 0) ex24 1 1 a b V (hg.ext hV) (hb.ext hV) (he.ext hV) (by decide) (by decide))
  have HC := Lib.hid (fun V (hV : Ext w V) => heard_look (qry24 129 2) ex24 1 1 a b V (hg.ext hV) (hb.ext hV) (he.ext hV) (by decide) (by decide))
  have HB := Lib.hid (fun V (hV : Ext w V) => heard_look (qry24 1 0) ex24 1 1 a b V (hg.ext hV) (hb.ext hV) (he.ext hV) (by decide) (by decide))
  rw [vote24] at HV
  rw [pass24] at HP
  rw [code24] at HC
  rw [bad24] at HB
  unfold LookH at HV HP HC HB
  have F1 := Lib.hid (fun V => law24_flagged (qry24 1 0) [129, 0] V (by decide) (by decide) (by decide))
  have F2 := Lib.hid (fun V => law24_flagged (qry24 1 0) [131, 0] V (by decide) (by decide) (by decide))
  have F3 := Lib.hid (fun V => law24_flagged (qry24 1 0) [129, 2] V (by decide) (by decide) (by decide))
  have F4 := Lib.hid (fun V => law24_flagged (qry24 1 0) [1, 0] V (by decide) (by decide) (by decide))
  rw [show (qry24 1 0).take 2 ++ [129, 0] ++ (qry24 1 0).drop 4 = qry24 129 0 from rfl] at F1
  rw [show (qry24 1 0).take 2 ++ [131, 0] ++ (qry24 1 0).drop 4 = qry24 131 0 from rfl] at F2
  rw [show (qry24 1 0).take 2 ++ [129, 2] ++ (qry24 1 0).drop 4 = qry24 129 2 from rfl] at F3
  rw [show (qry24 1 0).take 2 ++ [1, 0] ++ (qry24 1 0).drop 4 = qry24 1 0 from rfl] at F4
  have hfk := fieldKind
  go_enter Tryz.func18, Tryz.ntmps18
  go_wp2_with fail
  refine (HX.out _).mono ?_
  rintro e w1 ⟨rfl, hq1⟩
  have hE1 : Ext w w1 := Ext.trans ((Ext.refl w)) hq1
  clear hq1
  go_wp2_with fail
  refine (HQ.out _ (hE1)).mono ?_
  rintro e w2 ⟨rfl, hq2⟩
  have hE2 : Ext w w2 := Ext.trans (hE1) hq2
  clear hq2
  go_wp2_with fail
  refine (HX.out _).mono ?_
  rintro e w3 ⟨rfl, hq3⟩
  have hE3 : Ext w w3 := Ext.trans (hE2) hq3
  clear hq3
  go_wp2_with fail
  refine (F1.out _).mono ?_
  rintro e w4 ⟨rfl, hq4⟩
  have hE4 : Ext w w4 := Ext.trans (hE3) hq4
  clear hq4
  go_wp2_with fail
  refine (HV.out _ (hE4)).mono ?_
  rintro e w5 ⟨vs5, vo5, rfl, hs5, ho5, _, hq5⟩
  have hE5 : Ext w w5 := Ext.trans (hE4) hq5
  obtain ⟨ps5, pA5, pc5, hp5, rfl, _, _⟩ := hs5
  obtain ⟨po5, tA5, tc5, _, rfl, _, _⟩ := ho5
  have hn5 : ps5 = [] := List.map_eq_nil_iff.1 hp5
  subst hn5
  clear hq5 hp5
  dsimp only [ReplyD.pass, ReplyD.bad, VerR.bad]
  try simp only [List.length_nil]
  go_wp2_with fail
  refine (HX.out _).mono ?_
  rintro e w6 ⟨rfl, hq6⟩
  have hE6 : Ext w w6 := Ext.trans ((hE5.alloc _)) hq6
  clear hq6
  go_wp2_with fail
  refine (F2.out _).mono ?_
  rintro e w7 ⟨rfl, hq7⟩
  have hE7 : Ext w w7 := Ext.trans (hE6) hq7
  clear hq7
  go_wp2_with fail
  refine (HP.out _ (hE7)).mono ?_
  rintro e w8 ⟨vs8, vo8, rfl, hs8, ho8, _, hq8⟩
  have hE8 : Ext w w8 := Ext.trans (hE7) hq8
  obtain ⟨ps8, pA8, pc8, hp8, rfl, _, _⟩ := hs8
  obtain ⟨po8, tA8, tc8, _, rfl, _, _⟩ := ho8
  have hn8 : ps8 = [] := List.map_eq_nil_iff.1 hp8
  subst hn8
  clear hq8 hp8
  dsimp only [ReplyD.pass, ReplyD.bad, VerR.bad]
  try simp only [List.length_nil]
  go_wp2_with fail
  refine (HX.out _).mono ?_
  rintro e w9 ⟨rfl, hq9⟩
  have hE9 : Ext w w9 := Ext.trans (hE8) hq9
  clear hq9
  go_wp2_with fail
  refine (F3.out _).mono ?_
  rintro e w10 ⟨rfl, hq10⟩
  have hE10 : Ext w w10 := Ext.trans (hE9) hq10
  clear hq10
  go_wp2_with fail
  refine (HC.out _ (hE10)).mono ?_
  rintro e w11 ⟨vs11, vo11, rfl, hs11, ho11, _, hq11⟩
  have hE11 : Ext w w11 := Ext.trans (hE10) hq11
  obtain ⟨ps11, pA11, pc11, hp11, rfl, _, _⟩ := hs11
  obtain ⟨po11, tA11, tc11, _, rfl, _, _⟩ := ho11
  have hn11 : ps11 = [] := List.map_eq_nil_iff.1 hp11
  subst hn11
  clear hq11 hp11
  dsimp only [ReplyD.pass, ReplyD.bad, VerR.bad]
  try simp only [List.length_nil]
  go_wp2_with fail
  refine (HX.out _).mono ?_
  rintro e w12 ⟨rfl, hq12⟩
  have hE12 : Ext w w12 := Ext.trans (hE11) hq12
  clear hq12
  go_wp2_with fail
  refine (F4.out _).mono ?_
  rintro e w13 ⟨rfl, hq13⟩
  have hE13 : Ext w w13 := Ext.trans (hE12) hq13
  clear hq13
  go_wp2_with fail
  refine (HB.out _ (hE13)).mono ?_
  rintro e w14 ⟨vs14, vo14, rfl, hs14, ho14, _, hq14⟩
  have hE14 : Ext w w14 := Ext.trans (hE13) hq14
  obtain ⟨ps14, pA14, pc14, hp14, rfl, _, _⟩ := hs14
  obtain ⟨po14, tA14, tc14, _, rfl, _, _⟩ := ho14
  have hn14 : ps14 = [] := List.map_eq_nil_iff.1 hp14
  subst hn14
  clear hq14 hp14
  dsimp only [ReplyD.pass, ReplyD.bad, VerR.bad]
  try simp only [List.length_nil]
  go_wp2_with fail
  go_ret
  exact ⟨rfl, hE14⟩
end Go.Proofs.YtcpikbanghoflaaGreatDoor
