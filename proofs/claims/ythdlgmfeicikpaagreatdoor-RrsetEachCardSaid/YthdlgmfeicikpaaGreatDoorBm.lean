/- Contracts of functions and plain lemmas that the proofs of this seat share (joined texts). No condition. -/
import Derived.Test.YthdlgmfeicikpaaGreatDoorBl
import Derived.Test.YthdlgmfeicikpaaGreatDoorBj
import Derived.Test.YthdlgmfeicikpaaGreatDoorBk
import Derived.Test.YthdlgmfeicikpaaGreatDoorBa
import Derived.Deep.RegionHeld3
namespace Go.Proofs.YthdlgmfeicikpaaGreatDoor
set_option linter.unusedSimpArgs false
set_option linter.unusedVariables false
open Go.RowKit
set_option maxRecDepth 100000

theorem sets_lit1 (w : World) (g : Nat) (hg : g = w.heap.size) (s : SetD) (dv : Value) (h : Strs w 0 dv s.data) : Sets (w.alloc (.cells (setCells (s, dv)).toArray 27)) 0 (.slice (some ⟨g, 0, none⟩) 1 1) [s] :=
  ⟨[(s, dv)], _, _, rfl, rfl, Nat.le_refl _, by unfold maxLen; omega, rd_new w g hg _ _ 1 5 rfl, fun p hp => by rw [List.mem_singleton] at hp; subst hp; exact h.ext ((Ext.refl _).alloc _)⟩
def ex8 : List UInt8 := [2, 101, 120, 0]
def Ex8 : List UInt8 := [2, 69, 88, 0]
def l8 : List RecD := [addr8 [2, 101, 120, 0] 2 5, addr8 [2, 69, 88, 0] 1 3, addr8 [2, 101, 120, 0] 2 9]
def want8 : SetD := ⟨[2, 101, 120, 0], 1, 1, 3, [[10, 0, 0, 1], [10, 0, 0, 2]]⟩
def late8 : SetD := ⟨[2, 101, 120, 0], 1, 1, 0, [[10, 0, 0, 1], [10, 0, 0, 2]]⟩
theorem g8a : groupR l8 = [want8] := by kernel_rfl
theorem g8b : groupR (l8 ++ [addr8 [2, 101, 120, 0] 1 2147483648]) = [late8] := by kernel_rfl
theorem g8c : groupR [⟨[0], 1, 1, 0, [97, 98, 99]⟩] = [] := by kernel_rfl
theorem l8_ok : RecsOk l8 := by unfold RecsOk; decide
theorem l8b_ok : RecsOk (l8 ++ [addr8 [2, 101, 120, 0] 1 2147483648]) := by unfold RecsOk; decide
theorem l8c_ok : RecsOk [⟨[0], 1, 1, 0, [97, 98, 99]⟩] := by unfold RecsOk; decide
theorem want8_bd : SetsBd [want8] := by unfold SetsBd; decide
theorem f8 : findS [want8] [2, 69, 120, 0] 1 1 = some want8 := by kernel_rfl

set_option maxHeartbeats 8000000 in
theorem law8_awake (w : World) (hg : Laid w) : Calls Tryz.prog 16 #[] w fun e w' => e = .returned (.bool true) ∧ Ext w w' := by
  have hE0 : Ext w w := Ext.refl w
  go_enter Tryz.func16, Tryz.ntmps16
  go_wp2_with fail
  refine (law8_a [2, 101, 120, 0] 2 2 5 _ rfl).mono ?_; rintro e w1 ⟨rfl, hx⟩
  have hE1 : Ext w w1 := Ext.trans hE0 hx
  clear hx
  go_wp2_with fail
  refine (law8_a [2, 69, 88, 0] 1 1 3 _ rfl).mono ?_; rintro e w2 ⟨rfl, hx⟩
  have hE2 : Ext w w2 := Ext.trans hE1 hx
  clear hx
  go_wp2_with fail
  refine (law8_a [2, 101, 120, 0] 2 2 9 _ rfl).mono ?_; rintro e w3 ⟨rfl, hx⟩
  have hE3 : Ext w w3 := Ext.trans hE2 hx
  clear hx
  go_wp2_with fail
  refine (rrset_groupR 0 _ l8 _ (hg.ext ((((hE3.alloc _).alloc _).alloc _).alloc _)) ((recs_lit w3 _ 0 rfl (Nat.zero_le _) l8 (by decide)).ext ((((Ext.refl _).alloc _).alloc _).alloc _)) (by as_aux_lemma => decide) l8_ok).mono ?_; rintro e wg ⟨g, rfl, ho, hEg⟩
  obtain ⟨c3, _, z3⟩ := ext_new_at (w3.heap.size + 1 + 1 + 1) (by simp) hEg
  obtain ⟨c2, _, z2⟩ := ext_new_at (w3.heap.size + 1 + 1) (by simp) (((Ext.refl _).alloc _).trans hEg)
  have hEb : Ext (w3.alloc (.cells (l8.flatMap recCells).toArray 38)) wg := ((((Ext.refl _).alloc _).alloc _).alloc _).trans hEg
  have hos : Strs wg 0 (.slice (some ⟨w3.heap.size + 1, 0, none⟩) 2 2) want8.data := ⟨_, _, rfl, by decide, by unfold maxLen; omega, (rd_new _ (w3.heap.size + 1) (by simp) 9 [S [10, 0, 0, 1], S [10, 0, 0, 2]] 2 1 rfl).ext ((((Ext.refl _).alloc _).alloc _).trans hEg)⟩
  have hEwg : Ext w wg := ((((hE3.alloc _).alloc _).alloc _).alloc _).trans hEg
  rw [g8a] at ho
  obtain ⟨gA, gc, rfl, k1, k2⟩ := ho.shape
  clear hEg
  go_wp2_with fail
  refine (rrset_find _ _ [want8] [2, 69, 120, 0] 1 1 _ ho.sets want8_bd (by decide)).mono ?_; rintro e wf ⟨d, rfl, hod, hEf⟩
  rw [f8] at hod ⊢
  dsimp only [Option.getD, Option.isSome] at hod ⊢
  obtain ⟨dA, dc, rfl⟩ := hod.strs.shape
  obtain ⟨X, hX⟩ : ∃ X, X = wf.alloc (.cells #[S want8.name, .int .u16 want8.typ, .int .u16 want8.cls, .int .u32 want8.ttl, .slice dA want8.data.length dc] 27) := ⟨_, rfl⟩
  have hEX : Ext wf X := by rw [hX]; exact (Ext.refl _).alloc _
  have hEgX := hEf.trans hEX
  obtain ⟨c4, _, z4⟩ := ext_new_at wf.heap.size rfl (show Ext (wf.alloc _) X by rw [hX]; exact Ext.refl _)
  have HS := Lib.hid (show ∀ V, Ext X V → V.cell? ⟨w3.heap.size + 1 + 1, 0, none⟩ = some (S [2, 101, 120, 0]) ∧ V.cell? ⟨w3.heap.size + 1 + 1, 1, none⟩ = some (.int .u16 1) ∧ V.cell? ⟨w3.heap.size + 1 + 1, 2, none⟩ = some (.int .u16 1) ∧ V.cell? ⟨w3.heap.size + 1 + 1, 3, none⟩ = some (.int .u32 3) ∧ V.cell? ⟨w3.heap.size + 1 + 1, 4, none⟩ = some (.slice (some ⟨w3.heap.size + 1, 0, none⟩) 2 2) ∧ V.cell? ⟨w3.heap.size + 1 + 1 + 1, 0, none⟩ = some (S [2, 101, 120, 0]) ∧ V.cell? ⟨w3.heap.size + 1 + 1 + 1, 1, none⟩ = some (.int .u16 1) ∧ V.cell? ⟨w3.heap.size + 1 + 1 + 1, 2, none⟩ = some (.int .u16 1) ∧ V.cell? ⟨w3.heap.size + 1 + 1 + 1, 3, none⟩ = some (.int .u32 0) ∧ V.cell? ⟨w3.heap.size + 1 + 1 + 1, 4, none⟩ = some (.slice (some ⟨w3.heap.size + 1, 0, none⟩) 2 2) ∧ V.cell? ⟨wf.heap.size, 0, none⟩ = some (S want8.name) ∧ V.cell? ⟨wf.heap.size, 1, none⟩ = some (.int .u16 want8.typ) ∧ V.cell? ⟨wf.heap.size, 2, none⟩ = some (.int .u16 want8.cls) ∧ V.cell? ⟨wf.heap.size, 3, none⟩ = some (.int .u32 want8.ttl) ∧ V.cell? ⟨wf.heap.size, 4, none⟩ = some (.slice dA want8.data.length dc) from fun V hV => by
    have hW := hEgX.trans hV
    exact ⟨(hW.cell (p := ⟨w3.heap.size + 1 + 1, 0, none⟩) z2).trans (c2 0), (hW.cell (p := ⟨w3.heap.size + 1 + 1, 1, none⟩) z2).trans (c2 1), (hW.cell (p := ⟨w3.heap.size + 1 + 1, 2, none⟩) z2).trans (c2 2), (hW.cell (p := ⟨w3.heap.size + 1 + 1, 3, none⟩) z2).trans (c2 3), (hW.cell (p := ⟨w3.heap.size + 1 + 1, 4, none⟩) z2).trans (c2 4), (hW.cell (p := ⟨w3.heap.size + 1 + 1 + 1, 0, none⟩) z3).trans (c3 0), (hW.cell (p := ⟨w3.heap.size + 1 + 1 + 1, 1, none⟩) z3).trans (c3 1), (hW.cell (p := ⟨w3.heap.size + 1 + 1 + 1, 2, none⟩) z3).trans (c3 2), (hW.cell (p := ⟨w3.heap.size + 1 + 1 + 1, 3, none⟩) z3).trans (c3 3), (hW.cell (p := ⟨w3.heap.size + 1 + 1 + 1, 4, none⟩) z3).trans (c3 4), (hV.cell (p := ⟨wf.heap.size, 0, none⟩) z4).trans (c4 0), (hV.cell (p := ⟨wf.heap.size, 1, none⟩) z4).trans (c4 1), (hV.cell (p := ⟨wf.heap.size, 2, none⟩) z4).trans (c4 2), (hV.cell (p := ⟨wf.heap.size, 3, none⟩) z4).trans (c4 3), (hV.cell (p := ⟨wf.heap.size, 4, none⟩) z4).trans (c4 4)⟩)
  have hown : Own X w3.heap.size 38 5 (some ⟨w3.heap.size, 0, none⟩) 3 3 (l8.flatMap recCells) := (own_lit w3 _ _ rfl (Nat.le_refl _) 38 (l8.flatMap recCells) 3 5 rfl (by unfold maxLen; omega)).ext (hEb.trans hEgX)
  have hEwX : Ext w X := hEwg.trans hEgX
  have hw3X : Ext w3 X := ((Ext.refl _).alloc _).trans (hEb.trans hEgX)
  have HosX := Lib.hid (hos.ext hEgX)
  have HodX := Lib.hid (hod.strs.ext hEX)
  have HG1 := Lib.hid (fun V (hV : Ext X V) => rrset_groupR 0 (.slice (some ⟨w3.heap.size, 0, none⟩) 3 3) l8 V (hg.ext (hEwX.trans hV)) (((recs_lit w3 _ 0 rfl (Nat.zero_le _) l8 (by decide)).ext (hEb.trans hEgX)).ext hV) (by as_aux_lemma => decide) l8_ok)
  rw [g8a] at HG1
  clear c2 c3 c4 hos hod ho k1 k2
  go_wp2_with fail
  rw [← hX]
  clear hX
  obtain ⟨i0, hi0, hz0, hz1, hz2⟩ := info_parts info_rec8
  have HSA := Lib.hid (fun (l1 l2 : List SetD) (h : l1 = l2) v1 v2 lo V (k1 : Sets V lo v1 l1) (k2 : Sets V 0 v2 l2) => ref_sameAll l1 l2 v1 v2 lo 0 V k1 k2)
  have HSm := Lib.hid (fun V (hV : Ext X V) => rrset_same want8 want8 _ _ _ _ V (HodX.out.ext hV) (HosX.out.ext hV))
  rw [decide_eq_true rfl] at HSm
  have HGc := Lib.hid (fun V (hV : Ext X V) v (hr : Recs V 0 v [⟨[0], 1, 1, 0, [97, 98, 99]⟩]) => rrset_groupR 0 v [⟨[0], 1, 1, 0, [97, 98, 99]⟩] V (hg.ext (hEwX.trans hV)) hr (by as_aux_lemma => decide) l8c_ok)
  rw [g8c] at HGc
  have HGb := Lib.hid (fun V (hV : Ext X V) v (hr : Recs V 0 v (l8 ++ [addr8 [2, 101, 120, 0] 1 2147483648])) => rrset_groupR 0 v _ V (hg.ext (hEwX.trans hV)) hr (by as_aux_lemma => decide) l8b_ok)
  rw [g8b] at HGb
  have HX := Lib.hid hown.rd
  go_region_held3 (fun V => V.cell? ⟨w3.heap.size + 1 + 1, 0, none⟩ = some (S [2, 101, 120, 0]) ∧ V.cell? ⟨w3.heap.size + 1 + 1, 1, none⟩ = some (.int .u16 1) ∧ V.cell? ⟨w3.heap.size + 1 + 1, 2, none⟩ = some (.int .u16 1) ∧ V.cell? ⟨w3.heap.size + 1 + 1, 3, none⟩ = some (.int .u32 3) ∧ V.cell? ⟨w3.heap.size + 1 + 1, 4, none⟩ = some (.slice (some ⟨w3.heap.size + 1, 0, none⟩) 2 2) ∧ V.cell? ⟨w3.heap.size + 1 + 1 + 1, 0, none⟩ = some (S [2, 101, 120, 0]) ∧ V.cell? ⟨w3.heap.size + 1 + 1 + 1, 1, none⟩ = some (.int .u16 1) ∧ V.cell? ⟨w3.heap.size + 1 + 1 + 1, 2, none⟩ = some (.int .u16 1) ∧ V.cell? ⟨w3.heap.size + 1 + 1 + 1, 3, none⟩ = some (.int .u32 0) ∧ V.cell? ⟨w3.heap.size + 1 + 1 + 1, 4, none⟩ = some (.slice (some ⟨w3.heap.size + 1, 0, none⟩) 2 2) ∧ V.cell? ⟨wf.heap.size, 0, none⟩ = some (S want8.name) ∧ V.cell? ⟨wf.heap.size, 1, none⟩ = some (.int .u16 want8.typ) ∧ V.cell? ⟨wf.heap.size, 2, none⟩ = some (.int .u16 want8.cls) ∧ V.cell? ⟨wf.heap.size, 3, none⟩ = some (.int .u32 want8.ttl) ∧ V.cell? ⟨wf.heap.size, 4, none⟩ = some (.slice dA want8.data.length dc)) (exact HS.out _ (by (repeat (first | with_reducible exact Ext.refl _ | with_reducible assumption | with_reducible refine Ext.alloc ?_ _ | with_reducible refine Ext.drewN ?_ _ | with_reducible refine Ext.drew ?_ | (with_reducible refine Ext.setCell ?_ ?hp _; case hp => (simp <;> omega))))))
    (first
      | (go_at_call 22; (with_reducible refine (HG1.out _ (by (repeat (first | with_reducible exact Ext.refl _ | with_reducible assumption | with_reducible refine Ext.alloc ?_ _ | with_reducible refine Ext.drewN ?_ _ | with_reducible refine Ext.drew ?_ | (with_reducible refine Ext.setCell ?_ ?hp _; case hp => (simp <;> omega)))))).mono ?_); rintro e wa ⟨ga, rfl, hoa, hEa⟩; obtain ⟨gaA, gac, rfl, _, _⟩ := hoa.shape; have hXa : Ext X wa := Ext.trans (by (repeat (first | with_reducible exact Ext.refl _ | with_reducible assumption | with_reducible refine Ext.alloc ?_ _ | with_reducible refine Ext.drewN ?_ _ | with_reducible refine Ext.drew ?_ | (with_reducible refine Ext.setCell ?_ ?hp _; case hp => (simp <;> omega))))) hEa)
      | (go_at_call 23; (refine (ref_sameAll [want8] [want8] _ _ _ 0 _ (hoa.sets.ext (by (repeat (first | with_reducible exact Ext.refl _ | with_reducible assumption | with_reducible refine Ext.alloc ?_ _ | with_reducible refine Ext.drewN ?_ _ | with_reducible refine Ext.drew ?_ | (with_reducible refine Ext.setCell ?_ ?hp _; case hp => (simp <;> omega)))))) ?_).mono ?_); (first | (focus ((refine (sets_lit1 X.drew _ rfl want8 _ (HosX.out.ext (by (repeat (first | with_reducible exact Ext.refl _ | with_reducible assumption | with_reducible refine Ext.alloc ?_ _ | with_reducible refine Ext.drewN ?_ _ | with_reducible refine Ext.drew ?_ | (with_reducible refine Ext.setCell ?_ ?hp _; case hp => (simp <;> omega))))))).ext ?_); (repeat (first | with_reducible exact Ext.refl _ | exact Ext.refl _ | with_reducible refine Ext.alloc ?_ _ | with_reducible refine Ext.drew ?_ | with_reducible refine Ext.trans ?_ hEa)); done)) | (focus ((refine (sets_lit1 wa _ rfl want8 _ (HosX.out.ext (by (repeat (first | with_reducible exact Ext.refl _ | with_reducible assumption | with_reducible refine Ext.alloc ?_ _ | with_reducible refine Ext.drewN ?_ _ | with_reducible refine Ext.drew ?_ | (with_reducible refine Ext.setCell ?_ ?hp _; case hp => (simp <;> omega))))))).ext ?_); (repeat (first | with_reducible exact Ext.refl _ | exact Ext.refl _ | with_reducible refine Ext.alloc ?_ _ | with_reducible refine Ext.drew ?_ | with_reducible refine Ext.trans ?_ hEa)); done))); rintro e wb ⟨rfl, hEb2⟩; rw [decide_eq_true rfl]; have hXb : Ext X wb := Ext.trans (by (repeat (first | with_reducible exact Ext.refl _ | with_reducible assumption | with_reducible refine Ext.alloc ?_ _ | with_reducible refine Ext.drewN ?_ _ | with_reducible refine Ext.drew ?_ | (with_reducible refine Ext.setCell ?_ ?hp _; case hp => (simp <;> omega))))) hEb2; clear hoa hEa)
      | (go_at_call 35; refine (law8_a [2, 101, 120, 0] 1 1 2147483648 _ rfl).mono ?_; rintro e wq ⟨rfl, hEq⟩; have hXq : Ext X wq := Ext.trans (by (repeat (first | with_reducible exact Ext.refl _ | with_reducible assumption | with_reducible refine Ext.alloc ?_ _ | with_reducible refine Ext.drewN ?_ _ | with_reducible refine Ext.drew ?_ | (with_reducible refine Ext.setCell ?_ ?hp _; case hp => (simp <;> omega))))) hEq)
      | (refine step_appN _ (by rfl) (.tmp 26) (.tmp 28) _ (by rfl) 38 i0 _ 5 40 Tryz.underlying34 hi0 hz0 hz1 hz2 rfl (by omega) w3.heap.size (some ⟨w3.heap.size, 0, none⟩) 3 3 (l8.flatMap recCells) (by rfl) (HX.out.ext (by (repeat (first | with_reducible exact Ext.refl _ | with_reducible assumption | with_reducible refine Ext.alloc ?_ _ | with_reducible refine Ext.drewN ?_ _ | with_reducible refine Ext.drew ?_ | (with_reducible refine Ext.setCell ?_ ?hp _; case hp => (simp <;> omega)))))) (by omega) 0 _ 1 1 (recCells (addr8 [2, 101, 120, 0] 1 2147483648)) (by rfl) (by first | exact rd_new _ _ (by simp) _ _ 1 5 rfl | exact (rd_new _ _ (by simp) _ _ 1 5 rfl).ext ((Ext.refl _).alloc _)) (by omega) (by omega) (by omega) (by omega) ?_; intro A5 c5 w5 hown5 hE5; have hX5 : Ext X w5 := Ext.trans (by (repeat (first | with_reducible exact Ext.refl _ | with_reducible assumption | with_reducible refine Ext.alloc ?_ _ | with_reducible refine Ext.drewN ?_ _ | with_reducible refine Ext.drew ?_ | (with_reducible refine Ext.setCell ?_ ?hp _; case hp => (simp <;> omega))))) hE5; have hr5 : Recs w5 0 (.slice A5 (3 + 1) c5) (l8 ++ [addr8 [2, 101, 120, 0] 1 2147483648]) := ⟨A5, c5, rfl, hown5.cap.1, hown5.cap.2, hown5.rd.lower (Nat.zero_le _)⟩; clear hown5)
      | (go_at_call 22; (refine (HGb.out _ (by (repeat (first | with_reducible exact Ext.refl _ | with_reducible assumption | with_reducible refine Ext.alloc ?_ _ | with_reducible refine Ext.drewN ?_ _ | with_reducible refine Ext.drew ?_ | (with_reducible refine Ext.setCell ?_ ?hp _; case hp => (simp <;> omega))))) _ (hr5.ext (by (repeat (first | with_reducible exact Ext.refl _ | with_reducible assumption | with_reducible refine Ext.alloc ?_ _ | with_reducible refine Ext.drewN ?_ _ | with_reducible refine Ext.drew ?_ | (with_reducible refine Ext.setCell ?_ ?hp _; case hp => (simp <;> omega))))))).mono ?_); rintro e wh ⟨gb, rfl, hob, hEh⟩; obtain ⟨gbA, gbc, rfl, _, _⟩ := hob.shape; have hXh : Ext X wh := Ext.trans (by (repeat (first | with_reducible exact Ext.refl _ | with_reducible assumption | with_reducible refine Ext.alloc ?_ _ | with_reducible refine Ext.drewN ?_ _ | with_reducible refine Ext.drew ?_ | (with_reducible refine Ext.setCell ?_ ?hp _; case hp => (simp <;> omega))))) hEh)
      | (go_at_call 23; (refine (ref_sameAll [late8] [late8] _ _ _ 0 _ (hob.sets.ext (by (repeat (first | with_reducible exact Ext.refl _ | with_reducible assumption | with_reducible refine Ext.alloc ?_ _ | with_reducible refine Ext.drewN ?_ _ | with_reducible refine Ext.drew ?_ | (with_reducible refine Ext.setCell ?_ ?hp _; case hp => (simp <;> omega)))))) ?_).mono ?_); (first | (focus ((refine (sets_lit1 wb _ rfl late8 _ (HosX.out.ext (by (repeat (first | with_reducible exact Ext.refl _ | with_reducible assumption | with_reducible refine Ext.alloc ?_ _ | with_reducible refine Ext.drewN ?_ _ | with_reducible refine Ext.drew ?_ | (with_reducible refine Ext.setCell ?_ ?hp _; case hp => (simp <;> omega))))))).ext ?_); (repeat (first | with_reducible exact Ext.refl _ | exact Ext.refl _ | with_reducible refine Ext.alloc ?_ _ | with_reducible refine Ext.drew ?_ | with_reducible refine Ext.trans ?_ hEh | with_reducible refine Ext.trans ?_ hE5 | with_reducible refine Ext.trans ?_ hEq)); done)) | (focus ((refine (sets_lit1 wq _ rfl late8 _ (HosX.out.ext (by (repeat (first | with_reducible exact Ext.refl _ | with_reducible assumption | with_reducible refine Ext.alloc ?_ _ | with_reducible refine Ext.drewN ?_ _ | with_reducible refine Ext.drew ?_ | (with_reducible refine Ext.setCell ?_ ?hp _; case hp => (simp <;> omega))))))).ext ?_); (repeat (first | with_reducible exact Ext.refl _ | exact Ext.refl _ | with_reducible refine Ext.alloc ?_ _ | with_reducible refine Ext.drew ?_ | with_reducible refine Ext.trans ?_ hEh | with_reducible refine Ext.trans ?_ hE5 | with_reducible refine Ext.trans ?_ hEq)); done)) | (focus ((refine (sets_lit1 (wq.alloc (.cells (recCells (addr8 [2, 101, 120, 0] 1 2147483648)).toArray 38)) _ (by simp) late8 _ (HosX.out.ext (by (repeat (first | with_reducible exact Ext.refl _ | with_reducible assumption | with_reducible refine Ext.alloc ?_ _ | with_reducible refine Ext.drewN ?_ _ | with_reducible refine Ext.drew ?_ | (with_reducible refine Ext.setCell ?_ ?hp _; case hp => (simp <;> omega))))))).ext ?_); (repeat (first | with_reducible exact Ext.refl _ | exact Ext.refl _ | with_reducible refine Ext.alloc ?_ _ | with_reducible refine Ext.drew ?_ | with_reducible refine Ext.trans ?_ hEh | with_reducible refine Ext.trans ?_ hE5 | with_reducible refine Ext.trans ?_ hEq)); done)) | (focus ((refine (sets_lit1 w5 _ rfl late8 _ (HosX.out.ext (by (repeat (first | with_reducible exact Ext.refl _ | with_reducible assumption | with_reducible refine Ext.alloc ?_ _ | with_reducible refine Ext.drewN ?_ _ | with_reducible refine Ext.drew ?_ | (with_reducible refine Ext.setCell ?_ ?hp _; case hp => (simp <;> omega))))))).ext ?_); (repeat (first | with_reducible exact Ext.refl _ | exact Ext.refl _ | with_reducible refine Ext.alloc ?_ _ | with_reducible refine Ext.drew ?_ | with_reducible refine Ext.trans ?_ hEh | with_reducible refine Ext.trans ?_ hE5 | with_reducible refine Ext.trans ?_ hEq)); done)) | (focus ((refine (sets_lit1 wh _ rfl late8 _ (HosX.out.ext (by (repeat (first | with_reducible exact Ext.refl _ | with_reducible assumption | with_reducible refine Ext.alloc ?_ _ | with_reducible refine Ext.drewN ?_ _ | with_reducible refine Ext.drew ?_ | (with_reducible refine Ext.setCell ?_ ?hp _; case hp => (simp <;> omega))))))).ext ?_); (repeat (first | with_reducible exact Ext.refl _ | exact Ext.refl _ | with_reducible refine Ext.alloc ?_ _ | with_reducible refine Ext.drew ?_ | with_reducible refine Ext.trans ?_ hEh | with_reducible refine Ext.trans ?_ hE5 | with_reducible refine Ext.trans ?_ hEq)); done))); rintro e wk ⟨rfl, hEk⟩; rw [decide_eq_true rfl]; have hXk : Ext X wk := Ext.trans (by (repeat (first | with_reducible exact Ext.refl _ | with_reducible assumption | with_reducible refine Ext.alloc ?_ _ | with_reducible refine Ext.drewN ?_ _ | with_reducible refine Ext.drew ?_ | (with_reducible refine Ext.setCell ?_ ?hp _; case hp => (simp <;> omega))))) hEk; clear hob hr5 hEh hE5 hEq)
      | (go_at_call 22; (refine (HGc.out _ (by (repeat (first | with_reducible exact Ext.refl _ | with_reducible assumption | with_reducible refine Ext.alloc ?_ _ | with_reducible refine Ext.drewN ?_ _ | with_reducible refine Ext.drew ?_ | (with_reducible refine Ext.setCell ?_ ?hp _; case hp => (simp <;> omega))))) _ (recs_lit _ _ 0 rfl (Nat.zero_le _) [⟨[0], 1, 1, 0, [97, 98, 99]⟩] (by decide))).mono ?_); rintro e wm ⟨gm, rfl, hom, hEm⟩; obtain ⟨gmA, gmc, rfl, _, _⟩ := hom.shape; have hXm : Ext X wm := Ext.trans (by (repeat (first | with_reducible exact Ext.refl _ | with_reducible assumption | with_reducible refine Ext.alloc ?_ _ | with_reducible refine Ext.drewN ?_ _ | with_reducible refine Ext.drew ?_ | (with_reducible refine Ext.setCell ?_ ?hp _; case hp => (simp <;> omega))))) hEm)
      | (go_at_call 20; refine (HSm.out _ (by (repeat (first | with_reducible exact Ext.refl _ | with_reducible assumption | with_reducible refine Ext.alloc ?_ _ | with_reducible refine Ext.drewN ?_ _ | with_reducible refine Ext.drew ?_ | (with_reducible refine Ext.setCell ?_ ?hp _; case hp => (simp <;> omega)))))).mono ?_; rintro e wz ⟨rfl, hEz⟩; have hXz : Ext X wz := Ext.trans (by (repeat (first | with_reducible exact Ext.refl _ | with_reducible assumption | with_reducible refine Ext.alloc ?_ _ | with_reducible refine Ext.drewN ?_ _ | with_reducible refine Ext.drew ?_ | (with_reducible refine Ext.setCell ?_ ?hp _; case hp => (simp <;> omega))))) hEz))
  all_goals
    go_wp2_with fail
    go_ret
    exact ⟨rfl, hEwX.trans hXz⟩
end Go.Proofs.YthdlgmfeicikpaaGreatDoor
