/- Contracts of functions and plain lemmas that the proofs of this seat share (joined texts). No condition. -/
import Derived.Test.YtbdjoihckienbaaGreatDoorBw
namespace Go.Proofs.YtbdjoihckienbaaGreatDoor
set_option linter.unusedSimpArgs false
set_option linter.unusedVariables false
open Go.RowKit
set_option maxRecDepth 100000

abbrev wwwN : List UInt8 := [3, 119, 119, 119, 2, 101, 120, 0]
abbrev aexN : List UInt8 := [1, 97, 2, 101, 120, 0]
def recA : RecD := ⟨[1, 97, 2, 101, 120, 0], 1, 1, 5, [10, 0, 0, 1]⟩
def recC : RecD := ⟨[3, 119, 119, 119, 2, 101, 120, 0], 5, 1, 9, [1, 97, 2, 101, 120, 0]⟩
def recZ : RecD := ⟨[2, 101, 120, 0], 6, 1, 9, zoneD 3⟩
def recO : RecD := ⟨[3, 119, 119, 119, 2, 101, 120, 0], 1, 1, 5, [10, 0, 0, 1]⟩
def R1 : VerR := ⟨0, [⟨[3, 119, 119, 119, 2, 101, 120, 0], 5, 1, 0, [[1, 97, 2, 101, 120, 0]]⟩, ⟨[1, 97, 2, 101, 120, 0], 1, 1, 0, [[10, 0, 0, 1]]⟩], [], 5, 0⟩
def R2 : VerR := ⟨3, [], [⟨[2, 101, 120, 0], 6, 1, 0, [zoneD 3]⟩], 3, 0⟩
def R3 : VerR := ⟨3, [], [], 0, 0⟩
abbrev x0 : MsgX := ⟨0, false, 0, false, false, false, false, false, false, false, none, 0, 0, none, 0, 0, false, 0, 0, 0, 0, none, 0, 0⟩
def VP (code : Int) (n m : Nat) (time : Int) (err : Nat) (w : World) (e : Ending) (w' : World) : Prop :=
  ∃ (A : Option Addr) (c : Nat) (B : Option Addr) (d : Nat), e = .returned (.tuple #[.agg #[.int .u8 code, .slice A n c, .slice B m d], .int .u32 time, .int .i64 err]) ∧ c ≤ maxLen ∧ d ≤ maxLen ∧ Ext w w'
theorem vp_of {R : VerR} {w w' : World} {e : Ending} (h : VerPost R w e w') : VP R.code R.sets.length R.soa.length R.time R.err w e w' := by
  obtain ⟨vs, vo, rfl, h1, h2, _, h4⟩ := h
  obtain ⟨A, c, rfl, _, hc⟩ := h1.shape
  obtain ⟨B, d, rfl, _, hd⟩ := h2.shape
  exact ⟨A, c, B, d, rfl, hc, hd, h4⟩
theorem recs_lit (w : World) (g lo : Nat) (hg : g = w.heap.size) (hlo : lo ≤ 0) (l : List RecD) (hl : l.length ≤ 4096) : Recs (w.alloc (.cells (l.flatMap recCells).toArray 48)) lo (.slice (some ⟨g, 0, none⟩) l.length l.length) l := by
  have h0 : lo = 0 := Nat.le_zero.1 hlo
  subst h0
  exact ⟨_, _, rfl, Nat.le_refl _, by unfold maxLen; omega, rd_new w g hg 48 (l.flatMap recCells) l.length 5 (flatR_len l)⟩
theorem sets_nil (w : World) (A : Option Addr) (c : Nat) (h : c ≤ maxLen) : Sets w 0 (.slice A 0 c) [] := ⟨[], A, c, rfl, rfl, Nat.zero_le _, h, Rd.nil _ _ _ _, by simp⟩
theorem box3 {W : World} {g : Nat} {a0 a1 a2 : Value} (h : ∀ j, W.cell? ⟨g, j, none⟩ = #[a0, a1, a2][j]?) (u0 u1 u2 : Value) :
    ∀ j, (((W.setCell ⟨g, 0, none⟩ u0).setCell ⟨g, 1, none⟩ u1).setCell ⟨g, 2, none⟩ u2).cell? ⟨g, j, none⟩ = #[u0, u1, u2][j]? :=
  boxSet (boxSet (boxSet h 0 u0 (by simp)) 1 u1 (by simp)) 2 u2 (by simp)
theorem recs_nil (w : World) : Recs w 0 (.slice none 0 0) [] := ⟨none, 0, rfl, Nat.le_refl _, by unfold maxLen; decide, Rd.nil _ _ _ _⟩
theorem of1 (w : World) (hg : Laid w) (g : Nat) (h : Recs w 0 (.slice (some ⟨g, 0, none⟩) 2 2) [recA, recC]) : Calls Tryz.prog 13 #[.agg #[S wwwN, .int .u16 1, .int .u16 1], .agg #[.int .u16 0, .bool false, .int .u8 0, .bool false, .bool false, .bool false, .bool false, .bool false, .bool false, .bool false, .int .u8 0, .slice none 0 0, .slice (some ⟨g, 0, none⟩) 2 2, .slice none 0 0, .slice none 0 0, .bool false, .int .u16 0, .int .u8 0, .int .u8 0, .int .u16 0, .slice none 0 0]] w (VP 0 2 0 5 0 w) := by
  have h := ver_of x0 wwwN 1 1 0 0 (some ⟨g, 0, none⟩) 2 none 0 [recA, recC] ([] : List RecD) w hg h (recs_nil w) (by unfold RecsBd; decide) (by unfold RecsBd; decide) (by unfold RecsOk; decide) (by unfold RecsOk; decide) (by decide)
  rw [show verOf wwwN 1 1 0 [recA, recC] ([] : List RecD) = R1 by kernel_rfl] at h
  exact h.mono fun e w' hp => vp_of hp
theorem of2 (w : World) (hg : Laid w) (g : Nat) (h : Recs w 0 (.slice (some ⟨g, 0, none⟩) 1 1) [recZ]) : Calls Tryz.prog 13 #[.agg #[S wwwN, .int .u16 1, .int .u16 1], .agg #[.int .u16 0, .bool false, .int .u8 0, .bool false, .bool false, .bool false, .bool false, .bool false, .bool false, .bool false, .int .u8 3, .slice none 0 0, .slice none 0 0, .slice (some ⟨g, 0, none⟩) 1 1, .slice none 0 0, .bool false, .int .u16 0, .int .u8 0, .int .u8 0, .int .u16 0, .slice none 0 0]] w (VP 3 0 1 3 0 w) := by
  have h := ver_of x0 wwwN 1 1 3 0 none 0 (some ⟨g, 0, none⟩) 1 ([] : List RecD) [recZ] w hg (recs_nil w) h (by unfold RecsBd; decide) (by unfold RecsBd; decide) (by unfold RecsOk; decide) (by unfold RecsOk; decide) (by decide)
  rw [show verOf wwwN 1 1 3 ([] : List RecD) [recZ] = R2 by kernel_rfl] at h
  exact h.mono fun e w' hp => vp_of hp
theorem of3 (w : World) (hg : Laid w)  : Calls Tryz.prog 13 #[.agg #[S wwwN, .int .u16 1, .int .u16 1], .agg #[.int .u16 0, .bool false, .int .u8 0, .bool false, .bool false, .bool false, .bool false, .bool false, .bool false, .bool false, .int .u8 3, .slice none 0 0, .slice none 0 0, .slice none 0 0, .slice none 0 0, .bool false, .int .u16 0, .int .u8 0, .int .u8 0, .int .u16 0, .slice none 0 0]] w (VP 3 0 0 0 0 w) := by
  have h := ver_of x0 wwwN 1 1 3 0 none 0 none 0 ([] : List RecD) ([] : List RecD) w hg (recs_nil w) (recs_nil w) (by unfold RecsBd; decide) (by unfold RecsBd; decide) (by unfold RecsOk; decide) (by unfold RecsOk; decide) (by decide)
  rw [show verOf wwwN 1 1 3 ([] : List RecD) ([] : List RecD) = R3 by kernel_rfl] at h
  exact h.mono fun e w' hp => vp_of hp
theorem of4 (w : World) (hg : Laid w)  : Calls Tryz.prog 13 #[.agg #[S wwwN, .int .u16 1, .int .u16 1], .agg #[.int .u16 0, .bool false, .int .u8 0, .bool false, .bool false, .bool false, .bool false, .bool false, .bool false, .bool false, .int .u8 2, .slice none 0 0, .slice none 0 0, .slice none 0 0, .slice none 0 0, .bool false, .int .u16 0, .int .u8 0, .int .u8 0, .int .u16 0, .slice none 0 0]] w (VP 0 0 0 0 1 w) := by
  have h := ver_of x0 wwwN 1 1 2 0 none 0 none 0 ([] : List RecD) ([] : List RecD) w hg (recs_nil w) (recs_nil w) (by unfold RecsBd; decide) (by unfold RecsBd; decide) (by unfold RecsOk; decide) (by unfold RecsOk; decide) (by decide)
  rw [show verOf wwwN 1 1 2 ([] : List RecD) ([] : List RecD) = (VerR.bad 1) by kernel_rfl] at h
  exact h.mono fun e w' hp => vp_of hp
theorem of5 (w : World) (hg : Laid w) (g : Nat) (h : Recs w 0 (.slice (some ⟨g, 0, none⟩) 1 1) [recO]) : Calls Tryz.prog 13 #[.agg #[S wwwN, .int .u16 1, .int .u16 1], .agg #[.int .u16 0, .bool false, .int .u8 0, .bool false, .bool false, .bool false, .bool false, .bool false, .bool false, .bool false, .int .u8 3, .slice none 0 0, .slice (some ⟨g, 0, none⟩) 1 1, .slice none 0 0, .slice none 0 0, .bool false, .int .u16 0, .int .u8 0, .int .u8 0, .int .u16 0, .slice none 0 0]] w (VP 0 0 0 0 3 w) := by
  have h := ver_of x0 wwwN 1 1 3 0 (some ⟨g, 0, none⟩) 1 none 0 [recO] ([] : List RecD) w hg h (recs_nil w) (by unfold RecsBd; decide) (by unfold RecsBd; decide) (by unfold RecsOk; decide) (by unfold RecsOk; decide) (by decide)
  rw [show verOf wwwN 1 1 3 [recO] ([] : List RecD) = (VerR.bad 3) by kernel_rfl] at h
  exact h.mono fun e w' hp => vp_of hp

set_option maxHeartbeats 8000000 in
theorem law11_awake (w : World) (hg : Laid w) : Calls Tryz.prog 11 #[] w fun e w' => e = .returned (.bool true) ∧ Ext w w' := by
  go_enter Tryz.func11, Tryz.ntmps11
  go_wp2_with fail
  obtain ⟨X0, hX0⟩ : ∃ X, X = (w.alloc (.cells #[S [3, 119, 119, 119, 2, 101, 120, 0], .int .u16 1, .int .u16 1] 24)).alloc (.cells #[S [1, 97, 2, 101, 120, 0], .int .u16 1, .int .u16 1, .int .u32 5, S [10, 0, 0, 1], S [3, 119, 119, 119, 2, 101, 120, 0], .int .u16 5, .int .u16 1, .int .u32 9, S [1, 97, 2, 101, 120, 0]] 48) := ⟨_, rfl⟩
  rw [← hX0]
  have hwX0 : Ext w X0 := by rw [hX0]; exact ((Ext.refl _).alloc _).alloc _
  obtain ⟨kq, kqf, zq⟩ := ext_new_at w.heap.size rfl ((Ext.refl (w.alloc (.cells #[S [3, 119, 119, 119, 2, 101, 120, 0], .int .u16 1, .int .u16 1] 24))).alloc (.cells #[S [1, 97, 2, 101, 120, 0], .int .u16 1, .int .u16 1, .int .u32 5, S [10, 0, 0, 1], S [3, 119, 119, 119, 2, 101, 120, 0], .int .u16 5, .int .u16 1, .int .u32 9, S [1, 97, 2, 101, 120, 0]] 48))
  obtain ⟨kl, klf, zl⟩ := ext_new_at (w.heap.size + 1) (by simp) (Ext.refl ((w.alloc (.cells #[S [3, 119, 119, 119, 2, 101, 120, 0], .int .u16 1, .int .u16 1] 24)).alloc (.cells #[S [1, 97, 2, 101, 120, 0], .int .u16 1, .int .u16 1, .int .u32 5, S [10, 0, 0, 1], S [3, 119, 119, 119, 2, 101, 120, 0], .int .u16 5, .int .u16 1, .int .u32 9, S [1, 97, 2, 101, 120, 0]] 48)))
  have hrl : Recs X0 0 (.slice (some ⟨w.heap.size + 1, 0, none⟩) 2 2) [recA, recC] := by rw [hX0]; exact recs_lit (w.alloc (.cells #[S [3, 119, 119, 119, 2, 101, 120, 0], .int .u16 1, .int .u16 1] 24)) (w.heap.size + 1) 0 (by simp) (Nat.le_refl _) [recA, recC] (by decide)
  rw [← hX0] at kq kqf zq kl klf zl
  have HSq := Lib.hid (show ∀ V, Ext X0 V → V.cell? ⟨w.heap.size, 0, none⟩ = some (S [3, 119, 119, 119, 2, 101, 120, 0]) ∧ V.cell? ⟨w.heap.size, 1, none⟩ = some (.int .u16 1) ∧ V.cell? ⟨w.heap.size, 2, none⟩ = some (.int .u16 1) from fun V hV => ⟨(hV.cell (p := ⟨w.heap.size, 0, none⟩) zq).trans (kq 0), (hV.cell (p := ⟨w.heap.size, 1, none⟩) zq).trans (kq 1), (hV.cell (p := ⟨w.heap.size, 2, none⟩) zq).trans (kq 2)⟩)
  clear hX0
  refine (of1 X0 (hg.ext hwX0) (w.heap.size + 1) hrl).mono ?_; rintro e w1 ⟨A1, c1, B1, d1, rfl, hc1, hd1, hE1⟩
  go_wp2_with fail
  obtain ⟨X1, hX1⟩ : ∃ X, X = w1.alloc (.cells #[.int .u8 0, .slice A1 2 c1, .slice B1 0 d1] 38) := ⟨_, rfl⟩
  rw [← hX1]
  have hX01 : Ext X0 X1 := by rw [hX1]; exact hE1.alloc _
  obtain ⟨kv, kvf, zv⟩ := ext_new_at w1.heap.size rfl (Ext.refl (w1.alloc (.cells #[.int .u8 0, .slice A1 2 c1, .slice B1 0 d1] 38)))
  rw [← hX1] at kv kvf zv
  have hgX1 := hg.ext (hwX0.trans hX01)
  clear hX1
  go_upto_region 4 with fail
  go_cut [6, 7, 8] (fun s6 s7 s8 wx => ∃ (g : Nat) (A : Option Addr) (c : Nat) (B : Option Addr) (d : Nat), s6 = .pointer (some ⟨g, 0, none⟩) ∧ s7 = .int .u32 3 ∧ s8 = .int .i64 0 ∧ (∀ j, wx.cell? ⟨g, j, none⟩ = #[.int .u8 3, .slice A 0 c, .slice B 1 d][j]?) ∧ g < wx.heap.size ∧ Ext X1 wx)
  case first =>
    have hlz : (3 : Int) = (((3 : UInt8)).toNat : Int) := by decide
    have HZ := Lib.hid (fun W => law11_zone [2, 101, 120, 0] 9 3 3 hlz W)
    have HRa := Lib.hid (fun (W : World) (g : Nat) (h : g = W.heap.size) => show Recs (W.alloc (.cells #[S [2, 101, 120, 0], .int .u16 6, .int .u16 1, .int .u32 9, S (zoneD 3)] 48)) 0 (.slice (some ⟨g, 0, none⟩) 1 1) [recZ] from recs_lit W g 0 h (Nat.le_refl _) [recZ] (by decide))
    have HO2 := Lib.hid (fun (W : World) (g : Nat) (hW : Ext X1 W) (h : Recs W 0 (.slice (some ⟨g, 0, none⟩) 1 1) [recZ]) => of2 W (hgX1.ext hW) g h)
    clear hlz
    go_region_held3 (fun V => V.cell? ⟨w.heap.size, 0, none⟩ = some (S [3, 119, 119, 119, 2, 101, 120, 0]) ∧ V.cell? ⟨w.heap.size, 1, none⟩ = some (.int .u16 1) ∧ V.cell? ⟨w.heap.size, 2, none⟩ = some (.int .u16 1)) (exact HSq.out _ (hX01.trans (by (repeat (first | with_reducible exact Ext.refl _ | with_reducible assumption | with_reducible refine Ext.alloc ?_ _ | with_reducible refine Ext.drewN ?_ _ | with_reducible refine Ext.drew ?_ | (with_reducible refine Ext.setCell ?_ ?hp _; case hp => (simp <;> omega))))))) (first
      | (go_at_call 18; (with_reducible refine (HZ.out X1.drew).mono ?_); rintro e w5 ⟨rfl, hE5⟩; have h15 : Ext X1 w5 := Ext.trans (by (repeat (first | with_reducible exact Ext.refl _ | with_reducible assumption | with_reducible refine Ext.alloc ?_ _ | with_reducible refine Ext.drewN ?_ _ | with_reducible refine Ext.drew ?_ | (with_reducible refine Ext.setCell ?_ ?hp _; case hp => (simp <;> omega))))) hE5; have hz15 : X1.heap.size ≤ w5.heap.size := h15.size)
      | (go_at_call 18; (with_reducible refine (HZ.out _).mono ?_); rintro e w5 ⟨rfl, hE5⟩; have h15 : Ext X1 w5 := Ext.trans (by (repeat (first | with_reducible exact Ext.refl _ | with_reducible assumption | with_reducible refine Ext.alloc ?_ _ | with_reducible refine Ext.drewN ?_ _ | with_reducible refine Ext.drew ?_ | (with_reducible refine Ext.setCell ?_ ?hp _; case hp => (simp <;> omega))))) hE5; have hz15 : X1.heap.size ≤ w5.heap.size := h15.size; obtain ⟨bz, bf, bzz⟩ := ext_new (Ext.of_drewN 1 hE5))
      | (go_at_call 13; (with_reducible refine (HO2.out ((w5.alloc (.cells #[.int .u8 0, .slice none 0 0, .slice none 0 0] 38)).alloc (.cells #[S [2, 101, 120, 0], .int .u16 6, .int .u16 1, .int .u32 9, S (zoneD 3)] 48)) _ (by (repeat (first | with_reducible exact Ext.refl _ | with_reducible assumption | with_reducible refine Ext.alloc ?_ _ | with_reducible refine Ext.drewN ?_ _ | with_reducible refine Ext.drew ?_ | (with_reducible refine Ext.setCell ?_ ?hp _; case hp => (simp <;> omega))))) (HRa.out _ _ (by simp))).mono ?_); rintro e w6 ⟨A2, c2, B2, d2, rfl, hc2, hd2, hE6⟩; have h16 : Ext X1 w6 := Ext.trans (by (repeat (first | with_reducible exact Ext.refl _ | with_reducible assumption | with_reducible refine Ext.alloc ?_ _ | with_reducible refine Ext.drewN ?_ _ | with_reducible refine Ext.drew ?_ | (with_reducible refine Ext.setCell ?_ ?hp _; case hp => (simp <;> omega))))) hE6; obtain ⟨bz6, bf6, bzz6⟩ := ext_new_at w5.heap.size rfl (((Ext.refl (w5.alloc (.cells #[.int .u8 0, .slice none 0 0, .slice none 0 0] 38))).alloc (.cells #[S [2, 101, 120, 0], .int .u16 6, .int .u16 1, .int .u32 9, S (zoneD 3)] 48)).trans hE6))
      | (go_at_call 13; (with_reducible refine (HO2.out ((w5.alloc (.cells #[S [2, 101, 120, 0], .int .u16 6, .int .u16 1, .int .u32 9, S (zoneD 3)] 48)).alloc (.cells #[.int .u8 0, .slice none 0 0, .slice none 0 0] 38)) _ (by (repeat (first | with_reducible exact Ext.refl _ | with_reducible assumption | with_reducible refine Ext.alloc ?_ _ | with_reducible refine Ext.drewN ?_ _ | with_reducible refine Ext.drew ?_ | (with_reducible refine Ext.setCell ?_ ?hp _; case hp => (simp <;> omega))))) ((HRa.out _ _ rfl).ext ((Ext.refl _).alloc _))).mono ?_); rintro e w6 ⟨A2, c2, B2, d2, rfl, hc2, hd2, hE6⟩; have h16 : Ext X1 w6 := Ext.trans (by (repeat (first | with_reducible exact Ext.refl _ | with_reducible assumption | with_reducible refine Ext.alloc ?_ _ | with_reducible refine Ext.drewN ?_ _ | with_reducible refine Ext.drew ?_ | (with_reducible refine Ext.setCell ?_ ?hp _; case hp => (simp <;> omega))))) hE6; obtain ⟨bz6, bf6, bzz6⟩ := ext_new_at (w5.heap.size + 1) (by simp) hE6)
      | (go_at_call 13; (with_reducible refine (HO2.out (w5.alloc (.cells #[S [2, 101, 120, 0], .int .u16 6, .int .u16 1, .int .u32 9, S (zoneD 3)] 48)) _ (by (repeat (first | with_reducible exact Ext.refl _ | with_reducible assumption | with_reducible refine Ext.alloc ?_ _ | with_reducible refine Ext.drewN ?_ _ | with_reducible refine Ext.drew ?_ | (with_reducible refine Ext.setCell ?_ ?hp _; case hp => (simp <;> omega))))) (HRa.out _ _ rfl)).mono ?_); rintro e w6 ⟨A2, c2, B2, d2, rfl, hc2, hd2, hE6⟩; have h16 : Ext X1 w6 := Ext.trans (by (repeat (first | with_reducible exact Ext.refl _ | with_reducible assumption | with_reducible refine Ext.alloc ?_ _ | with_reducible refine Ext.drewN ?_ _ | with_reducible refine Ext.drew ?_ | (with_reducible refine Ext.setCell ?_ ?hp _; case hp => (simp <;> omega))))) hE6; (first | (revert bz; intro bz; have h56 : Ext w5 w6 := ((Ext.refl _).alloc _).trans hE6; have bz6 : ∀ j, w6.cell? ⟨X1.heap.size, j, none⟩ = _ := fun j => (h56.cell (p := ⟨X1.heap.size, j, none⟩) bzz).trans (bz j); have bf6 : ∀ j, w6.frozen? ⟨X1.heap.size, j, none⟩ = false := fun j => (h56.frozen (p := ⟨X1.heap.size, j, none⟩) bzz).trans (bf j); have bzz6 : X1.heap.size < w6.heap.size := Nat.lt_of_lt_of_le bzz h56.size) | skip)))
    all_goals
      go_wp2_with fail
      go_meet
    · exact ⟨w6.heap.size, A2, c2, B2, d2, rfl, rfl, rfl, (fun j => World.cell?_alloc_mark w6 _ _ _ j), by simp, h16.alloc _⟩
    · exact ⟨w5.heap.size + 1, A2, c2, B2, d2, rfl, rfl, rfl, box3 bz6 (.int .u8 3) (.slice A2 0 c2) (.slice B2 1 d2), by simp; omega, by (repeat (first | with_reducible exact Ext.refl _ | with_reducible assumption | with_reducible refine Ext.alloc ?_ _ | with_reducible refine Ext.drewN ?_ _ | with_reducible refine Ext.drew ?_ | (with_reducible refine Ext.setCell ?_ ?hp _; case hp => (simp <;> omega))))⟩
    · exact ⟨w5.heap.size, A2, c2, B2, d2, rfl, rfl, rfl, box3 bz6 (.int .u8 3) (.slice A2 0 c2) (.slice B2 1 d2), by simp; omega, by (repeat (first | with_reducible exact Ext.refl _ | with_reducible assumption | with_reducible refine Ext.alloc ?_ _ | with_reducible refine Ext.drewN ?_ _ | with_reducible refine Ext.drew ?_ | (with_reducible refine Ext.setCell ?_ ?hp _; case hp => (simp <;> omega))))⟩
    · exact ⟨X1.heap.size, A2, c2, B2, d2, rfl, rfl, rfl, box3 bz6 (.int .u8 3) (.slice A2 0 c2) (.slice B2 1 d2), by simp; omega, by (repeat (first | with_reducible exact Ext.refl _ | with_reducible assumption | with_reducible refine Ext.alloc ?_ _ | with_reducible refine Ext.drewN ?_ _ | with_reducible refine Ext.drew ?_ | (with_reducible refine Ext.setCell ?_ ?hp _; case hp => (simp <;> omega))))⟩
  case rest =>
    obtain ⟨g, A2, c2, B2, d2, rfl, rfl, rfl, hgc, hgz, hE2⟩ := hcut
    obtain ⟨Y, rfl⟩ : ∃ Y : World, Y = wc := ⟨_, rfl⟩
    have h0Y := hX01.trans hE2
    have hwY := hwX0.trans h0Y
    obtain ⟨q0, q1, q2⟩ := HSq.out Y h0Y
    go_wp2_with fail
    refine (of3 Y (hg.ext hwY)).mono ?_; rintro e w7 ⟨A3, c3, B3, d3, rfl, hc3, hd3, hE7⟩
    have hYX7 : Ext Y (w7.alloc (.cells #[.int .u8 3, .slice A3 0 c3, .slice B3 0 d3] 38)) := hE7.alloc _
    obtain ⟨q70, q71, q72⟩ := HSq.out w7 (h0Y.trans hE7)
    obtain ⟨q73, q74, q75⟩ := HSq.out _ (h0Y.trans hYX7)
    obtain ⟨km, kmf, zm⟩ := ext_new_at w7.heap.size rfl (Ext.refl (w7.alloc (.cells #[.int .u8 3, .slice A3 0 c3, .slice B3 0 d3] 38)))
    clear q0 q1 q2
    go_wp2_with fail
    refine (of4 _ (hg.ext (hwY.trans hYX7))).mono ?_; rintro e w8 ⟨A4, c4, B4, d4, rfl, hc4, hd4, hE8⟩
    have hY8 : Ext Y (w8.alloc (.cells #[.int .u8 0, .slice A4 0 c4, .slice B4 0 d4] 38)) := (hYX7.trans hE8).alloc _
    have h08 := h0Y.trans hY8
    have kl8 : ∀ j, (w8.alloc (.cells #[.int .u8 0, .slice A4 0 c4, .slice B4 0 d4] 38)).cell? ⟨w.heap.size + 1, j, none⟩ = _ := fun j => (h08.cell (p := ⟨w.heap.size + 1, j, none⟩) zl).trans (kl j)
    obtain ⟨q80, q81, q82⟩ := HSq.out _ h08
    clear q70 q71 q72 q73 q74 q75
    obtain ⟨X8, hX8⟩ : ∃ X, X = w8.alloc (.cells #[.int .u8 0, .slice A4 0 c4, .slice B4 0 d4] 38) := ⟨_, rfl⟩
    rw [← hX8] at hY8 h08 kl8 q80 q81 q82
    have kz8 : w.heap.size + 1 < X8.heap.size := Nat.lt_of_lt_of_le zl h08.size
    have hE78 : Ext (w7.alloc (.cells #[.int .u8 3, .slice A3 0 c3, .slice B3 0 d3] 38)) X8 := by rw [hX8]; exact hE8.alloc _
    go_upto_region 7 with fail
    rw [← hX8]
    clear hX8
    have hz78 : w7.heap.size < X8.heap.size := Nat.lt_of_lt_of_le zm hE78.size
    obtain ⟨q90, q91, q92⟩ := HSq.out (X8.alloc (.cells #[S [1, 97, 2, 101, 120, 0], .int .u16 1, .int .u16 1, .int .u32 5, S [10, 0, 0, 1]] 48)) (h08.alloc _)
    obtain ⟨q93, q94, q95⟩ := HSq.out (X8.alloc (.cells #[S [3, 119, 119, 119, 2, 101, 120, 0], .int .u16 1, .int .u16 1, .int .u32 5, S [10, 0, 0, 1]] 48)) (h08.alloc _)
    have hro : Recs ((X8.alloc (.cells #[S [3, 119, 119, 119, 2, 101, 120, 0], .int .u16 1, .int .u16 1, .int .u32 5, S [10, 0, 0, 1]] 48)).alloc (.cells #[S [3, 119, 119, 119, 2, 101, 120, 0], .int .u16 1, .int .u16 1, .int .u32 5, S [10, 0, 0, 1]] 48)) 0 (.slice (some ⟨X8.heap.size + 1, 0, none⟩) 1 1) [recO] := recs_lit (X8.alloc (.cells #[S [3, 119, 119, 119, 2, 101, 120, 0], .int .u16 1, .int .u16 1, .int .u32 5, S [10, 0, 0, 1]] 48)) (X8.heap.size + 1) 0 (by simp) (Nat.le_refl _) [recO] (by decide)
    go_wp2_with fail
    refine (of5 _ (hg.ext (hwX0.trans ((h08.alloc _).alloc _))) _ hro).mono ?_; rintro e w9 ⟨A5, c5, B5, d5, rfl, hc5, hd5, hE9⟩
    have hY9 : Ext X8 (w9.alloc (.cells #[.int .u8 0, .slice A5 0 c5, .slice B5 0 d5] 38)) := ((((Ext.refl X8).alloc _).alloc _).trans hE9).alloc _
    have hXv : Ext X1 (w9.alloc (.cells #[.int .u8 0, .slice A5 0 c5, .slice B5 0 d5] 38)) := (hE2.trans hY8).trans hY9
    have kv9 : ∀ j, (w9.alloc (.cells #[.int .u8 0, .slice A5 0 c5, .slice B5 0 d5] 38)).cell? ⟨w1.heap.size, j, none⟩ = _ := fun j => (hXv.cell (p := ⟨w1.heap.size, j, none⟩) zv).trans (kv j)
    have kg9 : ∀ j, (w9.alloc (.cells #[.int .u8 0, .slice A5 0 c5, .slice B5 0 d5] 38)).cell? ⟨g, j, none⟩ = _ := fun j => ((hY8.trans hY9).cell (p := ⟨g, j, none⟩) hgz).trans (hgc j)
    have km9 : ∀ j, (w9.alloc (.cells #[.int .u8 0, .slice A5 0 c5, .slice B5 0 d5] 38)).cell? ⟨w7.heap.size, j, none⟩ = _ := fun j => ((hE78.trans hY9).cell (p := ⟨w7.heap.size, j, none⟩) zm).trans (km j)
    have hK := Lib.hid (ver_key 0 3 (.slice A3 0 c3) (.slice B3 0 d3) [] [] (w9.alloc (.cells #[.int .u8 0, .slice A5 0 c5, .slice B5 0 d5] 38)) (sets_nil _ A3 c3 hc3) (sets_nil _ B3 d3 hd3) (by simp) (by simp) (by decide) (by decide))
    rw [show keyV3 3 [] [] = [3, 0, 0] from rfl] at hK
    go_wp2_with fail
    refine hK.out.mono ?_; rintro e wk ⟨rfl, hEk⟩
    go_wp2_with fail
    go_ret
    exact ⟨rfl, (hwX0.trans (h08.trans hY9)).trans hEk⟩
end Go.Proofs.YtbdjoihckienbaaGreatDoor
