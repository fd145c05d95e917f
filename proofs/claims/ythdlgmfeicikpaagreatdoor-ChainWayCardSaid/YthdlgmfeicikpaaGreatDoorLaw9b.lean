/- The walk of hustingslaw09.told. -/
import Derived.Test.YthdlgmfeicikpaaGreatDoorLaw9a
import Derived.Test.YthdlgmfeicikpaaGreatDoorPlGrp
import Derived.Deep.RegionHeld3
import Derived.Deep.DeepMust
namespace Go.Proofs.YthdlgmfeicikpaaGreatDoor
set_option linter.unusedSimpArgs false
set_option linter.unusedVariables false
open Go.RowKit
set_option maxRecDepth 100000

def ToldPost (R : FolR) (w : World) (e : Ending) (w' : World) : Prop := e = .returned (.tuple #[.int .i64 R.path.length, S R.here, .int .i64 R.fin.length, .int .i64 R.err]) ∧ Ext w w'
theorem OSets.shape {w : World} {lo : Nat} {v : Value} {l : List SetD} (h : OSets w lo v l) : ∃ A c, v = .slice A l.length c ∧ l.length ≤ c ∧ c ≤ maxLen := by
  obtain ⟨ps, A, c, h1, h2, h3, _⟩ := h
  have hl : ps.length = l.length := by rw [← h1]; simp
  exact ⟨A, c, by rw [h2, hl], by rw [← hl]; exact h3.cap.1, h3.cap.2⟩

set_option maxHeartbeats 2000000 in
theorem law_told (lo : Nat) (n : List UInt8) (ty cls : Int) (v : Value) (l : List RecD) (w : World) (hg : Laid w) (h : Recs w lo v l) (hbd : RecsBd l) (hn : n.length ≤ 1048576) :
    Calls Tryz.prog 59 #[.agg #[S n, .int .u16 ty, .int .u16 cls], v] w (ToldPost (followOf n ty cls (groupR l)) w) := by
  have HG := Lib.hid (fun W (hW : Ext w W) => ref_group lo v l W (h.ext hW) hbd)
  have HF := Lib.hid (fun W (hW : Ext w W) x g (hS : Sets W x g (groupR l)) => chain_follow x n ty cls g (groupR l) W (hg.ext hW) hS (groupR_bd hbd) hn)
  obtain ⟨A, c, rfl, h1, h2, h3⟩ := h
  clear h3 hg
  generalize groupR l = sets at *
  generalize followOf n ty cls sets = R at *
  go_enter Tryz.func59, Tryz.ntmps59
  go_wp2_with fail
  go_region_held3 (fun V => V.cell? ⟨w.heap.size, 0, none⟩ = some (S n) ∧ V.cell? ⟨w.heap.size, 1, none⟩ = some (.int .u16 ty) ∧ V.cell? ⟨w.heap.size, 2, none⟩ = some (.int .u16 cls))
    (first | go_keep | exact ⟨(ext_new (Ext.of_drewN 1 hE1)).1 0, (ext_new (Ext.of_drewN 1 hE1)).1 1, (ext_new (Ext.of_drewN 1 hE1)).1 2⟩ | exact ⟨(ext_new ((Ext.of_drewN 1 hE1).trans hE2)).1 0, (ext_new ((Ext.of_drewN 1 hE1).trans hE2)).1 1, (ext_new ((Ext.of_drewN 1 hE1).trans hE2)).1 2⟩)
    (first
      | (go_at_call 31; refine (HG.out _ (by (repeat (first | with_reducible exact Ext.refl _ | with_reducible assumption | with_reducible refine Ext.alloc ?_ _ | with_reducible refine Ext.drewN ?_ _ | with_reducible refine Ext.drew ?_ | (with_reducible refine Ext.setCell ?_ ?hp _; case hp => (simp <;> omega)))))).mono ?_; rintro e w1 ⟨g, rfl, hos, hE1⟩; obtain ⟨gA, gc, rfl, hg1, hg2⟩ := hos.shape)
      | (go_at_call 38; refine (HF.out _ ?hx _ _ hos.sets).mono ?_; (case hx => exact Ext.trans (by (repeat (first | with_reducible exact Ext.refl _ | with_reducible assumption | with_reducible refine Ext.alloc ?_ _ | with_reducible refine Ext.drewN ?_ _ | with_reducible refine Ext.drew ?_ | (with_reducible refine Ext.setCell ?_ ?hp _; case hp => (simp <;> omega))))) hE1); rintro e w2 ⟨v2, u2, wm, rfl, ho2, hEm, ho3, hEn⟩; have hE2 := hEm.trans hEn))
  obtain ⟨vA, vc, rfl, hv1, hv2⟩ := ho2.shape
  obtain ⟨uA, uc, rfl, hu1, hu2⟩ := ho3.shape
  go_wp2_with fail
  refine bodyPost_ret (results4 rfl _ _ _) rfl ?_
  exact ⟨rfl, (Ext.trans (by (repeat (first | with_reducible exact Ext.refl _ | with_reducible assumption | with_reducible refine Ext.alloc ?_ _ | with_reducible refine Ext.drewN ?_ _ | with_reducible refine Ext.drew ?_ | (with_reducible refine Ext.setCell ?_ ?hp _; case hp => (simp <;> omega))))) hE1).trans hE2⟩
end Go.Proofs.YthdlgmfeicikpaaGreatDoor
