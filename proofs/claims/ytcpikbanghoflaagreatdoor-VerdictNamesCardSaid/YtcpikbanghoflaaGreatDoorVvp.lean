/- Contracts of functions and plain lemmas that the proofs of this seat share (joined texts). No condition. -/
import Derived.Test.YtcpikbanghoflaaGreatDoorVg1
import Derived.Test.YtcpikbanghoflaaGreatDoorVu
import Derived.Test.YtcpikbanghoflaaGreatDoorVu0
import Derived.Test.YtcpikbanghoflaaGreatDoorVg
import Derived.BigQuiet
namespace Go.Proofs.YtcpikbanghoflaaGreatDoor
set_option linter.unusedSimpArgs false
set_option linter.unusedVariables false
open Go.RowKit
set_option maxRecDepth 100000
theorem endV_last {ty : Int} {ss : List SetD} {m : Nat} (h : ss.length = m + 1) (s : SetD) (hs : ss[m]? = some s) : endV ty ss = if s.typ = ty then some s else none := by
  unfold endV
  have e : ss.getLast? = some s := by rw [List.getLast?_eq_getElem?, h]; exact hs
  rw [e]
set_option maxHeartbeats 2000000 in
theorem ver_end (n : List UInt8) (ty cls code : Int) (lo : Nat) (vs : Value) (ss : List SetD) (uA : Option Addr) (un uc : Nat) (w : World) (hv : Sets w lo vs ss) (hbd : SetsBd ss) :
    Calls Tryz.prog 10 #[.agg #[S n, .int .u16 ty, .int .u16 cls], .agg #[.int .u8 code, vs, .slice uA un uc]] w (FindPost (endV ty ss) w) := by
  obtain ⟨ps, A, c, hl, rfl, h1, h2, hrd, hst⟩ := hv
  unfold maxLen at h2
  have hlen : ps.length = ss.length := by rw [← hl]; simp
  obtain ⟨R, hR⟩ : ∃ R, R = endV ty ss := ⟨_, rfl⟩
  rw [← hR]
  have HR := Lib.hid hR
  clear hR
  obtain ⟨N, hN⟩ : ∃ N, ps.length = N := ⟨_, rfl⟩
  rw [hN] at h1 hrd hlen ⊢
  obtain ⟨X, hX⟩ : ∃ X, X = ((w.alloc (.cells #[S n, .int .u16 ty, .int .u16 cls] 25)).alloc (.cells #[.int .u8 code, .slice A N c, .slice uA un uc] 44)).alloc (.cells #[S [], .int .u16 0, .int .u16 0, .int .u32 0, .slice none 0 0] 50) := ⟨_, rfl⟩
  obtain ⟨kq, _, zq⟩ := ext_new_at (w.heap.size) rfl (((Ext.refl (w.alloc (.cells #[S n, .int .u16 ty, .int .u16 cls] 25))).alloc (.cells #[.int .u8 code, .slice A N c, .slice uA un uc] 44)).alloc (.cells #[S [], .int .u16 0, .int .u16 0, .int .u32 0, .slice none 0 0] 50))
  obtain ⟨kv, _, zv⟩ := ext_new_at (w.heap.size + 1) (by simp) ((Ext.refl ((w.alloc (.cells #[S n, .int .u16 ty, .int .u16 cls] 25)).alloc (.cells #[.int .u8 code, .slice A N c, .slice uA un uc] 44))).alloc (.cells #[S [], .int .u16 0, .int .u16 0, .int .u32 0, .slice none 0 0] 50))
  obtain ⟨kr, kf, zr⟩ := ext_new_at (w.heap.size + 1 + 1) (by simp) (Ext.refl (((w.alloc (.cells #[S n, .int .u16 ty, .int .u16 cls] 25)).alloc (.cells #[.int .u8 code, .slice A N c, .slice uA un uc] 44)).alloc (.cells #[S [], .int .u16 0, .int .u16 0, .int .u32 0, .slice none 0 0] 50)))
  rw [← hX] at kq zq kv zv kr kf zr
  have hwX : Ext w X := by rw [hX]; exact (((Ext.refl _).alloc _).alloc _).alloc _
  rcases N with _ | m
  · have HF : Hid (R = none) := Lib.hid (by
      rw [HR.out]
      have : ss = [] := List.eq_nil_of_length_eq_zero (by omega)
      rw [this]; rfl)
    clear hlen hl hst hrd h1 kq zq zv hN
    go_enter Tryz.func10, Tryz.ntmps10
    go_upto_region 1 with fail
    rw [← hX]
    clear hX
    go_wp2_with fail
    obtain ⟨Y, hY⟩ : ∃ Y, Y = ((((X.setCell ⟨w.heap.size + 1 + 1, 0, none⟩ (S [])).setCell ⟨w.heap.size + 1 + 1, 1, none⟩ (.int .u16 0)).setCell ⟨w.heap.size + 1 + 1, 2, none⟩ (.int .u16 0)).setCell ⟨w.heap.size + 1 + 1, 3, none⟩ (.int .u32 0)).setCell ⟨w.heap.size + 1 + 1, 4, none⟩ (.slice none 0 0) := ⟨_, rfl⟩
    have hbY := box5 kr (S []) (.int .u16 0) (.int .u16 0) (.int .u32 0) (.slice none 0 0)
    rw [← hY] at hbY
    have hEY : Ext w Y := by rw [hY]; (repeat (first | with_reducible exact Ext.refl _ | with_reducible assumption | with_reducible refine Ext.alloc ?_ _ | with_reducible refine Ext.drewN ?_ _ | with_reducible refine Ext.drew ?_ | (with_reducible refine Ext.setCell ?_ ?hp _; case hp => (simp <;> omega))))
    have hzY : w.heap.size + 1 + 1 < Y.heap.size := by rw [hY]; simpa using zr
    rw [← hY]
    refine bodyPost_ret (v := .tuple #[setVal SetD.zero (.slice none 0 0), .bool false]) (by simp [results, Tryz.results10, go_sem, hbY, hzY, SetD.zero]) rfl ?_
    exact ⟨_, by rw [HF.out]; rfl, by rw [HF.out]; exact ⟨none, 0, rfl, Own.nil _ _ _ _⟩, hEY⟩
  · have hp : ps[m]? = some ps[m] := List.getElem?_eq_getElem (by omega)
    have hstr := hst ps[m] (List.getElem_mem (by omega))
    have hsm : ss[m]? = some ps[m].1 := by have h := congrArg (fun l => l[m]?) hl; simp only [List.getElem?_map, hp] at h; exact h.symm
    have hbs := hbd ps[m].1 (List.mem_of_getElem? hsm)
    have HE := Lib.hid (endV_last (ty := ty) (show ss.length = m + 1 by omega) _ hsm)
    generalize ps[m] = p at *
    obtain ⟨b, off, rfl, _, hbz, hc⟩ := hrd.2 (by omega)
    obtain ⟨c0, c1, c2, c3, c4⟩ := sets_cells hc m p hp
    rw [← hwX.cell (p := ⟨b, _, none⟩) hbz] at c0 c1 c2 c3 c4
    have hbX : b < X.heap.size := Nat.lt_of_lt_of_le hbz hwX.size
    clear hc hp hrd hst hsm hl hlen hN
    obtain ⟨⟨nm, ty1, cl, tt, da⟩, d⟩ := p
    dsimp only at *
    obtain ⟨dA, dc, rfl⟩ := hstr.shape
    have hq1 : ((m : Int) + 1 == 0) = false := by rw [beq_eq_false_iff_ne]; omega
    have hq2 : (m : Int) + 1 - 1 = m := by omega
    have hq3 : (m : Int) < (m : Int) + 1 := by omega
    by_cases hty : ty1 = ty
    · have HF := Lib.hid (HR.out.trans (HE.out.trans (if_pos hty)))
      subst hty
      go_enter Tryz.func10, Tryz.ntmps10
      go_upto_region 1 with fail
      rw [← hX]
      clear hX
      go_wp2_with fail
      refine (sl_clone lo _ da _ ((hstr.ext hwX).ext ((Ext.refl _).alloc _)) hbs.2.1).mono ?_; rintro e w2 ⟨v2, rfl, ⟨dA2, dc2, rfl, ho2⟩, hE2⟩
      obtain ⟨hq, hqf, hqz⟩ := ext_new hE2
      have hX2 : Ext X w2 := ((Ext.refl _).alloc _).trans hE2
      have kr2 : ∀ j, w2.cell? ⟨w.heap.size + 1 + 1, j, none⟩ = _ := fun j => (hX2.cell (p := ⟨_, j, none⟩) zr).trans (kr j)
      have kf2 : ∀ j, w2.frozen? ⟨w.heap.size + 1 + 1, j, none⟩ = false := fun j => (hX2.frozen (p := ⟨_, j, none⟩) zr).trans (kf j)
      have hw2 := hwX.trans hX2
      have zr2 : w.heap.size + 1 + 1 < w2.heap.size := Nat.lt_of_lt_of_le zr hX2.size
      have hz2 : X.heap.size < w2.heap.size := hqz
      have hwXz : w.heap.size < X.heap.size := by omega
      go_wp2_with fail
      refine bodyPost_ret (v := .tuple #[setVal ⟨nm, ty1, cl, tt, da⟩ (.slice dA2 da.length dc2), .bool true]) ?_ rfl ?_
      · simp [results, Tryz.results10, go_sem, kr2, kf2, zr2]
      · refine ⟨_, by rw [HF.out]; rfl, ?_, ?_⟩
        · rw [HF.out]
          refine ⟨dA2, dc2, rfl, Own.lower (lo := X.heap.size + 1) ?_ (by omega)⟩
          repeat (with_reducible refine Own.set_other ?_ ?hp _; case hp => (simp <;> omega))
          exact ho2.lower (by simp)
        · (repeat (first | with_reducible exact Ext.refl _ | with_reducible assumption | with_reducible refine Ext.alloc ?_ _ | with_reducible refine Ext.drewN ?_ _ | with_reducible refine Ext.drew ?_ | (with_reducible refine Ext.setCell ?_ ?hp _; case hp => (simp <;> omega))))
    · have HF := Lib.hid (HR.out.trans (HE.out.trans (if_neg hty)))
      have f1 : (ty1 == ty) = false := by rw [beq_eq_false_iff_ne]; exact hty
      clear hty
      go_enter Tryz.func10, Tryz.ntmps10
      go_upto_region 1 with fail
      rw [← hX]
      clear hX
      go_wp2_with fail
      refine bodyPost_ret (v := .tuple #[setVal SetD.zero (.slice none 0 0), .bool false]) ?_ rfl ?_
      · simp [results, Tryz.results10, go_sem, kr, kf, zr, SetD.zero]
      · refine ⟨_, by rw [HF.out]; rfl, by rw [HF.out]; exact ⟨none, 0, rfl, Own.nil _ _ _ _⟩, ?_⟩
        (repeat (first | with_reducible exact Ext.refl _ | with_reducible assumption | with_reducible refine Ext.alloc ?_ _ | with_reducible refine Ext.drewN ?_ _ | with_reducible refine Ext.drew ?_ | (with_reducible refine Ext.setCell ?_ ?hp _; case hp => (simp <;> omega))))
end Go.Proofs.YtcpikbanghoflaaGreatDoor
