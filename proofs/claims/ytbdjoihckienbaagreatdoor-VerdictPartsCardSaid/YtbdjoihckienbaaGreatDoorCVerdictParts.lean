/- hustingslaw11.VerdictParts returns true for every input, and every argument reads behind the call as it read before; the listed variable (errors.errorType) is tied to the program's text. No condition of ours. -/
import Derived.Test.YtbdjoihckienbaaGreatDoorBrl
import Derived.Test.YtbdjoihckienbaaGreatDoorBg1
import Derived.Deep.RegionHeld3
import Derived.Test.YtbdjoihckienbaaGreatDoorBu
import Derived.Test.YtbdjoihckienbaaGreatDoorBu0
import Derived.Test.YtbdjoihckienbaaGreatDoorBg
import Derived.BigQuiet
import Derived.Test.YtbdjoihckienbaaGreatDoorBx
import Derived.Test.YtbdjoihckienbaaGreatDoorBz
import Derived.Test.YtbdjoihckienbaaGreatDoorBht
import Derived.Great.Walk
import Derived.Great.BuildSlice
import Derived.Test.YtbdjoihckienbaaGreatDoorBn
import Derived.Test.YtbdjoihckienbaaGreatDoorBy
namespace Go.Proofs.YtbdjoihckienbaaGreatDoor
set_option linter.unusedSimpArgs false
set_option linter.unusedVariables false
open Go.RowKit
set_option maxRecDepth 100000

def recsTo (s : SetD) (k : Nat) : List RecD := (s.data.take k).map fun d => ⟨s.name, s.typ, s.cls, s.ttl, d⟩
def ORPost (l : List RecD) (w : World) (e : Ending) (w' : World) : Prop := ∃ v, e = .returned v ∧ ORecs w' w.heap.size v l ∧ Ext w w'

set_option maxHeartbeats 2000000 in
theorem rrset_records (s : SetD) (dv : Value) (lo : Nat) (w : World) (hd : Strs w lo dv s.data) (hl : s.data.length ≤ 1048576) :
    Calls Tryz.prog 30 #[setVal s dv] w (ORPost (recsOf s) w) := by
  obtain ⟨nm, ty, cl, tt, da⟩ := s
  dsimp only at *
  obtain ⟨A, c, rfl, h1, h2, hrd⟩ := hd
  unfold maxLen at h2
  obtain ⟨i0, hi0, hz0, hz1, hz2⟩ := info_parts info_rec8
  go_enter Tryz.func30, Tryz.ntmps30
  go_wp2_with fail
  go_loopw [3, 4, 8] (fun v _ i wr => ∃ (k : Nat) (B : Option Addr) (d : Nat), k ≤ da.length ∧ i = .int .i64 k ∧ v = .slice B k d ∧ Own wr (w.heap.size + 1) 48 5 B k d ((recsTo ⟨nm, ty, cl, tt, da⟩ k).flatMap recCells) ∧ Ext (w.alloc (.cells #[S nm, .int .u16 ty, .int .u16 cl, .int .u32 tt, .slice A da.length c] 55)) wr) (fun _ _ i _ => da.length - (intOf i).toNat)
  case atStart => exact ⟨0, none, 0, by omega, rfl, rfl, Own.nil _ _ _ _, Ext.refl _⟩
  case round =>
    obtain ⟨k, B, d, hk, rfl, rfl, hown, hE⟩ := hrel
    obtain ⟨wo, rfl⟩ : ∃ wo : World, wo = wr := ⟨_, rfl⟩
    have hEw : Ext w wo := ((Ext.refl w).alloc _).trans hE
    by_cases hlt : k < da.length
    · obtain ⟨bq, _, bqz⟩ := ext_new hE
      have b0 : wo.cell? ⟨w.heap.size, 0, none⟩ = some (S nm) := bq 0
      have b1 : wo.cell? ⟨w.heap.size, 1, none⟩ = some (.int .u16 ty) := bq 1
      have b2 : wo.cell? ⟨w.heap.size, 2, none⟩ = some (.int .u16 cl) := bq 2
      have b3 : wo.cell? ⟨w.heap.size, 3, none⟩ = some (.int .u32 tt) := bq 3
      have b4 : wo.cell? ⟨w.heap.size, 4, none⟩ = some (.slice A da.length c) := bq 4
      obtain ⟨g, off, rfl, _, hgz, gc⟩ := hrd.2 (by omega)
      have hck := (hEw.cell (p := ⟨g, off + k, none⟩) hgz).trans (gc k (S da[k]) (by simp [List.getElem?_eq_getElem hlt]))
      have HT := Lib.hid (show recsTo ⟨nm, ty, cl, tt, da⟩ (k + 1) = recsTo ⟨nm, ty, cl, tt, da⟩ k ++ [⟨nm, ty, cl, tt, da[k]⟩] by unfold recsTo; rw [take_snoc da k hlt, List.map_append]; rfl)
      generalize da[k] = y at *
      have hki : (k : Int) < (da.length : Int) := by omega
      have hk0 : (0 : Int) ≤ (k : Int) := by omega
      have hwz : w.heap.size + 1 ≤ wo.heap.size := bqz
      clear bq gc
      go_wp2_with fail
      go_region_held3 (fun V => V.cell? ⟨w.heap.size, 0, none⟩ = some (S nm) ∧ V.cell? ⟨w.heap.size, 1, none⟩ = some (.int .u16 ty) ∧ V.cell? ⟨w.heap.size, 2, none⟩ = some (.int .u16 cl) ∧ V.cell? ⟨w.heap.size, 3, none⟩ = some (.int .u32 tt) ∧ V.cell? ⟨w.heap.size, 4, none⟩ = some (.slice (some ⟨g, off, none⟩) da.length c) ∧ V.cell? ⟨g, off + k, none⟩ = some (S y))
        (first | go_keep | (have hK : Below (w.heap.size + 1) wo w5 := Below.trans (Below.mono (show Ext wo _ by (repeat (first | with_reducible exact Ext.refl _ | with_reducible assumption | with_reducible refine Ext.alloc ?_ _ | with_reducible refine Ext.drewN ?_ _ | with_reducible refine Ext.drew ?_ | (with_reducible refine Ext.setCell ?_ ?hp _; case hp => (simp <;> omega))))) hwz) hb5; exact ⟨(hK.cell (p := ⟨w.heap.size, 0, none⟩) (Nat.lt_succ_self _)).trans b0, (hK.cell (p := ⟨w.heap.size, 1, none⟩) (Nat.lt_succ_self _)).trans b1, (hK.cell (p := ⟨w.heap.size, 2, none⟩) (Nat.lt_succ_self _)).trans b2, (hK.cell (p := ⟨w.heap.size, 3, none⟩) (Nat.lt_succ_self _)).trans b3, (hK.cell (p := ⟨w.heap.size, 4, none⟩) (Nat.lt_succ_self _)).trans b4, (hK.cell (p := ⟨g, off + k, none⟩) (Nat.lt_succ_of_lt hgz)).trans hck⟩))
        (first
          | (refine step_app _ (by rfl) (.tmp 11) (.tmp 26) _ (by rfl) (w.heap.size + 1) 48 i0 _ 5 40 Tryz.underlying28 hi0 hz0 hz1 hz2 rfl (by omega) B k d ((recsTo ⟨nm, ty, cl, tt, da⟩ k).flatMap recCells) (by rfl) (by exact hown.ext (by (repeat (first | with_reducible exact Ext.refl _ | with_reducible assumption | with_reducible refine Ext.alloc ?_ _ | with_reducible refine Ext.drewN ?_ _ | with_reducible refine Ext.drew ?_ | (with_reducible refine Ext.setCell ?_ ?hp _; case hp => (simp <;> omega)))))) 0 _ 1 1 (recCells ⟨nm, ty, cl, tt, y⟩) (by rfl) (by exact (rd_new _ _ (by simp) _ _ 1 5 rfl).drew) (rec_one8 _) (by omega) (by omega) (by simp; omega) ?_; intro A5 c5 w5 hown5 hg5 hb5 hat5))
      have hE5 : Ext (w.alloc (.cells #[S nm, .int .u16 ty, .int .u16 cl, .int .u32 tt, .slice (some ⟨g, off, none⟩) da.length c] 55)) w5 := Ext.then (lo := w.heap.size + 1) (hE.trans (by (repeat (first | with_reducible exact Ext.refl _ | with_reducible assumption | with_reducible refine Ext.alloc ?_ _ | with_reducible refine Ext.drewN ?_ _ | with_reducible refine Ext.drew ?_ | (with_reducible refine Ext.setCell ?_ ?hp _; case hp => (simp <;> omega)))))) hb5 (by simp)
      go_wp2_with fail
      go_roundw
      case rel =>
        refine ⟨k + 1, A5, c5, by omega, by go_num, rfl, ?_, hE5⟩
        rw [HT.out, List.flatMap_append]
        simpa using hown5
      case measure => simp [intOf]; omega
    · obtain rfl : k = da.length := by omega
      go_wp2_with fail
      go_ret
      refine ⟨_, rfl, ⟨B, d, ?_, ?_⟩, hEw⟩
      · simp [recsOf]
      · have e : recsTo ⟨nm, ty, cl, tt, da⟩ da.length = recsOf ⟨nm, ty, cl, tt, da⟩ := by unfold recsTo recsOf; rw [List.take_length]
        rw [e] at hown
        have := hown.lower (lo' := w.heap.size) (by omega)
        simpa [recsOf] using this
end Go.Proofs.YtbdjoihckienbaaGreatDoor
namespace Go.Proofs.YtbdjoihckienbaaGreatDoor
set_option linter.unusedSimpArgs false
set_option linter.unusedVariables false
open Go.RowKit
set_option maxRecDepth 100000

theorem endV_last {ty : Int} {ss : List SetD} {m : Nat} (h : ss.length = m + 1) (s : SetD) (hs : ss[m]? = some s) : endV ty ss = if s.typ = ty then some s else none := by
  unfold endV
  have e : ss.getLast? = some s := by rw [List.getLast?_eq_getElem?, h]; exact hs
  rw [e]
/-- What a caller sees of an end that is not copied. -/
def REndPost (lo : Nat) (r : Option SetD) (w : World) (e : Ending) (w' : World) : Prop :=
  ∃ d, e = .returned (.tuple #[setVal (r.getD SetD.zero) d, .bool r.isSome]) ∧ Strs w' lo d (r.getD SetD.zero).data ∧ Ext w w'

set_option maxHeartbeats 2000000 in
theorem ver_end (n : List UInt8) (ty cls code : Int) (lo : Nat) (vs : Value) (ss : List SetD) (uA : Option Addr) (un uc : Nat) (w : World) (hv : Sets w lo vs ss) (hbd : SetsBd ss) :
    Calls Tryz.prog 19 #[.agg #[S n, .int .u16 ty, .int .u16 cls], .agg #[.int .u8 code, vs, .slice uA un uc]] w (FindPost (endV ty ss) w) := by
  obtain ⟨ps, A, c, hl, rfl, h1, h2, hrd, hst⟩ := hv
  unfold maxLen at h2
  have hlen : ps.length = ss.length := by rw [← hl]; simp
  obtain ⟨R, hR⟩ : ∃ R, R = endV ty ss := ⟨_, rfl⟩
  rw [← hR]
  have HR := Lib.hid hR
  clear hR
  obtain ⟨N, hN⟩ : ∃ N, ps.length = N := ⟨_, rfl⟩
  rw [hN] at h1 hrd hlen ⊢
  obtain ⟨X, hX⟩ : ∃ X, X = ((w.alloc (.cells #[S n, .int .u16 ty, .int .u16 cls] 24)).alloc (.cells #[.int .u8 code, .slice A N c, .slice uA un uc] 38)).alloc (.cells #[S [], .int .u16 0, .int .u16 0, .int .u32 0, .slice none 0 0] 55) := ⟨_, rfl⟩
  obtain ⟨kq, _, zq⟩ := ext_new_at (w.heap.size) rfl (((Ext.refl (w.alloc (.cells #[S n, .int .u16 ty, .int .u16 cls] 24))).alloc (.cells #[.int .u8 code, .slice A N c, .slice uA un uc] 38)).alloc (.cells #[S [], .int .u16 0, .int .u16 0, .int .u32 0, .slice none 0 0] 55))
  obtain ⟨kv, _, zv⟩ := ext_new_at (w.heap.size + 1) (by simp) ((Ext.refl ((w.alloc (.cells #[S n, .int .u16 ty, .int .u16 cls] 24)).alloc (.cells #[.int .u8 code, .slice A N c, .slice uA un uc] 38))).alloc (.cells #[S [], .int .u16 0, .int .u16 0, .int .u32 0, .slice none 0 0] 55))
  obtain ⟨kr, kf, zr⟩ := ext_new_at (w.heap.size + 1 + 1) (by simp) (Ext.refl (((w.alloc (.cells #[S n, .int .u16 ty, .int .u16 cls] 24)).alloc (.cells #[.int .u8 code, .slice A N c, .slice uA un uc] 38)).alloc (.cells #[S [], .int .u16 0, .int .u16 0, .int .u32 0, .slice none 0 0] 55)))
  rw [← hX] at kq zq kv zv kr kf zr
  have hwX : Ext w X := by rw [hX]; exact (((Ext.refl _).alloc _).alloc _).alloc _
  rcases N with _ | m
  · have HF : Hid (R = none) := Lib.hid (by
      rw [HR.out]
      have : ss = [] := List.eq_nil_of_length_eq_zero (by omega)
      rw [this]; rfl)
    clear hlen hl hst hrd h1 kq zq zv hN
    go_enter Tryz.func19, Tryz.ntmps19
    go_upto_region 1 with fail
    rw [← hX]
    clear hX
    go_wp2_with fail
    obtain ⟨Y, hY⟩ : ∃ Y, Y = ((((X.setCell ⟨w.heap.size + 1 + 1, 0, none⟩ (S [])).setCell ⟨w.heap.size + 1 + 1, 1, none⟩ (.int .u16 0)).setCell ⟨w.heap.size + 1 + 1, 2, none⟩ (.int .u16 0)).setCell ⟨w.heap.size + 1 + 1, 3, none⟩ (.int .u32 0)).setCell ⟨w.heap.size + 1 + 1, 4, none⟩ (.slice none 0 0) := ⟨_, rfl⟩
    have hbY := box5 kr (S []) (.int .u16 0) (.int .u16 0) (.int .u32 0) (.slice none 0 0)
    rw [← hY] at hbY
    have hEY : Ext w Y := by rw [hY]; (repeat (first | with_reducible exact Ext.refl _ | with_reducible assumption | with_reducible refine Ext.alloc ?_ _ | with_reducible refine Ext.drewN ?_ _ | with_reducible refine Ext.drew ?_ | (with_reducible refine Ext.setCell ?_ ?hp _; case hp => (simp <;> omega))))
    have hzY : w.heap.size + 1 + 1 < Y.heap.size := by rw [hY]; simpa using zr
    rw [← hY]
    refine bodyPost_ret (v := .tuple #[setVal SetD.zero (.slice none 0 0), .bool false]) (by simp [results, Tryz.results19, go_sem, hbY, hzY, SetD.zero]) rfl ?_
    exact ⟨_, by rw [HF.out]; rfl, by rw [HF.out]; exact ⟨none, 0, rfl, Own.nil _ _ _ _⟩, hEY⟩
  · have hp : ps[m]? = some ps[m] := List.getElem?_eq_getElem (by omega)
    have hstr := hst ps[m] (List.getElem_mem (by omega))
    have hsm : ss[m]? = some ps[m].1 := by have h := congrArg (fun l => l[m]?) hl; simp only [List.getElem?_map, hp] at h; exact h.symm
    have hbs := hbd ps[m].1 (List.mem_of_getElem? hsm)
    have HE := Lib.hid (endV_last (ty := ty) (show ss.length = m + 1 by omega) _ hsm)
    generalize ps[m] = p at *
    obtain ⟨b, off, rfl, _, hbz, hc⟩ := hrd.2 (by omega)
    obtain ⟨c0, c1, c2, c3, c4⟩ := sets_cells hc m p hp
    rw [← hwX.cell (p := ⟨b, _, none⟩) hbz] at c0 c1 c2 c3 c4
    have hbX : b < X.heap.size := Nat.lt_of_lt_of_le hbz hwX.size
    clear hc hp hrd hst hsm hl hlen hN
    obtain ⟨⟨nm, ty1, cl, tt, da⟩, d⟩ := p
    dsimp only at *
    obtain ⟨dA, dc, rfl⟩ := hstr.shape
    have hq1 : ((m : Int) + 1 == 0) = false := by rw [beq_eq_false_iff_ne]; omega
    have hq2 : (m : Int) + 1 - 1 = m := by omega
    have hq3 : (m : Int) < (m : Int) + 1 := by omega
    by_cases hty : ty1 = ty
    · have HF := Lib.hid (HR.out.trans (HE.out.trans (if_pos hty)))
      subst hty
      go_enter Tryz.func19, Tryz.ntmps19
      go_upto_region 1 with fail
      rw [← hX]
      clear hX
      go_wp2_with fail
      refine (sl_clone lo _ da _ ((hstr.ext hwX).ext ((Ext.refl _).alloc _)) hbs.2.1).mono ?_; rintro e w2 ⟨v2, rfl, ⟨dA2, dc2, rfl, ho2⟩, hE2⟩
      obtain ⟨hq, hqf, hqz⟩ := ext_new hE2
      have hX2 : Ext X w2 := ((Ext.refl _).alloc _).trans hE2
      have kr2 : ∀ j, w2.cell? ⟨w.heap.size + 1 + 1, j, none⟩ = _ := fun j => (hX2.cell (p := ⟨_, j, none⟩) zr).trans (kr j)
      have kf2 : ∀ j, w2.frozen? ⟨w.heap.size + 1 + 1, j, none⟩ = false := fun j => (hX2.frozen (p := ⟨_, j, none⟩) zr).trans (kf j)
      have hw2 := hwX.trans hX2
      have zr2 : w.heap.size + 1 + 1 < w2.heap.size := Nat.lt_of_lt_of_le zr hX2.size
      have hz2 : X.heap.size < w2.heap.size := hqz
      have hwXz : w.heap.size < X.heap.size := by omega
      go_wp2_with fail
      refine bodyPost_ret (v := .tuple #[setVal ⟨nm, ty1, cl, tt, da⟩ (.slice dA2 da.length dc2), .bool true]) ?_ rfl ?_
      · simp [results, Tryz.results19, go_sem, kr2, kf2, zr2]
      · refine ⟨_, by rw [HF.out]; rfl, ?_, ?_⟩
        · rw [HF.out]
          refine ⟨dA2, dc2, rfl, Own.lower (lo := X.heap.size + 1) ?_ (by omega)⟩
          repeat (with_reducible refine Own.set_other ?_ ?hp _; case hp => (simp <;> omega))
          exact ho2.lower (by simp)
        · (repeat (first | with_reducible exact Ext.refl _ | with_reducible assumption | with_reducible refine Ext.alloc ?_ _ | with_reducible refine Ext.drewN ?_ _ | with_reducible refine Ext.drew ?_ | (with_reducible refine Ext.setCell ?_ ?hp _; case hp => (simp <;> omega))))
    · have HF := Lib.hid (HR.out.trans (HE.out.trans (if_neg hty)))
      have f1 : (ty1 == ty) = false := by rw [beq_eq_false_iff_ne]; exact hty
      clear hty
      go_enter Tryz.func19, Tryz.ntmps19
      go_upto_region 1 with fail
      rw [← hX]
      clear hX
      go_wp2_with fail
      refine bodyPost_ret (v := .tuple #[setVal SetD.zero (.slice none 0 0), .bool false]) ?_ rfl ?_
      · simp [results, Tryz.results19, go_sem, kr, kf, zr, SetD.zero]
      · refine ⟨_, by rw [HF.out]; rfl, by rw [HF.out]; exact ⟨none, 0, rfl, Own.nil _ _ _ _⟩, ?_⟩
        (repeat (first | with_reducible exact Ext.refl _ | with_reducible assumption | with_reducible refine Ext.alloc ?_ _ | with_reducible refine Ext.drewN ?_ _ | with_reducible refine Ext.drew ?_ | (with_reducible refine Ext.setCell ?_ ?hp _; case hp => (simp <;> omega))))
set_option maxHeartbeats 2000000 in
theorem ref11_end (n : List UInt8) (ty cls code : Int) (lo : Nat) (vs : Value) (ss : List SetD) (uA : Option Addr) (un uc : Nat) (w : World) (hv : Sets w lo vs ss) (hbd : SetsBd ss) :
    Calls Tryz.prog 25 #[.agg #[S n, .int .u16 ty, .int .u16 cls], .agg #[.int .u8 code, vs, .slice uA un uc]] w (REndPost lo (endV ty ss) w) := by
  obtain ⟨ps, A, c, hl, rfl, h1, h2, hrd, hst⟩ := hv
  unfold maxLen at h2
  have hlen : ps.length = ss.length := by rw [← hl]; simp
  obtain ⟨R, hR⟩ : ∃ R, R = endV ty ss := ⟨_, rfl⟩
  rw [← hR]
  have HR := Lib.hid hR
  clear hR
  obtain ⟨N, hN⟩ : ∃ N, ps.length = N := ⟨_, rfl⟩
  rw [hN] at h1 hrd hlen ⊢
  obtain ⟨X, hX⟩ : ∃ X, X = ((w.alloc (.cells #[S n, .int .u16 ty, .int .u16 cls] 24)).alloc (.cells #[.int .u8 code, .slice A N c, .slice uA un uc] 38)).alloc (.cells #[S [], .int .u16 0, .int .u16 0, .int .u32 0, .slice none 0 0] 55) := ⟨_, rfl⟩
  obtain ⟨kq, _, zq⟩ := ext_new_at (w.heap.size) rfl (((Ext.refl (w.alloc (.cells #[S n, .int .u16 ty, .int .u16 cls] 24))).alloc (.cells #[.int .u8 code, .slice A N c, .slice uA un uc] 38)).alloc (.cells #[S [], .int .u16 0, .int .u16 0, .int .u32 0, .slice none 0 0] 55))
  obtain ⟨kv, _, zv⟩ := ext_new_at (w.heap.size + 1) (by simp) ((Ext.refl ((w.alloc (.cells #[S n, .int .u16 ty, .int .u16 cls] 24)).alloc (.cells #[.int .u8 code, .slice A N c, .slice uA un uc] 38))).alloc (.cells #[S [], .int .u16 0, .int .u16 0, .int .u32 0, .slice none 0 0] 55))
  obtain ⟨kr, kf, zr⟩ := ext_new_at (w.heap.size + 1 + 1) (by simp) (Ext.refl (((w.alloc (.cells #[S n, .int .u16 ty, .int .u16 cls] 24)).alloc (.cells #[.int .u8 code, .slice A N c, .slice uA un uc] 38)).alloc (.cells #[S [], .int .u16 0, .int .u16 0, .int .u32 0, .slice none 0 0] 55)))
  rw [← hX] at kq zq kv zv kr kf zr
  have hwX : Ext w X := by rw [hX]; exact (((Ext.refl _).alloc _).alloc _).alloc _
  rcases N with _ | m
  · have HF : Hid (R = none) := Lib.hid (by
      rw [HR.out]
      have : ss = [] := List.eq_nil_of_length_eq_zero (by omega)
      rw [this]; rfl)
    clear hlen hl hst hrd h1 kq zq zv hN
    go_enter Tryz.func25, Tryz.ntmps25
    go_upto_region 1 with fail
    rw [← hX]
    clear hX
    go_wp2_with fail
    go_quiet (fail)
    go_wp2_with fail
    refine bodyPost_ret (v := .tuple #[setVal SetD.zero (.slice none 0 0), .bool false]) ?_ rfl ?_
    · simp [results, Tryz.results25, go_sem, kr, kf, zr, SetD.zero]
    · refine ⟨_, by rw [HF.out]; rfl, by rw [HF.out]; exact (OStrs.strs (v := .slice none 0 0) (l := []) (lo := lo) ⟨none, 0, rfl, Own.nil _ _ _ _⟩), ?_⟩
      (repeat (first | with_reducible exact Ext.refl _ | with_reducible assumption | with_reducible refine Ext.alloc ?_ _ | with_reducible refine Ext.drewN ?_ _ | with_reducible refine Ext.drew ?_ | (with_reducible refine Ext.setCell ?_ ?hp _; case hp => (simp <;> omega))))
  · have hp : ps[m]? = some ps[m] := List.getElem?_eq_getElem (by omega)
    have hstr := hst ps[m] (List.getElem_mem (by omega))
    have hsm : ss[m]? = some ps[m].1 := by have h := congrArg (fun l => l[m]?) hl; simp only [List.getElem?_map, hp] at h; exact h.symm
    have hbs := hbd ps[m].1 (List.mem_of_getElem? hsm)
    have HE := Lib.hid (endV_last (ty := ty) (show ss.length = m + 1 by omega) _ hsm)
    generalize ps[m] = p at *
    obtain ⟨b, off, rfl, _, hbz, hc⟩ := hrd.2 (by omega)
    obtain ⟨c0, c1, c2, c3, c4⟩ := sets_cells hc m p hp
    rw [← hwX.cell (p := ⟨b, _, none⟩) hbz] at c0 c1 c2 c3 c4
    have hbX : b < X.heap.size := Nat.lt_of_lt_of_le hbz hwX.size
    clear hc hp hrd hst hsm hl hlen hN
    obtain ⟨⟨nm, ty1, cl, tt, da⟩, d⟩ := p
    dsimp only at *
    obtain ⟨dA, dc, rfl⟩ := hstr.shape
    have hq1 : ((m : Int) + 1 == 0) = false := by rw [beq_eq_false_iff_ne]; omega
    have hq2 : (m : Int) + 1 - 1 = m := by omega
    have hq3 : (m : Int) < (m : Int) + 1 := by omega
    by_cases hty : ty1 = ty
    · have HF := Lib.hid (HR.out.trans (HE.out.trans (if_pos hty)))
      subst hty
      go_enter Tryz.func25, Tryz.ntmps25
      go_upto_region 1 with fail
      rw [← hX]
      clear hX
      go_wp2_with fail
      go_quiet (fail)
      go_wp2_with fail
      refine bodyPost_ret (v := .tuple #[setVal ⟨nm, ty1, cl, tt, da⟩ (.slice dA da.length dc), .bool true]) ?_ rfl ?_
      · simp [results, Tryz.results25, go_sem, kr, kf, zr]
      · refine ⟨_, by rw [HF.out]; rfl, ?_, ?_⟩
        · rw [HF.out]
          have hEz : Ext w X := hwX
          refine hstr.ext ?_
          (repeat (first | with_reducible exact Ext.refl _ | with_reducible assumption | with_reducible refine Ext.alloc ?_ _ | with_reducible refine Ext.drewN ?_ _ | with_reducible refine Ext.drew ?_ | (with_reducible refine Ext.setCell ?_ ?hp _; case hp => (simp <;> omega))))
        · (repeat (first | with_reducible exact Ext.refl _ | with_reducible assumption | with_reducible refine Ext.alloc ?_ _ | with_reducible refine Ext.drewN ?_ _ | with_reducible refine Ext.drew ?_ | (with_reducible refine Ext.setCell ?_ ?hp _; case hp => (simp <;> omega))))
    · have HF := Lib.hid (HR.out.trans (HE.out.trans (if_neg hty)))
      have f1 : (ty1 == ty) = false := by rw [beq_eq_false_iff_ne]; exact hty
      clear hty
      go_enter Tryz.func25, Tryz.ntmps25
      go_upto_region 1 with fail
      rw [← hX]
      clear hX
      go_wp2_with fail
      go_quiet (fail)
      go_wp2_with fail
      refine bodyPost_ret (v := .tuple #[setVal SetD.zero (.slice none 0 0), .bool false]) ?_ rfl ?_
      · simp [results, Tryz.results25, go_sem, kr, kf, zr, SetD.zero]
      · refine ⟨_, by rw [HF.out]; rfl, by rw [HF.out]; exact (OStrs.strs (v := .slice none 0 0) (l := []) (lo := lo) ⟨none, 0, rfl, Own.nil _ _ _ _⟩), ?_⟩
        (repeat (first | with_reducible exact Ext.refl _ | with_reducible assumption | with_reducible refine Ext.alloc ?_ _ | with_reducible refine Ext.drewN ?_ _ | with_reducible refine Ext.drew ?_ | (with_reducible refine Ext.setCell ?_ ?hp _; case hp => (simp <;> omega))))
end Go.Proofs.YtbdjoihckienbaaGreatDoor
namespace Go.Proofs.YtbdjoihckienbaaGreatDoor
set_option linter.unusedSimpArgs false
set_option linter.unusedVariables false
open Go.RowKit

def backL (L : List SetD) : List RecD := (L.map ttl0).flatMap recsOf
theorem mem_backL {L : List SetD} {x : RecD} : x ∈ backL L ↔ ∃ s ∈ L, ∃ d ∈ s.data, x = ⟨s.name, s.typ, s.cls, 0, d⟩ := by
  unfold backL recsOf
  rw [List.mem_flatMap]
  constructor
  · rintro ⟨t, ht, hx⟩
    obtain ⟨s, hs, rfl⟩ := List.mem_map.1 ht
    obtain ⟨d, hd, rfl⟩ := List.mem_map.1 hx
    exact ⟨s, hs, d, hd, rfl⟩
  · rintro ⟨s, hs, d, hd, rfl⟩
    exact ⟨ttl0 s, List.mem_map.2 ⟨s, hs, rfl⟩, List.mem_map.2 ⟨d, hd, rfl⟩⟩
theorem back_key {l : List RecD} {s : SetD} (hs : s ∈ groupR l) {d : List UInt8} (hd : d ∈ s.data) : okRec ⟨s.name, s.typ, s.cls, 0, d⟩ = true ∧ recK ⟨s.name, s.typ, s.cls, 0, d⟩ = keyT s := by
  have hn := group_name hs
  have hd' := group_folded hs hd
  refine ⟨by unfold okRec; dsimp only; rw [hn.1, hd'.1]; rfl, ?_⟩
  unfold recK keyT fold
  dsimp only
  rw [if_pos hn.1, hn.2]
theorem group_uniq {l : List RecD} {s t : SetD} (hs : s ∈ groupR l) (ht : t ∈ groupR l) (e : keyT s = keyT t) : s = t := by
  rw [((group_mem l s).1 hs).2, ((group_mem l t).1 ht).2, e]
theorem back_ofK {l : List RecD} {L : List SetD} (hL : ∀ s ∈ L, s ∈ groupR l) {s : SetD} (hs : s ∈ L) (x : RecD) : x ∈ ofK (backL L) (keyT s) ↔ ∃ d ∈ s.data, x = ⟨s.name, s.typ, s.cls, 0, d⟩ := by
  rw [mem_ofK]
  constructor
  · rintro ⟨h1, _, h3⟩
    obtain ⟨t, ht, d, hd, rfl⟩ := mem_backL.1 h1
    have e := group_uniq (hL t ht) (hL s hs) ((back_key (hL t ht) hd).2.symm.trans h3)
    subst e
    exact ⟨d, hd, rfl⟩
  · rintro ⟨d, hd, rfl⟩
    exact ⟨mem_backL.2 ⟨s, hs, d, hd, rfl⟩, back_key (hL s hs) hd⟩
theorem back_set {l : List RecD} {L : List SetD} (hL : ∀ s ∈ L, s ∈ groupR l) {s : SetD} (hs : s ∈ L) : ofK (backL L) (keyT s) ≠ [] ∧ setK (backL L) (keyT s) = ttl0 s := by
  have hof := back_ofK hL hs
  obtain ⟨d0, hd0⟩ := List.exists_mem_of_ne_nil _ (group_some (hL s hs))
  refine ⟨List.ne_nil_of_mem ((hof _).2 ⟨d0, hd0, rfl⟩), ?_⟩
  have h1 : minT (ofK (backL L) (keyT s)) = 0 := by
    have h2 := (minT_le (ofK (backL L) (keyT s))).2 _ ((hof _).2 ⟨d0, hd0, rfl⟩)
    have ht : timeT 0 = 0 := rfl
    dsimp only at h2
    rcases minT_in (ofK (backL L) (keyT s)) with h3 | ⟨x, hx, h3⟩
    · omega
    · obtain ⟨d', _, rfl⟩ := (hof x).1 hx
      dsimp only at h3
      omega
  have h2 : datT (ofK (backL L) (keyT s)) = s.data := by
    refine asc_ext (canon_asc _) (group_asc (hL s hs)) (fun d => ?_)
    unfold datT
    rw [mem_canon, List.mem_map]
    constructor
    · rintro ⟨x, hx, rfl⟩
      obtain ⟨d', hd', rfl⟩ := (hof x).1 hx
      dsimp only
      rw [(group_folded (hL s hs) hd').2]; exact hd'
    · intro hd
      exact ⟨_, (hof _).2 ⟨d, hd, rfl⟩, (group_folded (hL s hs) hd).2⟩
  unfold setK
  rw [h1, h2]
  rfl
theorem back_mem {l : List RecD} {L : List SetD} (hL : ∀ s ∈ L, s ∈ groupR l) (x : SetD) : x ∈ groupR (backL L) ↔ x ∈ L.map ttl0 := by
  rw [group_mem]
  constructor
  · rintro ⟨h1, h2⟩
    obtain ⟨y, hy⟩ := List.exists_mem_of_ne_nil _ h1
    obtain ⟨hym, _, hk⟩ := mem_ofK.1 hy
    obtain ⟨t, ht, d, hd, rfl⟩ := mem_backL.1 hym
    rw [← hk, (back_key (hL t ht) hd).2, (back_set hL ht).2] at h2
    rw [h2]; exact List.mem_map.2 ⟨t, ht, rfl⟩
  · intro hx
    obtain ⟨s, hs, rfl⟩ := List.mem_map.1 hx
    have hk : keyT (ttl0 s) = keyT s := rfl
    rw [hk]
    exact ⟨(back_set hL hs).1, (back_set hL hs).2.symm⟩
theorem back_find {l : List RecD} {L : List SetD} (hL : ∀ s ∈ L, s ∈ groupR l) {x : List UInt8} {k c : Int} {s : SetD} (h : findS (groupR l) x k c = some s) (hs : s ∈ L) : findS (groupR (backL L)) x k c = some (ttl0 s) := by
  by_cases hm : may x = true
  · have hf := find_group l x k c hm
    rw [h] at hf
    split at hf
    · cases hf
    · injection hf with hf
      have hk : keyT s = (low x, k, c) := by rw [hf]; rfl
      rw [find_group _ x k c hm, ← hk, if_neg (back_set hL hs).1, (back_set hL hs).2]
  · rw [find_bad _ x k c (by simpa using hm)] at h; cases h
theorem back_none {l : List RecD} {L : List SetD} (hL : ∀ s ∈ L, s ∈ groupR l) {x : List UInt8} {k c : Int} (h : findS (groupR l) x k c = none) : findS (groupR (backL L)) x k c = none := by
  by_cases hm : may x = true
  · have hf := find_group l x k c hm
    rw [h] at hf
    rw [find_group _ x k c hm]
    split at hf
    · rename_i h0
      rw [if_pos]
      rcases he : ofK (backL L) (low x, k, c) with _ | ⟨y, r⟩
      · rfl
      · exfalso
        obtain ⟨hym, _, hk⟩ := mem_ofK.1 (show y ∈ ofK (backL L) (low x, k, c) by rw [he]; simp)
        obtain ⟨t, ht, d, hd, rfl⟩ := mem_backL.1 hym
        rw [(back_key (hL t ht) hd).2] at hk
        have := ((group_mem l t).1 (hL t ht)).1
        rw [hk] at this
        exact this h0
    · cases hf
  · exact find_bad _ x k c (by simpa using hm)
theorem ttlF_ttl0 : TtlF ttl0 := fun s => rfl
theorem followF_pre (l : List SetD) (ty cls : Int) : ∀ (n : Nat) (here : List UInt8) (seen : List (List UInt8)) (path : List SetD), n + path.length = 9 → path.length ≤ 8 → (followF l ty cls n here seen path).err = 0 → ∃ more, (followF l ty cls n here seen path).path = path ++ more ∧ (∀ s ∈ more, s.typ = 5 ∧ ty ≠ 5) ∧ ∀ s ∈ (followF l ty cls n here seen path).fin, s.typ = ty
  | 0, here, seen, path, h, h8, _ => absurd h (by omega)
  | n + 1, here, seen, path, h, h8, he => by
    have hfin : ∀ s ∈ (findS l here ty cls).toList, s.typ = ty := fun s hs => by
      rcases hf : findS l here ty cls with _ | x
      · rw [hf] at hs; cases hs
      · rw [hf, Option.toList_some, List.mem_singleton] at hs
        subst hs; exact (find_same hf).1
    simp only [followF] at he ⊢
    by_cases h5 : ty = 5
    · rw [if_pos h5]; exact ⟨[], by simp, by simp, hfin⟩
    · rw [if_neg h5] at he ⊢
      rcases hf : findS l here 5 cls with _ | a
      · exact ⟨[], by simp, by simp, hfin⟩
      · rw [hf] at he
        dsimp only at he ⊢
        by_cases hp : path.length = 8
        · rw [if_pos hp] at he; cases he
        · rw [if_neg hp] at he ⊢
          rcases ht : targetS a with _ | next
          · rw [ht] at he; cases he
          · rw [ht] at he
            dsimp only at he ⊢
            by_cases hb : (findS l here ty cls).isSome = true
            · rw [if_pos hb] at he; cases he
            · rw [if_neg hb] at he ⊢
              by_cases hc : seen.contains next = true
              · rw [if_pos hc] at he; cases he
              · rw [if_neg hc] at he ⊢
                obtain ⟨more, h1, h2, h3⟩ := followF_pre l ty cls n next (seen ++ [next]) (path ++ [a]) (by simp; omega) (by simp; omega) he
                refine ⟨a :: more, by rw [h1]; simp, fun s hs => ?_, h3⟩
                rcases List.mem_cons.1 hs with rfl | hs
                · exact ⟨(find_same hf).1, h5⟩
                · exact h2 s hs
theorem followF_sub (l m L : List SetD) (ty cls : Int) (h1 : ∀ x k c s, findS l x k c = some s → s ∈ L → findS m x k c = some (ttl0 s)) (h2 : ∀ x k c, findS l x k c = none → findS m x k c = none) :
    ∀ (n : Nat) (here : List UInt8) (seen : List (List UInt8)) (path : List SetD), n + path.length = 9 → path.length ≤ 8 → (followF l ty cls n here seen path).err = 0 →
      (∀ s ∈ (followF l ty cls n here seen path).path, s ∈ L) → (∀ s ∈ (followF l ty cls n here seen path).fin, s ∈ L) → followF m ty cls n here seen (path.map ttl0) = (followF l ty cls n here seen path).mapT ttl0
  | 0, here, seen, path, h, h8, _, _, _ => absurd h (by omega)
  | n + 1, here, seen, path, h, h8, he, hm1, hm2 => by
    have hfin : (∀ s ∈ (findS l here ty cls).toList, s ∈ L) → (findS m here ty cls).toList = ((findS l here ty cls).toList).map ttl0 := fun hs => by
      rcases hf : findS l here ty cls with _ | x
      · rw [h2 _ _ _ hf]; rfl
      · rw [h1 _ _ _ _ hf (hs x (by rw [hf]; simp))]; rfl
    simp only [followF] at he hm1 hm2 ⊢
    by_cases h5 : ty = 5
    · rw [if_pos h5] at hm1 hm2
      rw [if_pos h5, if_pos h5, hfin hm2]; rfl
    · rw [if_neg h5] at he hm1 hm2
      rw [if_neg h5, if_neg h5]
      rcases hf : findS l here 5 cls with _ | a
      · rw [hf] at he hm1 hm2
        rw [h2 _ _ _ hf]
        dsimp only at hm2 ⊢
        rw [hfin hm2]; rfl
      · rw [hf] at he hm1 hm2
        dsimp only at he hm1 hm2 ⊢
        by_cases hp : path.length = 8
        · rw [if_pos hp] at he; cases he
        · rw [if_neg hp] at he hm1 hm2
          rcases ht : targetS a with _ | next
          · rw [ht] at he; cases he
          · rw [ht] at he hm1 hm2
            dsimp only at he hm1 hm2
            by_cases hb : (findS l here ty cls).isSome = true
            · rw [if_pos hb] at he; cases he
            · rw [if_neg hb] at he hm1 hm2
              by_cases hc : seen.contains next = true
              · rw [if_pos hc] at he; cases he
              · rw [if_neg hc] at he hm1 hm2
                obtain ⟨more, e1, _, _⟩ := followF_pre l ty cls n next (seen ++ [next]) (path ++ [a]) (by simp; omega) (by simp; omega) he
                have haL : a ∈ L := hm1 a (by rw [e1]; simp)
                have hnn : findS l here ty cls = none := by
                  rcases hx : findS l here ty cls with _ | x
                  · rfl
                  · rw [hx] at hb; exact absurd rfl hb
                rw [h1 _ _ _ _ hf haL]
                dsimp only
                rw [List.length_map, if_neg hp, if_neg hp, ttlF_ttl0.target, ht]
                dsimp only
                rw [h2 _ _ _ hnn, hnn, if_neg (show ¬ ((none : Option SetD).isSome = true) by simp), if_neg (show ¬ ((none : Option SetD).isSome = true) by simp), if_neg hc, if_neg hc]
                have := followF_sub l m L ty cls h1 h2 n next (seen ++ [next]) (path ++ [a]) (by simp; omega) (by simp; omega) he hm1 hm2
                rw [List.map_append] at this
                exact this
theorem follow_sub {l : List RecD} {n : List UInt8} {ty cls : Int} (he : (followOf n ty cls (groupR l)).err = 0) :
    followOf n ty cls (groupR (backL ((followOf n ty cls (groupR l)).path ++ (followOf n ty cls (groupR l)).fin))) = (followOf n ty cls (groupR l)).mapT ttl0 := by
  have hi := follow_in (groupR l) n ty cls
  unfold followOf at he hi ⊢
  by_cases hm : may n = true
  · rw [if_pos hm] at he hi
    rw [if_pos hm, if_pos hm]
    have hL : ∀ s ∈ (followF (groupR l) ty cls 9 (fold n) [fold n] []).path ++ (followF (groupR l) ty cls 9 (fold n) [fold n] []).fin, s ∈ groupR l := fun s hs => by
      rcases List.mem_append.1 hs with h | h
      · exact hi.path s h
      · exact hi.fin s h
    exact followF_sub (groupR l) _ ((followF (groupR l) ty cls 9 (fold n) [fold n] []).path ++ (followF (groupR l) ty cls 9 (fold n) [fold n] []).fin) ty cls (fun x k c s h hs => back_find hL h hs) (fun x k c h => back_none hL h) 9 (fold n) [fold n] [] rfl (by simp) he
      (fun s hs => List.mem_append.2 (.inl hs)) (fun s hs => List.mem_append.2 (.inr hs))
  · rw [if_neg hm] at he; cases he
theorem soa_back {auth : List RecD} {here : List UInt8} {cls : Int} {s : SetD} (h : (soaFind (groupR auth) here cls).set = some s) : soaFind (groupR (backL [s])) here cls = ⟨some (ttl0 s), 0⟩ := by
  obtain ⟨h1, h2, h3⟩ := soa_mem h
  have e : groupR (backL [s]) = [ttl0 s] := by
    refine rise_ext (group_rise _) (by unfold RiseS; simp) (fun x => ?_)
    rw [back_mem (l := auth) (fun t ht => by rw [List.mem_singleton] at ht; subst ht; exact h1)]
    rfl
  rw [e]
  have hf : fitsB here cls (ttl0 s) = true := h2
  have hb : bestTo [ttl0 s] here cls 1 = some (0, ttl0 s) := by
    show (if fitsB here cls (ttl0 s) then some (0, ttl0 s) else none) = _
    rw [if_pos hf]
  show soaOf (bestTo [ttl0 s] here cls 1) = _
  rw [hb]
  exact if_pos h3
/-- What holds of a verdict that a message has: its parts. -/
structure VerParts (n : List UInt8) (ty cls code : Int) (ans auth : List RecD) (R : VerR) : Prop where
  fol : (followOf n ty cls (groupR ans)).err = 0
  code : R.code = code
  sets : R.sets = ((followOf n ty cls (groupR ans)).path ++ (followOf n ty cls (groupR ans)).fin).map ttl0
  one : R.soa.length ≤ 1
  ends : (endV ty R.sets).isSome = decide ((followOf n ty cls (groupR ans)).fin.length = 1)
  soaN : (endV ty R.sets).isSome = true → R.soa = [] ∧ R.code ≠ 3
  soa0 : ∀ s ∈ R.soa, s.ttl = 0
  back : (verOf n ty cls R.code (R.sets.flatMap recsOf) (R.soa.flatMap recsOf)).same R
theorem ttl0_ttl0 (l : List SetD) : (l.map ttl0).map ttl0 = l.map ttl0 := by rw [List.map_map]; rfl
theorem endV_end {ty : Int} {P F : List SetD} (hP : ∀ s ∈ P, s.typ = 5 ∧ ty ≠ 5) (hF : ∀ s ∈ F, s.typ = ty) (h1 : F.length ≤ 1) : (endV ty ((P ++ F).map ttl0)).isSome = decide (F.length = 1) := by
  unfold endV
  rcases F with _ | ⟨x, F⟩
  · rw [List.append_nil, List.getLast?_map]
    rcases hl : P.getLast? with _ | y
    · rfl
    · have hy := hP y (List.mem_of_getLast? hl)
      rw [Option.map_some]
      dsimp only
      rw [if_neg (by show y.typ ≠ ty; rw [hy.1]; exact fun e => hy.2 e.symm)]; rfl
  · have e : F = [] := by
      cases F with
      | nil => rfl
      | cons _ _ => simp at h1
    subst e
    rw [List.map_append, List.map_cons, List.map_nil, List.getLast?_concat]
    dsimp only
    rw [if_pos (show (ttl0 x).typ = ty from hF x (by simp))]; rfl
theorem ver_parts {n : List UInt8} {ty cls code : Int} {ans auth : List RecD} (he : (verOf n ty cls code ans auth).err = 0) : VerParts n ty cls code ans auth (verOf n ty cls code ans auth) := by
  by_cases hc : may n = true ∧ (code = 0 ∨ code = 3)
  · have hv : verOf n ty cls code ans auth = verFol code cls auth (followOf n ty cls (groupR ans)) := if_pos hc
    rw [hv] at he ⊢
    have hi := follow_in (groupR ans) n ty cls
    by_cases hr : (followOf n ty cls (groupR ans)).err = 0
    · have hsub := follow_sub hr
      have hpre : (∀ s ∈ (followOf n ty cls (groupR ans)).path, s.typ = 5 ∧ ty ≠ 5) ∧ ∀ s ∈ (followOf n ty cls (groupR ans)).fin, s.typ = ty := by
        unfold followOf at hr ⊢
        rw [if_pos hc.1] at hr ⊢
        obtain ⟨more, e1, e2, e3⟩ := followF_pre (groupR ans) ty cls 9 (fold n) [fold n] [] rfl (by simp) hr
        rw [e1, List.nil_append]
        exact ⟨e2, e3⟩
      have hend := endV_end hpre.1 hpre.2 hi.one
      have hcode : ∀ A B, verOf n ty cls code A B = verFol code cls B (followOf n ty cls (groupR A)) := fun A B => if_pos hc
      generalize hR : followOf n ty cls (groupR ans) = R at *
      have hone := hi.one
      unfold verFol at he ⊢
      rw [if_pos hr] at he ⊢
      by_cases hf : R.fin = []
      · rw [if_pos hf] at he ⊢
        unfold verSoa at he ⊢
        by_cases hs : (soaFind (groupR auth) R.here cls).err = 0
        · rw [if_pos hs] at he ⊢
          have hbk : ∀ B, verOf n ty cls code ((R.path.map ttl0).flatMap recsOf) B = verSoa code (R.path.map ttl0) (soaFind (groupR B) R.here cls) := fun B => by
            have e0 : (R.path.map ttl0).flatMap recsOf = backL (R.path ++ R.fin) := by rw [hf, List.append_nil]; rfl
            rw [hcode, e0, hsub]
            unfold verFol FolR.mapT
            dsimp only
            rw [if_pos hr, if_pos (by rw [hf]; rfl)]
          rw [hf, List.append_nil] at hend
          rcases hset : (soaFind (groupR auth) R.here cls).set with _ | s
          · refine ⟨by rw [hR]; exact hr, rfl, by rw [hR, hf, List.append_nil], by simp, by rw [hR, hf]; exact hend, fun h => ?_, by simp, ?_⟩
            · rw [hend] at h; simp at h
            · dsimp only
              rw [hbk]
              exact ⟨rfl, ttl0_ttl0 _, rfl, rfl⟩
          · refine ⟨by rw [hR]; exact hr, rfl, by rw [hR, hf, List.append_nil], by simp, by rw [hR, hf]; exact hend, fun h => ?_, fun t ht => by rw [List.mem_singleton] at ht; subst ht; rfl, ?_⟩
            · rw [hend] at h; simp at h
            · dsimp only
              rw [hbk]
              have e1 : [ttl0 s].flatMap recsOf = backL [s] := rfl
              rw [e1, soa_back hset]
              exact ⟨rfl, ttl0_ttl0 _, rfl, rfl⟩
        · rw [if_neg hs] at he; exact absurd he hs
      · rw [if_neg hf] at he ⊢
        unfold verEnd at he ⊢
        by_cases h3 : code = 3
        · rw [if_pos h3] at he; cases he
        · rw [if_neg h3] at he ⊢
          refine ⟨by rw [hR]; exact hr, rfl, by rw [hR], by simp, by rw [hR]; exact hend, fun _ => ⟨rfl, h3⟩, by simp, ?_⟩
          dsimp only
          rw [hcode]
          have e1 : ((R.path ++ R.fin).map ttl0).flatMap recsOf = backL (R.path ++ R.fin) := rfl
          rw [e1, hsub]
          unfold verFol FolR.mapT
          dsimp only
          rw [if_pos hr, if_neg (by rw [List.map_eq_nil_iff]; exact hf)]
          unfold verEnd
          rw [if_neg h3, ← List.map_append]
          exact ⟨rfl, ttl0_ttl0 _, rfl, rfl⟩
    · unfold verFol at he
      rw [if_neg hr] at he; exact absurd he hr
  · have hv : verOf n ty cls code ans auth = VerR.bad 1 := if_neg hc
    rw [hv] at he; cases he
theorem ver_bad_parts {n : List UInt8} {ty cls code : Int} {ans auth : List RecD} (he : (verOf n ty cls code ans auth).err ≠ 0) : (verOf n ty cls code ans auth).code = 0 ∧ (verOf n ty cls code ans auth).sets = [] ∧ (verOf n ty cls code ans auth).soa = [] := by
  unfold verOf at he ⊢
  split
  · rename_i hc
    rw [if_pos hc] at he
    unfold verFol at he ⊢
    split
    · rename_i hr
      rw [if_pos hr] at he
      split
      · rename_i hf
        rw [if_pos hf] at he
        unfold verSoa at he ⊢
        split
        · rename_i hs
          rw [if_pos hs] at he
          rcases h : (soaFind (groupR auth) (followOf n ty cls (groupR ans)).here cls).set with _ | s
          · rw [h] at he; exact absurd rfl he
          · rw [h] at he; exact absurd rfl he
        · exact ⟨rfl, rfl, rfl⟩
      · rename_i hf
        rw [if_neg hf] at he
        unfold verEnd at he ⊢
        split
        · exact ⟨rfl, rfl, rfl⟩
        · rename_i hcc
          rw [if_neg hcc] at he; exact absurd rfl he
    · exact ⟨rfl, rfl, rfl⟩
  · exact ⟨rfl, rfl, rfl⟩
end Go.Proofs.YtbdjoihckienbaaGreatDoor
namespace Go.Proofs.YtbdjoihckienbaaGreatDoor
set_option linter.unusedSimpArgs false
set_option linter.unusedVariables false
open Go.RowKit
set_option maxRecDepth 100000

theorem recsOf_flat (D : Nat) : ∀ (l : List SetD), (∀ s ∈ l, s.data.length ≤ D) → (l.flatMap recsOf).length ≤ l.length * D
  | [], _ => by simp
  | s :: l, h => by
    have h1 := recsOf_flat D l (fun t ht => h t (by simp [ht]))
    have h2 := h s (by simp)
    rw [List.flatMap_cons, List.length_append, List.length_cons, Nat.add_mul, show (recsOf s).length = s.data.length by unfold recsOf; simp]
    omega
theorem take_bd {l : List SetD} (h : ∀ s ∈ l, Fine s) (hl : l.length ≤ 9) (j : Nat) : ((l.take j).flatMap recsOf).length ≤ 3006 := by
  have h1 := recsOf_flat 334 (l.take j) (fun s hs => (h s (List.mem_of_mem_take hs)).dn)
  have h2 : (l.take j).length * 334 ≤ 9 * 334 := Nat.mul_le_mul_right _ (by rw [List.length_take]; omega)
  omega
theorem back_bd {l : List SetD} (h : ∀ s ∈ l, Fine s) (hl : l.length ≤ 9) : RecsBd (l.flatMap recsOf) ∧ RecsOk (l.flatMap recsOf) := by
  have hm : ∀ r ∈ l.flatMap recsOf, ∃ s ∈ l, ∃ d ∈ s.data, r = ⟨s.name, s.typ, s.cls, s.ttl, d⟩ := fun r hr => by
    obtain ⟨s, hs, hr⟩ := List.mem_flatMap.1 hr
    unfold recsOf at hr
    obtain ⟨d, hd, rfl⟩ := List.mem_map.1 hr
    exact ⟨s, hs, d, hd, rfl⟩
  refine ⟨⟨?_, fun r hr => ?_⟩, fun r hr => ?_⟩
  · have h1 := recsOf_flat 334 l (fun s hs => (h s hs).dn)
    have h2 : l.length * 334 ≤ 9 * 334 := Nat.mul_le_mul_right _ hl
    omega
  · obtain ⟨s, hs, d, hd, rfl⟩ := hm r hr
    have h1 := may_le (h s hs).nm
    have h2 := (h s hs).dl d hd
    exact ⟨by dsimp only; omega, by dsimp only; omega⟩
  · obtain ⟨s, hs, d, hd, rfl⟩ := hm r hr
    exact (h s hs).ok
theorem back_take {l : List SetD} (k : Nat) (s : SetD) (h : l[k]? = some s) : (l.take (k + 1)).flatMap recsOf = (l.take k).flatMap recsOf ++ recsOf s := by
  rw [List.take_add_one, h, Option.toList_some, List.flatMap_append]; simp
theorem said_rows {ps fs os ss : List (SetD × Value)} {L O : List SetD} (h1 : ss.map Prod.fst = L) (h2 : os.map Prod.fst = O) (h3 : L = (ps.map Prod.fst ++ fs.map Prod.fst).map ttl0) (h4 : ∀ s ∈ O, s.ttl = 0)
    (h5 : ∀ s ∈ L, Fine s) (h6 : ∀ s ∈ O, Fine s) (k : Nat) (hk : k < L.length + O.length) :
    ∃ s v u, (ps ++ fs ++ os)[k]? = some (s, v) ∧ (ss ++ os)[k]? = some (ttl0 s, u) ∧ s.data.length ≤ 334 ∧ (k < L.length → L[k]? = some (ttl0 s)) ∧ (L.length ≤ k → O[k - L.length]? = some (ttl0 s)) := by
  have h0 : O.map ttl0 = O := by
    conv => rhs; rw [← List.map_id O]
    exact List.map_congr_left (fun s hs => by have := h4 s hs; obtain ⟨a, b, c, d, e⟩ := s; dsimp only at this; subst this; rfl)
  have he : (ss ++ os).map Prod.fst = ((ps ++ fs ++ os).map Prod.fst).map ttl0 := by
    rw [List.map_append, h1, h2, List.map_append, h2, List.map_append, h0, List.map_append, ← h3]
  have hso : (ss ++ os).map Prod.fst = L ++ O := by rw [List.map_append, h1, h2]
  have hl2 : (ss ++ os).length = L.length + O.length := by have := congrArg List.length hso; simpa using this
  have hl : (ps ++ fs ++ os).length = L.length + O.length := by have := congrArg List.length he; rw [List.length_map, List.length_map, List.length_map] at this; omega
  have e := congrArg (fun l => l[k]?) he
  simp only [List.getElem?_map, List.getElem?_eq_getElem (show k < (ps ++ fs ++ os).length by omega), List.getElem?_eq_getElem (show k < (ss ++ os).length by omega), Option.map_some, Option.some.injEq] at e
  have e' := congrArg (fun l => l[k]?) hso
  simp only [List.getElem?_map, List.getElem?_eq_getElem (show k < (ss ++ os).length by omega), Option.map_some, e] at e'
  have hmem := List.mem_of_getElem? e'.symm
  refine ⟨((ps ++ fs ++ os)[k]'(by omega)).1, ((ps ++ fs ++ os)[k]'(by omega)).2, ((ss ++ os)[k]'(by omega)).2, List.getElem?_eq_getElem (show k < (ps ++ fs ++ os).length by omega), ?_, ?_, fun hk1 => ?_, fun hk1 => ?_⟩
  · rw [List.getElem?_eq_getElem (show k < (ss ++ os).length by omega), ← e]
  · rcases List.mem_append.1 hmem with h | h
    · exact (h5 _ h).dn
    · exact (h6 _ h).dn
  · rw [List.getElem?_append_left hk1] at e'; exact e'.symm
  · rw [List.getElem?_append_right hk1] at e'; exact e'.symm
theorem endV_at {ty : Int} {l : List SetD} {s : SetD} (h : endV ty l = some s) : ∃ m, l.length = m + 1 ∧ l[m]? = some s := by
  unfold endV at h
  rcases hl : l.getLast? with _ | t
  · rw [hl] at h; cases h
  · rw [hl] at h
    dsimp only at h
    split at h
    · injection h with h
      subst h
      rw [List.getLast?_eq_getElem?] at hl
      have := (List.getElem?_eq_some_iff.1 hl).1
      exact ⟨l.length - 1, by omega, hl⟩
    · cases h
theorem map_at {ss : List (SetD × Value)} {L : List SetD} (h : ss.map Prod.fst = L) {k : Nat} {s : SetD} (hk : L[k]? = some s) : ∃ v, ss[k]? = some (s, v) := by
  rw [← h, List.getElem?_map] at hk
  rcases hs : ss[k]? with _ | p
  · rw [hs] at hk; cases hk
  · rw [hs] at hk
    injection hk with hk
    exact ⟨p.2, by rw [← hk]⟩
theorem apart_symm {a b : Option Nat} (h : a = none ∨ a ≠ b) : b = none ∨ b ≠ a := by
  rcases h with h | h
  · subst h
    rcases b with _ | b
    · exact .inl rfl
    · exact .inr (by simp)
  · exact .inr (fun e => h e.symm)
/-- The message that is made of a verdict: its box, the two lists of records so far. -/
def BkInv (Z : World) (code : Int) (La Lb : List RecD) (wr : World) : Prop :=
  ∃ (A : Option Addr) (c : Nat) (B : Option Addr) (d : Nat), wr.heap[Z.heap.size]? = some (.cells #[.int .u16 0, .bool false, .int .u8 0, .bool false, .bool false, .bool false, .bool false, .bool false, .bool false, .bool false, .int .u8 code, .slice none 0 0, .slice A La.length c, .slice B Lb.length d, .slice none 0 0, .bool false, .int .u16 0, .int .u8 0, .int .u8 0, .int .u16 0, .slice none 0 0] 33) ∧ Own wr (Z.heap.size + 1) 48 5 A La.length c (La.flatMap recCells) ∧
    Own wr (Z.heap.size + 1) 48 5 B Lb.length d (Lb.flatMap recCells) ∧ ((Value.slice B Lb.length d).ownBlock = none ∨ (Value.slice B Lb.length d).ownBlock ≠ (Value.slice A La.length c).ownBlock) ∧ Ext Z wr

set_option maxHeartbeats 8000000 in
theorem law_verdictParts (x : MsgX) (n : List UInt8) (ty cls code : Int) (aA : Option Addr) (ac : Nat) (uA : Option Addr) (uc : Nat) (ans auth ext : List RecD) (w : World) (hg : Laid w) (ha : Recs w 0 (.slice aA ans.length ac) ans) (hu : Recs w 0 (.slice uA auth.length uc) auth) (hx : Recs w 0 (.slice x.xA x.xn x.xc) ext) (hao : ∀ r ∈ ans, RecOk r) (huo : ∀ r ∈ auth, RecOk r) (hxo : ∀ r ∈ ext, RecOk r) (hn : n.length ≤ maxLen) (hq : x.qn ≤ maxLen) :
    Calls Tryz.prog 9 #[.agg #[S n, .int .u16 ty, .int .u16 cls], msgV x code (.slice aA ans.length ac) (.slice uA auth.length uc)] w fun e w' => e = .returned (.bool true) ∧ Ext w w' := by
  have HL := Lib.hid (fun W (hW : Ext w W) => law11_large x n ty cls code 0 aA ac uA uc ans auth ext W (ha.ext hW) (hu.ext hW) (hx.ext hW) hao huo hxo hn hq)
  have HA := Lib.hid (fun W (hW : Ext w W) => law11_awake W (hg.ext hW))
  rcases hb : largeM n ans auth ext x.qn with _ | _
  rotate_left
  · rw [hb] at HL
    clear hb
    obtain ⟨X, hX⟩ : ∃ X, X = ((w.alloc (.cells #[S n, .int .u16 ty, .int .u16 cls] 24)).alloc (.cells #[.int .u16 x.id, .bool x.qr, .int .u8 x.op, .bool x.aa, .bool x.tc, .bool x.rd, .bool x.ra, .bool x.z, .bool x.ad, .bool x.cd, .int .u8 code, .slice x.qA x.qn x.qc, .slice aA ans.length ac, .slice uA auth.length uc, .slice x.xA x.xn x.xc, .bool x.he, .int .u16 x.es, .int .u8 x.ee, .int .u8 x.ev, .int .u16 x.ef, .slice x.oA x.on x.oc] 33)) := ⟨_, rfl⟩
    obtain ⟨kq, _, zq⟩ := ext_new_at (w.heap.size) rfl ((Ext.refl (w.alloc (.cells #[S n, .int .u16 ty, .int .u16 cls] 24))).alloc (.cells #[.int .u16 x.id, .bool x.qr, .int .u8 x.op, .bool x.aa, .bool x.tc, .bool x.rd, .bool x.ra, .bool x.z, .bool x.ad, .bool x.cd, .int .u8 code, .slice x.qA x.qn x.qc, .slice aA ans.length ac, .slice uA auth.length uc, .slice x.xA x.xn x.xc, .bool x.he, .int .u16 x.es, .int .u8 x.ee, .int .u8 x.ev, .int .u16 x.ef, .slice x.oA x.on x.oc] 33))
    have zm : w.heap.size + 1 < ((w.alloc (.cells #[S n, .int .u16 ty, .int .u16 cls] 24)).alloc (.cells #[.int .u16 x.id, .bool x.qr, .int .u8 x.op, .bool x.aa, .bool x.tc, .bool x.rd, .bool x.ra, .bool x.z, .bool x.ad, .bool x.cd, .int .u8 code, .slice x.qA x.qn x.qc, .slice aA ans.length ac, .slice uA auth.length uc, .slice x.xA x.xn x.xc, .bool x.he, .int .u16 x.es, .int .u8 x.ee, .int .u8 x.ev, .int .u16 x.ef, .slice x.oA x.on x.oc] 33)).heap.size := by simp
    have hkm : ((w.alloc (.cells #[S n, .int .u16 ty, .int .u16 cls] 24)).alloc (.cells #[.int .u16 x.id, .bool x.qr, .int .u8 x.op, .bool x.aa, .bool x.tc, .bool x.rd, .bool x.ra, .bool x.z, .bool x.ad, .bool x.cd, .int .u8 code, .slice x.qA x.qn x.qc, .slice aA ans.length ac, .slice uA auth.length uc, .slice x.xA x.xn x.xc, .bool x.he, .int .u16 x.es, .int .u8 x.ee, .int .u8 x.ev, .int .u16 x.ef, .slice x.oA x.on x.oc] 33)).heap[w.heap.size + 1]? = some (.cells #[.int .u16 x.id, .bool x.qr, .int .u8 x.op, .bool x.aa, .bool x.tc, .bool x.rd, .bool x.ra, .bool x.z, .bool x.ad, .bool x.cd, .int .u8 code, .slice x.qA x.qn x.qc, .slice aA ans.length ac, .slice uA auth.length uc, .slice x.xA x.xn x.xc, .bool x.he, .int .u16 x.es, .int .u8 x.ee, .int .u8 x.ev, .int .u16 x.ef, .slice x.oA x.on x.oc] 33) := heap_new_at (w.alloc (.cells #[S n, .int .u16 ty, .int .u16 cls] 24)) _ (w.heap.size + 1) (by simp)
    rw [← hX] at kq zq zm hkm
    have hwX : Ext w X := by rw [hX]; exact ((Ext.refl _).alloc _).alloc _
    have HK := Lib.hid (show ∀ V, Ext X V → (∀ j, V.cell? ⟨w.heap.size, j, none⟩ = #[S n, .int .u16 ty, .int .u16 cls][j]?) from fun V hV => fun j => (hV.cell (p := ⟨w.heap.size, j, none⟩) zq).trans (kq j))
    have HM := Lib.hid (show ∀ V, Ext X V → V.heap[w.heap.size + 1]? = some (.cells #[.int .u16 x.id, .bool x.qr, .int .u8 x.op, .bool x.aa, .bool x.tc, .bool x.rd, .bool x.ra, .bool x.z, .bool x.ad, .bool x.cd, .int .u8 code, .slice x.qA x.qn x.qc, .slice aA ans.length ac, .slice uA auth.length uc, .slice x.xA x.xn x.xc, .bool x.he, .int .u16 x.es, .int .u8 x.ee, .int .u8 x.ev, .int .u16 x.ef, .slice x.oA x.on x.oc] 33) from fun V hV => (hV.block _ zm).trans hkm)
    clear hkm kq
    have c0 := HK.out X (Ext.refl _)
    go_enter Tryz.func9, Tryz.ntmps9
    go_upto_region 1 with fail
    rw [← hX]
    clear hX
    go_wp2_with (refine wpList_load_rowG (by rfl) 33 (.tmp 3) rfl (w.heap.size + 1) rfl 33 _ _ _ (HM.out _ (Ext.refl _)) Tryz.underlying33 rfl (by kernel_rfl) ?_)
    refine (HL.out _ hwX).mono ?_; rintro e w1 ⟨rfl, hE1⟩
    go_wp2_with fail
    refine (HA.out _ (hwX.trans hE1)).mono ?_; rintro e w2 ⟨rfl, hE2⟩
    go_wp2_with fail
    go_ret
    exact ⟨rfl, (hwX.trans hE1).trans hE2⟩
  obtain ⟨s1, s2, s3, _, _⟩ := largeM_no hb
  rw [hb] at HL
  have hbd := recsBd_of s2
  have hok := recsOk_of hao
  have HV1 := Lib.hid (fun W (hW : Ext w W) => ver_of x n ty cls code 0 aA ac uA uc ans auth W (hg.ext hW) (ha.ext hW) (hu.ext hW) hbd (recsBd_of s3) hok (recsOk_of huo) (by omega))
  have HG := Lib.hid (fun W (hW : Ext w W) => rrset_groupR 0 _ ans W (hg.ext hW) (ha.ext hW) hbd hok)
  have hb1 := groupR_bd hbd
  have HF := Lib.hid (fun W (hW : Ext w W) lo' v (hS : Sets W lo' v (groupR ans)) => chain_follow lo' n ty cls v _ W (hg.ext hW) hS hb1 (by omega))
  have HnL := Lib.hid (show n.length ≤ 1048576 by omega)
  have hFine := ver_fine (n := n) (ty := ty) (cls := cls) (code := code) s2 s3 hok (recsOk_of huo)
  have hVP := Lib.hid (fun h => ver_parts (n := n) (ty := ty) (cls := cls) (code := code) (ans := ans) (auth := auth) h)
  have hVB := Lib.hid (fun h => ver_bad_parts (n := n) (ty := ty) (cls := cls) (code := code) (ans := ans) (auth := auth) h)
  generalize hR : verOf n ty cls code ans auth = R at *
  have HR := Lib.hid hR
  clear hb s1 s2 s3 hR
  obtain ⟨X, hX⟩ : ∃ X, X = ((w.alloc (.cells #[S n, .int .u16 ty, .int .u16 cls] 24)).alloc (.cells #[.int .u16 x.id, .bool x.qr, .int .u8 x.op, .bool x.aa, .bool x.tc, .bool x.rd, .bool x.ra, .bool x.z, .bool x.ad, .bool x.cd, .int .u8 code, .slice x.qA x.qn x.qc, .slice aA ans.length ac, .slice uA auth.length uc, .slice x.xA x.xn x.xc, .bool x.he, .int .u16 x.es, .int .u8 x.ee, .int .u8 x.ev, .int .u16 x.ef, .slice x.oA x.on x.oc] 33)) := ⟨_, rfl⟩
  obtain ⟨kq, _, zq⟩ := ext_new_at (w.heap.size) rfl ((Ext.refl (w.alloc (.cells #[S n, .int .u16 ty, .int .u16 cls] 24))).alloc (.cells #[.int .u16 x.id, .bool x.qr, .int .u8 x.op, .bool x.aa, .bool x.tc, .bool x.rd, .bool x.ra, .bool x.z, .bool x.ad, .bool x.cd, .int .u8 code, .slice x.qA x.qn x.qc, .slice aA ans.length ac, .slice uA auth.length uc, .slice x.xA x.xn x.xc, .bool x.he, .int .u16 x.es, .int .u8 x.ee, .int .u8 x.ev, .int .u16 x.ef, .slice x.oA x.on x.oc] 33))
  have zm : w.heap.size + 1 < ((w.alloc (.cells #[S n, .int .u16 ty, .int .u16 cls] 24)).alloc (.cells #[.int .u16 x.id, .bool x.qr, .int .u8 x.op, .bool x.aa, .bool x.tc, .bool x.rd, .bool x.ra, .bool x.z, .bool x.ad, .bool x.cd, .int .u8 code, .slice x.qA x.qn x.qc, .slice aA ans.length ac, .slice uA auth.length uc, .slice x.xA x.xn x.xc, .bool x.he, .int .u16 x.es, .int .u8 x.ee, .int .u8 x.ev, .int .u16 x.ef, .slice x.oA x.on x.oc] 33)).heap.size := by simp
  have hkm : ((w.alloc (.cells #[S n, .int .u16 ty, .int .u16 cls] 24)).alloc (.cells #[.int .u16 x.id, .bool x.qr, .int .u8 x.op, .bool x.aa, .bool x.tc, .bool x.rd, .bool x.ra, .bool x.z, .bool x.ad, .bool x.cd, .int .u8 code, .slice x.qA x.qn x.qc, .slice aA ans.length ac, .slice uA auth.length uc, .slice x.xA x.xn x.xc, .bool x.he, .int .u16 x.es, .int .u8 x.ee, .int .u8 x.ev, .int .u16 x.ef, .slice x.oA x.on x.oc] 33)).heap[w.heap.size + 1]? = some (.cells #[.int .u16 x.id, .bool x.qr, .int .u8 x.op, .bool x.aa, .bool x.tc, .bool x.rd, .bool x.ra, .bool x.z, .bool x.ad, .bool x.cd, .int .u8 code, .slice x.qA x.qn x.qc, .slice aA ans.length ac, .slice uA auth.length uc, .slice x.xA x.xn x.xc, .bool x.he, .int .u16 x.es, .int .u8 x.ee, .int .u8 x.ev, .int .u16 x.ef, .slice x.oA x.on x.oc] 33) := heap_new_at (w.alloc (.cells #[S n, .int .u16 ty, .int .u16 cls] 24)) _ (w.heap.size + 1) (by simp)
  rw [← hX] at kq zq zm hkm
  have hwX : Ext w X := by rw [hX]; exact ((Ext.refl _).alloc _).alloc _
  have HK := Lib.hid (show ∀ V, Ext X V → (∀ j, V.cell? ⟨w.heap.size, j, none⟩ = #[S n, .int .u16 ty, .int .u16 cls][j]?) from fun V hV => fun j => (hV.cell (p := ⟨w.heap.size, j, none⟩) zq).trans (kq j))
  have HM := Lib.hid (show ∀ V, Ext X V → V.heap[w.heap.size + 1]? = some (.cells #[.int .u16 x.id, .bool x.qr, .int .u8 x.op, .bool x.aa, .bool x.tc, .bool x.rd, .bool x.ra, .bool x.z, .bool x.ad, .bool x.cd, .int .u8 code, .slice x.qA x.qn x.qc, .slice aA ans.length ac, .slice uA auth.length uc, .slice x.xA x.xn x.xc, .bool x.he, .int .u16 x.es, .int .u8 x.ee, .int .u8 x.ev, .int .u16 x.ef, .slice x.oA x.on x.oc] 33) from fun V hV => (hV.block _ zm).trans hkm)
  clear hkm kq
  have c0 := HK.out X (Ext.refl _)
  go_enter Tryz.func9, Tryz.ntmps9
  go_upto_region 1 with fail
  rw [← hX]
  clear hX
  go_wp2_with (refine wpList_load_rowG (by rfl) 33 (.tmp 3) rfl (w.heap.size + 1) rfl 33 _ _ _ (HM.out _ (Ext.refl _)) Tryz.underlying33 rfl (by kernel_rfl) ?_)
  refine (HL.out _ hwX).mono ?_; rintro e w1 ⟨rfl, hE1⟩
  go_wp2_with fail
  refine (HA.out _ (hwX.trans hE1)).mono ?_; rintro e w2 ⟨rfl, hE2⟩
  have hX2 := hE1.trans hE2
  have c2 := HK.out w2 hX2
  clear c0
  go_wp2_with (refine wpList_load_rowG (by rfl) 33 (.tmp 3) rfl (w.heap.size + 1) rfl 33 _ _ _ (HM.out _ hX2) Tryz.underlying33 rfl (by kernel_rfl) ?_)
  refine (HV1.out _ (hwX.trans hX2)).mono ?_; rintro e w3 ⟨vs, vo, rfl, hs, ho, _, hE3⟩
  obtain ⟨sA, sc, rfl, hsl1, hsl2⟩ := hs.shape
  obtain ⟨oA, oc, rfl, hol1, hol2⟩ := ho.shape
  unfold maxLen at hsl2 hol2
  have hX3 := hX2.trans hE3
  have hX3a : Ext X (w3.alloc (.cells #[.int .u8 R.code, .slice sA R.sets.length sc, .slice oA R.soa.length oc] 38)) := hX3.alloc _
  obtain ⟨kv, _, zv⟩ := ext_new (Ext.refl (w3.alloc (.cells #[.int .u8 R.code, .slice sA R.sets.length sc, .slice oA R.soa.length oc] 38)))
  obtain ⟨Y, hY⟩ : ∃ Y, Y = (w3.alloc (.cells #[.int .u8 R.code, .slice sA R.sets.length sc, .slice oA R.soa.length oc] 38)) := ⟨_, rfl⟩
  rw [← hY] at kv zv
  have h3Y : Ext w3 Y := by rw [hY]; exact (Ext.refl _).alloc _
  have hX3' := hX3.trans h3Y
  have HV := Lib.hid (show ∀ V, Ext Y V → ∀ j, V.cell? ⟨w3.heap.size, j, none⟩ = #[.int .u8 R.code, .slice sA R.sets.length sc, .slice oA R.soa.length oc][j]? from fun V hV j => (hV.cell (p := ⟨w3.heap.size, j, none⟩) zv).trans (kv j))
  have Hs := Lib.hid (show ∀ V, Ext Y V → OSets V w2.heap.size _ R.sets from fun V hV => hs.ext (h3Y.trans hV))
  have Ho := Lib.hid (show ∀ V, Ext Y V → OSets V w2.heap.size _ R.soa from fun V hV => ho.ext (h3Y.trans hV))
  clear c2 hs ho hX3a
  by_cases he : R.err = 0
  rotate_left
  · have f1 : ((R.err : Int) == 0) = false := by rw [beq_eq_false_iff_ne]; omega
    have f2 : ((R.err : Int) != 0) = true := by rw [bne, f1]; rfl
    obtain ⟨b1, b2, b3⟩ := hVB.out he
    have HSm := Lib.hid (ref11_same 0 0 R.code 0 _ _ _ _ R.sets R.soa [] [] Y ((Hs.out _ (Ext.refl _)).sets.lower (Nat.zero_le _)) ((Ho.out _ (Ext.refl _)).sets.lower (Nat.zero_le _)) (OSets.nil _ 0).sets (OSets.nil _ 0).sets)
    rw [show verSame R.code R.sets R.soa 0 [] [] = true by rw [b1, b2, b3]; unfold verSame; simp] at HSm
    clear he b1 b2 b3
    go_upto_region 4 with fail
    rw [← hY]
    clear hY
    go_wp2_with fail
    refine HSm.out.mono ?_; rintro e w4 ⟨rfl, hE4⟩
    go_wp2_with fail
    go_ret
    exact ⟨rfl, hwX.trans (hX3'.trans hE4)⟩
  have VP := hVP.out he
  have f1 : ((R.err : Int) == 0) = true := by rw [he]; rfl
  have f2 : ((R.err : Int) != 0) = false := by rw [bne, f1]; rfl
  have hferr := VP.fol
  have hbs : SetsBd R.sets := fun s hs => by
    have h := (hFine.sets s hs).1
    exact ⟨by have := may_le h.nm; omega, by have := h.dn; omega, fun d hd => by have := h.dl d hd; omega⟩
  have HE := Lib.hid (fun V (hV : Ext Y V) => ver_end n ty cls R.code w2.heap.size _ R.sets oA R.soa.length oc V (Hs.out _ hV).sets hbs)
  have VPh := Lib.hid VP
  have G2 := Lib.hid (show (followOf n ty cls (groupR ans)).path.length + (followOf n ty cls (groupR ans)).fin.length = R.sets.length from by have h := congrArg List.length VPh.out.sets; rw [List.length_map, List.length_append] at h; exact h.symm)
  have G3 := Lib.hid (show (endV ty R.sets).isSome = decide ((followOf n ty cls (groupR ans)).fin.length = 1) from VPh.out.ends)
  have G5 := Lib.hid (show R.sets = ((followOf n ty cls (groupR ans)).path ++ (followOf n ty cls (groupR ans)).fin).map ttl0 from VPh.out.sets)
  generalize hFo : followOf n ty cls (groupR ans) = Fo at *
  obtain ⟨s0, hs0⟩ : ∃ s0, s0 = (endV ty R.sets).getD SetD.zero := ⟨_, rfl⟩
  unfold FindPost at HE
  obtain ⟨b, hb⟩ : ∃ b, b = (endV ty R.sets).isSome := ⟨_, rfl⟩
  rw [← hs0, ← hb] at HE
  have Hs0 := Lib.hid hs0
  have Hb := Lib.hid hb
  clear hs0 hb
  have HS6 := Lib.hid (show ∀ V, Ext Y V → V.cell? ⟨w.heap.size, 0, none⟩ = some (S n) ∧ V.cell? ⟨w.heap.size, 1, none⟩ = some (.int .u16 ty) ∧ V.cell? ⟨w.heap.size, 2, none⟩ = some (.int .u16 cls) ∧ V.cell? ⟨w.heap.size + 1, 12, none⟩ = some (.slice aA ans.length ac) from fun V hV => ⟨HK.out _ (hX3'.trans hV) 0, HK.out _ (hX3'.trans hV) 1, HK.out _ (hX3'.trans hV) 2, heap_cells (HM.out _ (hX3'.trans hV)) 12⟩)
  have He := Lib.hid he
  clear he VP
  go_upto_region 4 with fail
  rw [← hY]
  clear hY kv
  go_wp2_with fail
  refine wp_region_noPanic ?_
  refine wp_region_tree (S := (fun V => V.cell? ⟨w.heap.size, 0, none⟩ = some (S n) ∧ V.cell? ⟨w.heap.size, 1, none⟩ = some (.int .u16 ty) ∧ V.cell? ⟨w.heap.size, 2, none⟩ = some (.int .u16 cls) ∧ V.cell? ⟨w.heap.size + 1, 12, none⟩ = some (.slice aA ans.length ac))) (.take 0 (.take 1 (.take 2 (.run 3 (.run 4 (.take 5 (.take 6 (.take 7 (.take 8 (.take 9 (.take 10 (.take 11 (.take 12 (.take 13 (.done))))))))))))))) (by kernel_rfl) (by kernel_rfl) (fun _ _ _ _ _ h => h) (HS6.out _ ((Ext.refl Y).drew)) ?_
  repeat ((with_reducible refine treeIs ?_); first
    | (refine treeTake (v := ?_) (by rfl) (by rfl) ?_ ?_; rotate_left; (focus (intro V hV; (try dsimp only at hV); (go_simp <;> with_reducible rfl))); (try simp only [Act.put, List.setIfInBounds_toArray, List.set_cons_zero, List.set_cons_succ]))
    | (refine treeSkip (by rfl) (by rfl) ?_; (try simp only [Act.put, List.setIfInBounds_toArray, List.set_cons_zero, List.set_cons_succ])))
  refine treeRun (by rfl) (fun K hK => ?_)
  go_simp
  refine (HG.out _ (hwX.trans (hX3'.trans ((Ext.refl Y).drew)))).mono ?_; rintro e w4 ⟨g4, rfl, ho4, hE4⟩
  have hY4 : Ext Y w4 := Ext.trans ((Ext.refl Y).drew) hE4
  refine hK.out _ _ ?_ ?_
  · exact HS6.out _ hY4
  clear hK K
  (try simp only [Act.put, List.setIfInBounds_toArray, List.set_cons_zero, List.set_cons_succ])
  refine treeRun (by rfl) (fun K hK => ?_)
  go_simp
  refine (HF.out _ (hwX.trans (hX3'.trans hY4)) _ _ ho4.sets).mono ?_; rintro e w5 ⟨vp, vf, wm, rfl, hop, hEm, hof, hEf⟩
  have hY5 : Ext Y w5 := hY4.trans (hEm.trans hEf)
  refine hK.out _ _ ?_ ?_
  · exact HS6.out _ hY5
  clear hK K
  (try simp only [Act.put, List.setIfInBounds_toArray, List.set_cons_zero, List.set_cons_succ])
  repeat ((with_reducible refine treeIs ?_); first
    | (refine treeTake (v := ?_) (by rfl) (by rfl) ?_ ?_; rotate_left; (focus (intro V hV; (try dsimp only at hV); (go_simp <;> with_reducible rfl))); (try simp only [Act.put, List.setIfInBounds_toArray, List.set_cons_zero, List.set_cons_succ]))
    | (refine treeSkip (by rfl) (by rfl) ?_; (try simp only [Act.put, List.setIfInBounds_toArray, List.set_cons_zero, List.set_cons_succ])))
  refine treeDone ?_
  refine NoPanic.normal ?_
  have hop5 := hop.ext hEf
  obtain ⟨pA, pc, rfl, hpl1, hpl2⟩ := hop5.shape
  obtain ⟨fA, fc, rfl, hfl1, hfl2⟩ := hof.shape
  unfold maxLen at hpl2 hfl2
  rw [hferr]
  have hX5 := hX3'.trans hY5
  have c5 := HK.out _ hX5
  have kv5 := HV.out _ hY5
  have cm5 : w5.cell? ⟨w.heap.size + 1, 10, none⟩ = some (.int .u8 code) := heap_cells (HM.out _ hX5) 10
  clear cm5
  go_wp2_with fail
  refine (HE.out _ hY5).mono ?_; rintro e w6 ⟨dv, rfl, ⟨dA, dc, rfl, hod⟩, hE6⟩
  have hY6 := hY5.trans hE6
  have hY6' : Ext Y (w6.alloc (.cells #[S s0.name, .int .u16 s0.typ, .int .u16 s0.cls, .int .u32 s0.ttl, .slice dA s0.data.length dc] 55)) := hY6.alloc _
  have kv6 := HV.out _ hY6'
  have cm6 : (w6.alloc (.cells #[S s0.name, .int .u16 s0.typ, .int .u16 s0.cls, .int .u32 s0.ttl, .slice dA s0.data.length dc] 55)).cell? ⟨w.heap.size + 1, 10, none⟩ = some (.int .u8 code) := heap_cells (HM.out _ (hX3'.trans hY6')) 10
  clear c5 kv5
  have g1 : ((R.code : Int) != code) = false := by rw [VPh.out.code]; simp
  have g1' : decide ((R.code : Int) = code) = true := by rw [VPh.out.code]; simp
  have g2 := G2.out
  have g3 := G3.out
  have g4 := VPh.out.one
  clear g1'
  go_upto_region 8 with fail
  obtain ⟨Z, hZ⟩ : ∃ Z, Z = (w6.alloc (.cells #[S s0.name, .int .u16 s0.typ, .int .u16 s0.cls, .int .u32 s0.ttl, .slice dA s0.data.length dc] 55)) := ⟨_, rfl⟩
  rw [← hZ] at kv6 cm6 hY6'
  rw [← hZ]
  have HZ := Lib.hid hZ
  clear hZ
  go_cut [108] (fun s108 wx => s108 = .bool false ∧ Z = wx)
  case first =>
    as_aux_lemma =>
      have q2 : wrap64 ((Fo.path.length : Int) + (Fo.fin.length : Int)) = (R.sets.length : Int) := (IntWalk.wrap64_in _ ⟨by omega, by omega⟩).trans (by omega)
      have hb1 := Hb.out.trans G3.out
      clear g2 g3 g4
      cases b
      · have q3 : ((Fo.fin.length : Int) == 1) = false := by
          have h1 := of_decide_eq_false hb1.symm
          rw [beq_eq_false_iff_ne]; omega
        have q6 : ¬ ((1 : Int) < (R.soa.length : Int)) := by have := VPh.out.one; omega
        clear hb1
        go_wp2_with fail
        go_meet
        exact ⟨rfl, rfl⟩
      · have q3 : ((Fo.fin.length : Int) == 1) = true := by
          have h1 := of_decide_eq_true hb1.symm
          rw [beq_iff_eq]; omega
        obtain ⟨q4, q5⟩ := VPh.out.soaN Hb.out.symm
        have q6 : ¬ ((1 : Int) < (R.soa.length : Int)) := by rw [q4]; decide
        have q8 : ¬ (0 < R.soa.length) := by rw [q4]; decide
        have q7 : ((R.code : Int) == 3) = false := by rw [beq_eq_false_iff_ne]; exact q5
        clear hb1 q4
        go_wp2_with fail
        go_meet
        exact ⟨rfl, rfl⟩
  case rest =>
  obtain ⟨rfl, rfl⟩ := hcut
  go_upto_region 10 with fail
  obtain ⟨j0, hj0, hy0, hy1, hy2⟩ := info_parts info_set
  have h6Z : Ext w6 Z := by rw [HZ.out]; exact (Ext.refl _).alloc _
  obtain ⟨ps, A1, c1, e1, hpm, hpl, hpo, hpd⟩ := (hop5.ext (hE6.trans h6Z)).opened
  obtain ⟨fs, A2, c2, e2, hfm, hfl, hfo, hfd⟩ := (hof.ext (hE6.trans h6Z)).opened
  obtain ⟨os, A3, c3, e3, hom, hol, hoo, hod'⟩ := (Ho.out Z hY6').opened
  injection e1 with e11 _ e12
  injection e2 with e21 _ e22
  injection e3 with e31 _ e32
  subst e11 e12 e21 e22 e31 e32
  have n1 := hFine.sn
  have n2 := hFine.on
  have HS10 := Lib.hid (show ∀ V, Ext Y V → V.cell? ⟨w3.heap.size, 2, none⟩ = some (.slice oA R.soa.length oc) from fun V hV => HV.out V hV 2)
  refine wp_region_noPanic ?_
  refine wp_region_tree (S := (fun V => V.cell? ⟨w3.heap.size, 2, none⟩ = some (.slice oA R.soa.length oc))) (.take 1 (.take 3 (.take 5 (.take 6 (.run 0 (.run 2 (.run 4 (.run 7 (.take 8 (.done)))))))))) (by kernel_rfl) (by kernel_rfl) (fun _ _ _ _ _ h => h) (HS10.out _ hY6'.drew) ?_
  repeat ((with_reducible refine treeIs ?_); first
    | (refine treeTake (v := ?_) (by rfl) (by rfl) ?_ ?_; rotate_left; (focus (intro V hV; (try dsimp only at hV); (go_simp <;> with_reducible rfl))); (try simp only [Act.put, List.setIfInBounds_toArray, List.set_cons_zero, List.set_cons_succ]))
    | (refine treeSkip (by rfl) (by rfl) ?_; (try simp only [Act.put, List.setIfInBounds_toArray, List.set_cons_zero, List.set_cons_succ])))
  refine treeRun (by rfl) (fun K hK => ?_)
  go_simp
  refine hK.out _ _ ?_ ?_
  · exact HS10.out _ (hY6'.drew.alloc _)
  clear hK K
  (try simp only [Act.put, List.setIfInBounds_toArray, List.set_cons_zero, List.set_cons_succ])
  refine treeRun (by rfl) (fun K hK => ?_)
  refine step_app (Z.drew.alloc (.cells #[] 55)) rfl (.tmp 109) (.tmp 110) _ rfl Z.heap.size 55 j0 _ 5 48 Tryz.underlying36 hj0 hy0 hy1 hy2 rfl (by omega) (some ⟨Z.heap.size, 0, none⟩) 0 0 [] rfl (own_zero Z 55 5) _ pA Fo.path.length pc (ps.flatMap setCells) rfl (hpo.rd.ext ((Ext.refl Z).drew.alloc _)) (set_oneL hpd) (by omega) (by omega) (by simp) ?_
  intro A7 c7 w7 hown7 hg7 hb7 hat7
  rw [Nat.zero_add, List.nil_append] at hown7
  rw [Nat.zero_add]
  have hE7 : Ext Z w7 := ((Ext.refl Z).drew.alloc _).then hb7 (Nat.le_refl _)
  refine hK.out _ _ ?_ ?_
  · exact HS10.out _ (hY6'.trans hE7)
  clear hK K
  (try simp only [Act.put, List.setIfInBounds_toArray, List.set_cons_zero, List.set_cons_succ])
  refine treeRun (by rfl) (fun K hK => ?_)
  refine step_app w7 rfl (.tmp 111) (.tmp 112) _ rfl Z.heap.size 55 j0 _ 5 48 Tryz.underlying36 hj0 hy0 hy1 hy2 rfl (by omega) A7 Fo.path.length c7 (ps.flatMap setCells) rfl hown7 _ fA Fo.fin.length fc (fs.flatMap setCells) rfl (hfo.rd.ext hE7) (set_oneL hfd) (by omega) (by omega) hE7.size ?_
  intro A8 c8 w8 hown8 hg8 hb8 hat8
  have hE8 : Ext Z w8 := hE7.then hb8 (Nat.le_refl _)
  refine hK.out _ _ ?_ ?_
  · exact HS10.out _ (hY6'.trans hE8)
  clear hK K
  (try simp only [Act.put, List.setIfInBounds_toArray, List.set_cons_zero, List.set_cons_succ])
  refine treeRun (by rfl) (fun K hK => ?_)
  refine step_app w8 rfl (.tmp 113) (.tmp 115) _ rfl Z.heap.size 55 j0 _ 5 48 Tryz.underlying36 hj0 hy0 hy1 hy2 rfl (by omega) A8 (Fo.path.length + Fo.fin.length) c8 (ps.flatMap setCells ++ fs.flatMap setCells) rfl hown8 _ oA R.soa.length oc (os.flatMap setCells) rfl (hoo.rd.ext hE8) (set_oneL hod') (by omega) (by omega) hE8.size ?_
  intro A9 c9 w9 hown9 hg9 hb9 hat9
  have hE9 : Ext Z w9 := hE8.then hb9 (Nat.le_refl _)
  refine hK.out _ _ ?_ ?_
  · exact HS10.out _ (hY6'.trans hE9)
  clear hK K
  (try simp only [Act.put, List.setIfInBounds_toArray, List.set_cons_zero, List.set_cons_succ])
  repeat ((with_reducible refine treeIs ?_); first
    | (refine treeTake (v := ?_) (by rfl) (by rfl) ?_ ?_; rotate_left; (focus (intro V hV; (try dsimp only at hV); (go_simp <;> with_reducible rfl))); (try simp only [Act.put, List.setIfInBounds_toArray, List.set_cons_zero, List.set_cons_succ]))
    | (refine treeSkip (by rfl) (by rfl) ?_; (try simp only [Act.put, List.setIfInBounds_toArray, List.set_cons_zero, List.set_cons_succ])))
  refine treeDone ?_
  refine NoPanic.normal ?_
  clear hg7 hb7 hat7 hg8 hb8 hat8 hg9 hb9 hat9 hown7 hown8 hE7 hE8
  obtain ⟨Z9, hZ9⟩ : ∃ Z9, Z9 = w9 := ⟨_, rfl⟩
  rw [← hZ9] at hown9 hE9
  rw [← hZ9]
  clear hZ9
  have hY9 := hY6'.trans hE9
  obtain ⟨ss, A4, c4, e4, hsm, hsl, hso, hsd⟩ := (Hs.out Z9 hY9).opened
  injection e4 with e41 _ e42
  subst e41 e42
  go_upto_region 11 with fail
  have HS11 := Lib.hid (show ∀ V, Ext Y V → V.cell? ⟨w3.heap.size, 1, none⟩ = some (.slice sA R.sets.length sc) ∧ V.cell? ⟨w3.heap.size, 2, none⟩ = some (.slice oA R.soa.length oc) from fun V hV => ⟨HV.out V hV 1, HV.out V hV 2⟩)
  refine wp_region_noPanic ?_
  refine wp_region_tree (S := (fun V => V.cell? ⟨w3.heap.size, 1, none⟩ = some (.slice sA R.sets.length sc) ∧ V.cell? ⟨w3.heap.size, 2, none⟩ = some (.slice oA R.soa.length oc))) (.take 1 (.take 2 (.take 4 (.take 5 (.run 0 (.run 3 (.run 6 (.take 7 (.done))))))))) (by kernel_rfl) (by kernel_rfl) (fun _ _ _ _ _ h => h) (HS11.out _ hY9.drew) ?_
  repeat ((with_reducible refine treeIs ?_); first
    | (refine treeTake (v := ?_) (by rfl) (by rfl) ?_ ?_; rotate_left; (focus (intro V hV; (try dsimp only at hV); (go_simp <;> with_reducible rfl))); (try simp only [Act.put, List.setIfInBounds_toArray, List.set_cons_zero, List.set_cons_succ]))
    | (refine treeSkip (by rfl) (by rfl) ?_; (try simp only [Act.put, List.setIfInBounds_toArray, List.set_cons_zero, List.set_cons_succ])))
  refine treeRun (by rfl) (fun K hK => ?_)
  go_simp
  refine hK.out _ _ ?_ ?_
  · exact HS11.out _ (hY9.drew.alloc _)
  clear hK K
  (try simp only [Act.put, List.setIfInBounds_toArray, List.set_cons_zero, List.set_cons_succ])
  refine treeRun (by rfl) (fun K hK => ?_)
  refine step_app (Z9.drew.alloc (.cells #[] 55)) rfl (.tmp 117) (.tmp 119) _ rfl Z9.heap.size 55 j0 _ 5 48 Tryz.underlying36 hj0 hy0 hy1 hy2 rfl (by omega) (some ⟨Z9.heap.size, 0, none⟩) 0 0 [] rfl (own_zero Z9 55 5) _ sA R.sets.length sc (ss.flatMap setCells) rfl (hso.rd.ext ((Ext.refl Z9).drew.alloc _)) (set_oneL hsd) (by omega) (by omega) (by simp) ?_
  intro A10 c10 w10 hown10 hg10 hb10 hat10
  rw [Nat.zero_add, List.nil_append] at hown10
  rw [Nat.zero_add]
  have hE10 : Ext Z9 w10 := ((Ext.refl Z9).drew.alloc _).then hb10 (Nat.le_refl _)
  refine hK.out _ _ ?_ ?_
  · exact HS11.out _ (hY9.trans hE10)
  clear hK K
  (try simp only [Act.put, List.setIfInBounds_toArray, List.set_cons_zero, List.set_cons_succ])
  refine treeRun (by rfl) (fun K hK => ?_)
  refine step_app w10 rfl (.tmp 120) (.tmp 122) _ rfl Z9.heap.size 55 j0 _ 5 48 Tryz.underlying36 hj0 hy0 hy1 hy2 rfl (by omega) A10 R.sets.length c10 (ss.flatMap setCells) rfl hown10 _ oA R.soa.length oc (os.flatMap setCells) rfl (hoo.rd.ext (hE9.trans hE10)) (set_oneL hod') (by omega) (by omega) hE10.size ?_
  intro A11 c11 w11 hown11 hg11 hb11 hat11
  have hE11 : Ext Z9 w11 := hE10.then hb11 (Nat.le_refl _)
  refine hK.out _ _ ?_ ?_
  · exact HS11.out _ (hY9.trans hE11)
  clear hK K
  (try simp only [Act.put, List.setIfInBounds_toArray, List.set_cons_zero, List.set_cons_succ])
  repeat ((with_reducible refine treeIs ?_); first
    | (refine treeTake (v := ?_) (by rfl) (by rfl) ?_ ?_; rotate_left; (focus (intro V hV; (try dsimp only at hV); (go_simp <;> with_reducible rfl))); (try simp only [Act.put, List.setIfInBounds_toArray, List.set_cons_zero, List.set_cons_succ]))
    | (refine treeSkip (by rfl) (by rfl) ?_; (try simp only [Act.put, List.setIfInBounds_toArray, List.set_cons_zero, List.set_cons_succ])))
  refine treeDone ?_
  refine NoPanic.normal ?_
  clear hg10 hb10 hat10 hg11 hb11 hat11 hown10 hE10
  obtain ⟨Z11, hZ11⟩ : ∃ Z11, Z11 = w11 := ⟨_, rfl⟩
  rw [← hZ11] at hown11 hE11
  rw [← hZ11]
  clear hZ11
  have hY11 := hY9.trans hE11
  go_upto_region 12 with fail
  have k0 : (Z11.alloc (.cells #[.int .u16 0, .bool false, .int .u8 0, .bool false, .bool false, .bool false, .bool false, .bool false, .bool false, .bool false, .int .u8 0, .slice none 0 0, .slice none 0 0, .slice none 0 0, .slice none 0 0, .bool false, .int .u16 0, .int .u8 0, .int .u8 0, .int .u16 0, .slice none 0 0] 33)).cell? ⟨w3.heap.size, 0, none⟩ = some (.int .u8 R.code) := HV.out _ (hY11.alloc _) 0
  go_upto_region 14 with fail
  obtain ⟨W, hW⟩ : ∃ W, W = Z11.alloc (.cells #[.int .u16 0, .bool false, .int .u8 0, .bool false, .bool false, .bool false, .bool false, .bool false, .bool false, .bool false, .int .u8 R.code, .slice none 0 0, .slice none 0 0, .slice none 0 0, .slice none 0 0, .bool false, .int .u16 0, .int .u8 0, .int .u8 0, .int .u16 0, .slice none 0 0] 33) := ⟨_, rfl⟩
  have hZW : Ext Z11 W := by rw [hW]; exact (Ext.refl _).alloc _
  have hmW : W.heap[Z11.heap.size]? = some (.cells #[.int .u16 0, .bool false, .int .u8 0, .bool false, .bool false, .bool false, .bool false, .bool false, .bool false, .bool false, .int .u8 R.code, .slice none 0 0, .slice none 0 0, .slice none 0 0, .slice none 0 0, .bool false, .int .u16 0, .int .u8 0, .int .u8 0, .int .u16 0, .slice none 0 0] 33) := by rw [hW]; exact heap_new_at Z11 (.cells #[.int .u16 0, .bool false, .int .u8 0, .bool false, .bool false, .bool false, .bool false, .bool false, .bool false, .bool false, .int .u8 R.code, .slice none 0 0, .slice none 0 0, .slice none 0 0, .slice none 0 0, .bool false, .int .u16 0, .int .u8 0, .int .u8 0, .int .u16 0, .slice none 0 0] 33) _ rfl
  rw [← hW]
  clear hW k0
  have HQS := Lib.hid (show ∀ V, Ext Z9 V → ∀ p ∈ ps ++ fs ++ os, Strs V 0 p.2 p.1.data from fun V hV p hp => by
    rcases List.mem_append.1 hp with hp | hp
    · rcases List.mem_append.1 hp with hp | hp
      · exact ((hpd p hp).strs.lower (Nat.zero_le _)).ext (hE9.trans hV)
      · exact ((hfd p hp).strs.lower (Nat.zero_le _)).ext (hE9.trans hV)
    · exact ((hod' p hp).strs.lower (Nat.zero_le _)).ext (hE9.trans hV))
  have HRS := Lib.hid (show ∀ V, Ext Z9 V → ∀ p ∈ ss ++ os, Strs V 0 p.2 p.1.data from fun V hV p hp => by
    rcases List.mem_append.1 hp with hp | hp
    · exact ((hsd p hp).strs.lower (Nat.zero_le _)).ext hV
    · exact ((hod' p hp).strs.lower (Nat.zero_le _)).ext (hE9.trans hV))
  have HRow := Lib.hid (fun k (hk : k < R.sets.length + R.soa.length) => said_rows (ps := ps) (fs := fs) hsm hom (by rw [hpm, hfm]; exact G5.out) VPh.out.soa0 (fun s hs => (hFine.sets s hs).1) (fun s hs => (hFine.soa s hs).1) k hk)
  have HO9 := Lib.hid (show Own Z9 Z.heap.size 55 5 A9 (R.sets.length + R.soa.length) c9 ((ps ++ fs ++ os).flatMap setCells) from by rw [← G2.out, List.flatMap_append, List.flatMap_append]; exact hown9)
  have HO11 := Lib.hid (show Own Z11 Z9.heap.size 55 5 A11 (R.sets.length + R.soa.length) c11 ((ss ++ os).flatMap setCells) from by rw [List.flatMap_append]; exact hown11)
  have HTk := Lib.hid (And.intro (fun j => take_bd (fun s hs => (hFine.sets s hs).1) hFine.sn j) (fun j => take_bd (fun s hs => (hFine.soa s hs).1) (by omega) j))
  have HBk := Lib.hid (And.intro (back_bd (fun s hs => (hFine.sets s hs).1) hFine.sn) (back_bd (fun s hs => (hFine.soa s hs).1) (by omega)))
  have HSl := Lib.hid (show Own Z9 _ 55 5 sA R.sets.length sc (ss.flatMap setCells) from hso)
  try rw [G2.out]
  obtain ⟨N, hN⟩ : ∃ N, N = R.sets.length + R.soa.length := ⟨_, rfl⟩
  rw [← hN] at HO9 HO11 HRow
  rw [← hN]
  have hN10 : N ≤ 10 := by have h1 := hFine.sn; have h2 := hFine.on; omega
  have HN := Lib.hid hN
  obtain ⟨i0, hi0, hz0, hz1, hz2⟩ := info_parts info_rec8
  clear hN hown9 hown11 hpd hfd hod' hsd
  go_wp2_with fail
  go_loopw [4, 17, 18] (fun _ i _ wr => ∃ k : Nat, k ≤ N ∧ i = .int .i64 k ∧ BkInv Z11 R.code ((R.sets.take k).flatMap recsOf) ((R.soa.take (k - R.sets.length)).flatMap recsOf) wr) (fun _ i _ _ => N - (intOf i).toNat)
  case atStart => exact ⟨0, Nat.zero_le _, rfl, by rw [List.take_zero, Nat.zero_sub, List.take_zero]; exact ⟨none, 0, none, 0, hmW, Own.nil _ _ _ _, Own.nil _ _ _ _, .inl rfl, hZW⟩⟩
  case round =>
    obtain ⟨k, hk, rfl, hinv⟩ := hrel
    obtain ⟨wo, rfl⟩ : ∃ wo : World, wo = wr := ⟨_, rfl⟩
    obtain ⟨A, c, B, d, hm, hoA, hoB, hap, hE⟩ := hinv
    have hmz : Z11.heap.size < wo.heap.size := (Array.getElem?_eq_some_iff.1 hm).1
    by_cases hlt : k < N
    · obtain ⟨s2, v2, v1, hq, hr, hdn, hs1, hs2⟩ := HRow.out k (by omega)
      obtain ⟨g9, rfl, _, hg9, _, gc9⟩ := HO9.out.addr (by omega)
      obtain ⟨g11, rfl, _, hg11, _, gc11⟩ := HO11.out.addr (by omega)
      have HT2 := Lib.hid (fun V hV => HQS.out V hV _ (List.mem_of_getElem? hq))
      have HT1 := Lib.hid (fun V hV => HRS.out V hV _ (List.mem_of_getElem? hr))
      obtain ⟨d2, c2, e2⟩ : ∃ d2 c2, v2 = .slice d2 s2.data.length c2 := (HT2.out Z9 (Ext.refl _)).shape
      obtain ⟨d1, c1, e1⟩ : ∃ d1 c1, v1 = .slice d1 s2.data.length c1 := (HT1.out Z9 (Ext.refl _)).shape
      subst e2 e1
      have H9 := Lib.hid (show ∀ V, Ext Z9 V → V.cell? ⟨g9, k * 5, none⟩ = some (S s2.name) ∧ V.cell? ⟨g9, k * 5 + 1, none⟩ = some (.int .u16 s2.typ) ∧ V.cell? ⟨g9, k * 5 + 2, none⟩ = some (.int .u16 s2.cls) ∧ V.cell? ⟨g9, k * 5 + 3, none⟩ = some (.int .u32 s2.ttl) ∧ V.cell? ⟨g9, k * 5 + 4, none⟩ = some (.slice d2 s2.data.length c2) from fun V hV => by
        refine ⟨?_, ?_, ?_, ?_, ?_⟩
        · exact (hV.cell (p := ⟨g9, k * 5 + 0, none⟩) hg9).trans (gc9 (k * 5 + 0) _ (flat_get setCells 5 (fun _ => rfl) _ k 0 _ hq (by omega)))
        · exact (hV.cell (p := ⟨g9, k * 5 + 1, none⟩) hg9).trans (gc9 (k * 5 + 1) _ (flat_get setCells 5 (fun _ => rfl) _ k 1 _ hq (by omega)))
        · exact (hV.cell (p := ⟨g9, k * 5 + 2, none⟩) hg9).trans (gc9 (k * 5 + 2) _ (flat_get setCells 5 (fun _ => rfl) _ k 2 _ hq (by omega)))
        · exact (hV.cell (p := ⟨g9, k * 5 + 3, none⟩) hg9).trans (gc9 (k * 5 + 3) _ (flat_get setCells 5 (fun _ => rfl) _ k 3 _ hq (by omega)))
        · exact (hV.cell (p := ⟨g9, k * 5 + 4, none⟩) hg9).trans (gc9 (k * 5 + 4) _ (flat_get setCells 5 (fun _ => rfl) _ k 4 _ hq (by omega))))
      have HS22 := Lib.hid (show ∀ V, Ext Z11 V → V.cell? ⟨g11, k * 5, none⟩ = some (S s2.name) ∧ V.cell? ⟨g11, k * 5 + 1, none⟩ = some (.int .u16 s2.typ) ∧ V.cell? ⟨g11, k * 5 + 2, none⟩ = some (.int .u16 s2.cls) ∧ V.cell? ⟨g11, k * 5 + 3, none⟩ = some (.int .u32 0) ∧ V.cell? ⟨g11, k * 5 + 4, none⟩ = some (.slice d1 s2.data.length c1) from fun V hV => by
        refine ⟨?_, ?_, ?_, ?_, ?_⟩
        · exact (hV.cell (p := ⟨g11, k * 5 + 0, none⟩) hg11).trans (gc11 (k * 5 + 0) _ (flat_get setCells 5 (fun _ => rfl) _ k 0 _ hr (by omega)))
        · exact (hV.cell (p := ⟨g11, k * 5 + 1, none⟩) hg11).trans (gc11 (k * 5 + 1) _ (flat_get setCells 5 (fun _ => rfl) _ k 1 _ hr (by omega)))
        · exact (hV.cell (p := ⟨g11, k * 5 + 2, none⟩) hg11).trans (gc11 (k * 5 + 2) _ (flat_get setCells 5 (fun _ => rfl) _ k 2 _ hr (by omega)))
        · exact (hV.cell (p := ⟨g11, k * 5 + 3, none⟩) hg11).trans (gc11 (k * 5 + 3) _ (flat_get setCells 5 (fun _ => rfl) _ k 3 _ hr (by omega)))
        · exact (hV.cell (p := ⟨g11, k * 5 + 4, none⟩) hg11).trans (gc11 (k * 5 + 4) _ (flat_get setCells 5 (fun _ => rfl) _ k 4 _ hr (by omega))))
      have hki : (k : Int) < (N : Int) := by omega
      have hk0 : (0 : Int) ≤ (k : Int) := by omega
      obtain ⟨y0, y1, y2, y3, y4⟩ := H9.out wo (hE11.trans hE)
      clear gc9 gc11 H9
      go_wp2_with fail
      obtain ⟨W2, hW2⟩ : ∃ W2, W2 = wo.alloc (.cells #[S s2.name, .int .u16 s2.typ, .int .u16 s2.cls, .int .u32 0, .slice d2 s2.data.length c2] 55) := ⟨_, rfl⟩
      rw [← hW2]
      have hEo2 : Ext wo W2 := by rw [hW2]; exact (Ext.refl _).alloc _
      have hx2 : ∀ j, W2.cell? ⟨wo.heap.size, j, none⟩ = #[S s2.name, .int .u16 s2.typ, .int .u16 s2.cls, .int .u32 0, .slice d2 s2.data.length c2][j]? := by rw [hW2]; exact (ext_new (Ext.refl _)).1
      have hz2' : wo.heap.size < W2.heap.size := by rw [hW2]; simp
      clear hW2 y0 y1 y2 y3 y4
      have HS19 := Lib.hid (show ∀ V, Ext W2 V → (V.cell? ⟨g11, k * 5, none⟩ = some (S s2.name) ∧ V.cell? ⟨g11, k * 5 + 1, none⟩ = some (.int .u16 s2.typ) ∧ V.cell? ⟨g11, k * 5 + 2, none⟩ = some (.int .u16 s2.cls) ∧ V.cell? ⟨g11, k * 5 + 3, none⟩ = some (.int .u32 0) ∧ V.cell? ⟨g11, k * 5 + 4, none⟩ = some (.slice d1 s2.data.length c1)) ∧ V.cell? ⟨wo.heap.size, 0, none⟩ = some (S s2.name) ∧ V.cell? ⟨wo.heap.size, 1, none⟩ = some (.int .u16 s2.typ) ∧ V.cell? ⟨wo.heap.size, 2, none⟩ = some (.int .u16 s2.cls) ∧ V.cell? ⟨wo.heap.size, 3, none⟩ = some (.int .u32 0) ∧ V.cell? ⟨wo.heap.size, 4, none⟩ = some (.slice d2 s2.data.length c2) from fun V hV => ⟨HS22.out V ((hE.trans hEo2).trans hV), (hV.cell (p := ⟨wo.heap.size, 0, none⟩) hz2').trans (hx2 0), (hV.cell (p := ⟨wo.heap.size, 1, none⟩) hz2').trans (hx2 1), (hV.cell (p := ⟨wo.heap.size, 2, none⟩) hz2').trans (hx2 2), (hV.cell (p := ⟨wo.heap.size, 3, none⟩) hz2').trans (hx2 3), (hV.cell (p := ⟨wo.heap.size, 4, none⟩) hz2').trans (hx2 4)⟩)
      have HSm := Lib.hid (fun V (hV : Ext W2 V) => rrset_same (ttl0 s2) (ttl0 s2) (.slice d1 s2.data.length c1) (.slice d2 s2.data.length c2) 0 0 V (HT1.out V (hE11.trans ((hE.trans hEo2).trans hV))) (HT2.out V (hE11.trans ((hE.trans hEo2).trans hV))))
      rw [decide_eq_true rfl] at HSm
      clear hx2
      go_cut [153] (fun s153 wx => s153 = .bool false ∧ Ext W2 wx)
      case first =>
        as_aux_lemma =>
          refine wp_region_noPanic ?_
          refine wp_region_tree (S := (fun V => (V.cell? ⟨g11, k * 5, none⟩ = some (S s2.name) ∧ V.cell? ⟨g11, k * 5 + 1, none⟩ = some (.int .u16 s2.typ) ∧ V.cell? ⟨g11, k * 5 + 2, none⟩ = some (.int .u16 s2.cls) ∧ V.cell? ⟨g11, k * 5 + 3, none⟩ = some (.int .u32 0) ∧ V.cell? ⟨g11, k * 5 + 4, none⟩ = some (.slice d1 s2.data.length c1)) ∧ V.cell? ⟨wo.heap.size, 0, none⟩ = some (S s2.name) ∧ V.cell? ⟨wo.heap.size, 1, none⟩ = some (.int .u16 s2.typ) ∧ V.cell? ⟨wo.heap.size, 2, none⟩ = some (.int .u16 s2.cls) ∧ V.cell? ⟨wo.heap.size, 3, none⟩ = some (.int .u32 0) ∧ V.cell? ⟨wo.heap.size, 4, none⟩ = some (.slice d2 s2.data.length c2))) (.take 0 (.take 1 (.take 2 (.take 3 (.take 4 (.take 5 (.take 6 (.take 7 (.take 8 (.take 9 (.take 10 (.take 11 (.run 12 (.take 13 (.take 14 (.done)))))))))))))))) (by kernel_rfl) (by kernel_rfl) (fun _ _ _ _ _ h => h) (HS19.out _ ((Ext.refl W2).drew)) ?_
          repeat ((with_reducible refine treeIs ?_); first
            | (refine treeTake (v := ?_) (by rfl) (by rfl) ?_ ?_; rotate_left; (focus (intro V hV; (try dsimp only at hV); (go_simp <;> with_reducible rfl))); (try simp only [Act.put, List.setIfInBounds_toArray, List.set_cons_zero, List.set_cons_succ]))
            | (refine treeSkip (by rfl) (by rfl) ?_; (try simp only [Act.put, List.setIfInBounds_toArray, List.set_cons_zero, List.set_cons_succ])))
          refine treeRun (by rfl) (fun K hK => ?_)
          go_simp
          refine (HSm.out _ ((Ext.refl W2).drew)).mono ?_; rintro e w19 ⟨rfl, hE19⟩
          have h19 : Ext W2 w19 := Ext.trans ((Ext.refl W2).drew) hE19
          refine hK.out _ _ ?_ ?_
          · exact HS19.out _ h19
          clear hK K
          (try simp only [Act.put, List.setIfInBounds_toArray, List.set_cons_zero, List.set_cons_succ])
          repeat ((with_reducible refine treeIs ?_); first
            | (refine treeTake (v := ?_) (by rfl) (by rfl) ?_ ?_; rotate_left; (focus (intro V hV; (try dsimp only at hV); (go_simp <;> with_reducible rfl))); (try simp only [Act.put, List.setIfInBounds_toArray, List.set_cons_zero, List.set_cons_succ]))
            | (refine treeSkip (by rfl) (by rfl) ?_; (try simp only [Act.put, List.setIfInBounds_toArray, List.set_cons_zero, List.set_cons_succ])))
          refine treeDone ?_
          refine NoPanic.normal ?_
          go_wp2_with fail
          go_meet
          exact ⟨rfl, h19⟩
      case rest =>
      obtain ⟨rfl, hE2c⟩ := hcut
      obtain ⟨W3, rfl⟩ : ∃ W3 : World, W3 = wc := ⟨_, rfl⟩
      have hE23 : Ext wo W3 := hEo2.trans hE2c
      have hm3 := (hE23.block _ hmz).trans hm
      have hmz3 : Z11.heap.size < W3.heap.size := Nat.lt_of_lt_of_le hmz hE23.size
      have hoA3 := hoA.ext hE23
      have hoB3 := hoB.ext hE23
      have hE3c : Ext Z11 W3 := hE.trans hE23
      have kv3 := HV.out W3 (hY11.trans hE3c)
      have HRc := Lib.hid (fun V (hV : Ext Z11 V) => rrset_records (ttl0 s2) (.slice d1 s2.data.length c1) 0 V (HT1.out V (hE11.trans hV)) (show s2.data.length ≤ 1048576 by omega))
      have hbA := HTk.out.1 k
      have hbB := HTk.out.2 (k - R.sets.length)
      have hml : (recsOf (ttl0 s2)).length ≤ 334 := by unfold recsOf; rw [List.length_map]; exact hdn
      clear HSm HS19 HT1 HT2 hq hr hm hoA hoB
      by_cases hw : k < R.sets.length
      · have HeA := Lib.hid (back_take k _ (hs1 hw))
        have HeB := Lib.hid (show (R.soa.take (k + 1 - R.sets.length)).flatMap recsOf = (R.soa.take (k - R.sets.length)).flatMap recsOf by rw [Nat.sub_eq_zero_of_le (show k + 1 ≤ R.sets.length by omega), Nat.sub_eq_zero_of_le (show k ≤ R.sets.length by omega)])
        have hwi : (k : Int) < (R.sets.length : Int) := by omega
        clear hs1 hs2
        generalize (R.sets.take k).flatMap recsOf = La at *
        generalize (R.soa.take (k - R.sets.length)).flatMap recsOf = Lb at *
        have cA : W3.cell? ⟨Z11.heap.size, 12, none⟩ = some (.slice A La.length c) := heap_cells hm3 12
        go_wp2_with fail
        refine wp_region_noPanic ?_
        refine wp_region_tree (S := (fun V => V.cell? ⟨g11, k * 5, none⟩ = some (S s2.name) ∧ V.cell? ⟨g11, k * 5 + 1, none⟩ = some (.int .u16 s2.typ) ∧ V.cell? ⟨g11, k * 5 + 2, none⟩ = some (.int .u16 s2.cls) ∧ V.cell? ⟨g11, k * 5 + 3, none⟩ = some (.int .u32 0) ∧ V.cell? ⟨g11, k * 5 + 4, none⟩ = some (.slice d1 s2.data.length c1))) (.take 0 (.take 2 (.take 3 (.take 4 (.take 5 (.run2 1 (.run 6 (.run 7 (.take 8 (.run 9 (.done))))) 6 (.run 1 (.run 7 (.take 8 (.run 9 (.done))))))))))) (by kernel_rfl) (by kernel_rfl) (fun _ _ _ _ _ h => h) (HS22.out _ (hE3c.drew)) ?_
        repeat ((with_reducible refine treeIs ?_); first
          | (refine treeTake (v := ?_) (by rfl) (by rfl) ?_ ?_; rotate_left; (focus (intro V hV; (try dsimp only at hV); (go_simp <;> with_reducible rfl))); (try simp only [Act.put, List.setIfInBounds_toArray, List.set_cons_zero, List.set_cons_succ]))
          | (refine treeSkip (by rfl) (by rfl) ?_; (try simp only [Act.put, List.setIfInBounds_toArray, List.set_cons_zero, List.set_cons_succ])))
        refine treeRun2 ?_ ?_
        · refine treeRun (by rfl) (fun K hK => ?_)
          go_simp
          refine hK.out _ _ ?_ ?_
          · exact HS22.out _ (hE3c.drew)
          clear hK K
          (try simp only [Act.put, List.setIfInBounds_toArray, List.set_cons_zero, List.set_cons_succ])
          refine treeRun (by rfl) (fun K hK => ?_)
          go_simp
          refine (HRc.out _ (hE3c.drew)).mono ?_; rintro e w30 ⟨v30, rfl, ⟨A30, c30, rfl, hown30⟩, hE30⟩
          have h30 : Ext W3 w30 := Ext.trans ((Ext.refl W3).drew) hE30
          have hm30 := (h30.block _ hmz3).trans hm3
          have k30 : w30.cell? ⟨Z11.heap.size, 12, none⟩ = some (.slice A La.length c) := heap_cells hm30 12
          refine hK.out _ _ ?_ ?_
          · exact HS22.out _ (hE3c.trans h30)
          clear hK K
          (try simp only [Act.put, List.setIfInBounds_toArray, List.set_cons_zero, List.set_cons_succ])
          refine treeRun (by rfl) (fun K hK => ?_)
          refine step_app w30 rfl (.tmp 160) (.tmp 165) _ rfl (Z11.heap.size + 1) 48 i0 _ 5 40 Tryz.underlying28 hi0 hz0 hz1 hz2 rfl (by omega) A La.length c (La.flatMap recCells) rfl (hoA3.ext h30) _ A30 (recsOf (ttl0 s2)).length c30 ((recsOf (ttl0 s2)).flatMap recCells) rfl hown30.rd (recs_one8 _) (by omega) (by omega) (Nat.lt_of_lt_of_le hmz3 h30.size) ?_
          intro A5 c5 w5' hown5 hg5 hb5 hat5
          have h35 : Ext Z11 w5' := (hE3c.trans h30).then hb5 (Nat.le_succ _)
          have hm5 := (hb5.block Z11.heap.size (Nat.lt_succ_self _)).trans hm30
          have k5 : w5'.cell? ⟨Z11.heap.size, 12, none⟩ = some (.slice A La.length c) := heap_cells hm5 12
          have f5 : w5'.frozen? ⟨Z11.heap.size, 12, none⟩ = false := frozen_of_row w5' _ 12 _ _ hm5
          refine hK.out _ _ ?_ ?_
          · exact HS22.out _ h35
          clear hK K
          (try simp only [Act.put, List.setIfInBounds_toArray, List.set_cons_zero, List.set_cons_succ])
          repeat ((with_reducible refine treeIs ?_); first
            | (refine treeTake (v := ?_) (by rfl) (by rfl) ?_ ?_; rotate_left; (focus (intro V hV; (try dsimp only at hV); (go_simp <;> with_reducible rfl))); (try simp only [Act.put, List.setIfInBounds_toArray, List.set_cons_zero, List.set_cons_succ]))
            | (refine treeSkip (by rfl) (by rfl) ?_; (try simp only [Act.put, List.setIfInBounds_toArray, List.set_cons_zero, List.set_cons_succ])))
          refine treeRun (by rfl) (fun K hK => ?_)
          go_simp
          refine hK.out _ _ ?_ ?_
          · exact HS22.out _ (h35.setCell (Nat.le_refl _) _)
          clear hK K
          (try simp only [Act.put, List.setIfInBounds_toArray, List.set_cons_zero, List.set_cons_succ])
          refine treeDone ?_
          refine NoPanic.normal ?_
          go_wp2_with fail
          go_roundw
          case rel =>
            refine ⟨k + 1, by omega, by go_num, ?_⟩
            rw [HeA.out, HeB.out]
            exact ⟨A5, c5, B, d, by rw [List.length_append]; exact heap_set hm5 12 _, by rw [List.length_append, List.flatMap_append]; exact hown5.set_other (Nat.lt_succ_self _) _, ((hoB3.ext h30).kept hg5 hap).set_other (Nat.lt_succ_self _) _, apart_step hap (fun g hg => ((hoB3.ext h30).blk g hg).2) (by rw [List.length_append]; exact hat5), h35.setCell (Nat.le_refl _) _⟩
          case measure => simp [intOf]; omega
        · refine treeRun (by rfl) (fun K hK => ?_)
          go_simp
          refine (HRc.out _ (hE3c.drew)).mono ?_; rintro e w30 ⟨v30, rfl, ⟨A30, c30, rfl, hown30⟩, hE30⟩
          have h30 : Ext W3 w30 := Ext.trans ((Ext.refl W3).drew) hE30
          have hm30 := (h30.block _ hmz3).trans hm3
          have k30 : w30.cell? ⟨Z11.heap.size, 12, none⟩ = some (.slice A La.length c) := heap_cells hm30 12
          refine hK.out _ _ ?_ ?_
          · exact HS22.out _ (hE3c.trans h30)
          clear hK K
          (try simp only [Act.put, List.setIfInBounds_toArray, List.set_cons_zero, List.set_cons_succ])
          refine treeRun (by rfl) (fun K hK => ?_)
          go_simp
          refine hK.out _ _ ?_ ?_
          · exact HS22.out _ (hE3c.trans h30)
          clear hK K
          (try simp only [Act.put, List.setIfInBounds_toArray, List.set_cons_zero, List.set_cons_succ])
          refine treeRun (by rfl) (fun K hK => ?_)
          refine step_app w30 rfl (.tmp 160) (.tmp 165) _ rfl (Z11.heap.size + 1) 48 i0 _ 5 40 Tryz.underlying28 hi0 hz0 hz1 hz2 rfl (by omega) A La.length c (La.flatMap recCells) rfl (hoA3.ext h30) _ A30 (recsOf (ttl0 s2)).length c30 ((recsOf (ttl0 s2)).flatMap recCells) rfl hown30.rd (recs_one8 _) (by omega) (by omega) (Nat.lt_of_lt_of_le hmz3 h30.size) ?_
          intro A5 c5 w5' hown5 hg5 hb5 hat5
          have h35 : Ext Z11 w5' := (hE3c.trans h30).then hb5 (Nat.le_succ _)
          have hm5 := (hb5.block Z11.heap.size (Nat.lt_succ_self _)).trans hm30
          have k5 : w5'.cell? ⟨Z11.heap.size, 12, none⟩ = some (.slice A La.length c) := heap_cells hm5 12
          have f5 : w5'.frozen? ⟨Z11.heap.size, 12, none⟩ = false := frozen_of_row w5' _ 12 _ _ hm5
          refine hK.out _ _ ?_ ?_
          · exact HS22.out _ h35
          clear hK K
          (try simp only [Act.put, List.setIfInBounds_toArray, List.set_cons_zero, List.set_cons_succ])
          repeat ((with_reducible refine treeIs ?_); first
            | (refine treeTake (v := ?_) (by rfl) (by rfl) ?_ ?_; rotate_left; (focus (intro V hV; (try dsimp only at hV); (go_simp <;> with_reducible rfl))); (try simp only [Act.put, List.setIfInBounds_toArray, List.set_cons_zero, List.set_cons_succ]))
            | (refine treeSkip (by rfl) (by rfl) ?_; (try simp only [Act.put, List.setIfInBounds_toArray, List.set_cons_zero, List.set_cons_succ])))
          refine treeRun (by rfl) (fun K hK => ?_)
          go_simp
          refine hK.out _ _ ?_ ?_
          · exact HS22.out _ (h35.setCell (Nat.le_refl _) _)
          clear hK K
          (try simp only [Act.put, List.setIfInBounds_toArray, List.set_cons_zero, List.set_cons_succ])
          refine treeDone ?_
          refine NoPanic.normal ?_
          go_wp2_with fail
          go_roundw
          case rel =>
            refine ⟨k + 1, by omega, by go_num, ?_⟩
            rw [HeA.out, HeB.out]
            exact ⟨A5, c5, B, d, by rw [List.length_append]; exact heap_set hm5 12 _, by rw [List.length_append, List.flatMap_append]; exact hown5.set_other (Nat.lt_succ_self _) _, ((hoB3.ext h30).kept hg5 hap).set_other (Nat.lt_succ_self _) _, apart_step hap (fun g hg => ((hoB3.ext h30).blk g hg).2) (by rw [List.length_append]; exact hat5), h35.setCell (Nat.le_refl _) _⟩
          case measure => simp [intOf]; omega
      · have HeA := Lib.hid (show (R.sets.take (k + 1)).flatMap recsOf = (R.sets.take k).flatMap recsOf by rw [List.take_of_length_le (show R.sets.length ≤ k + 1 by omega), List.take_of_length_le (show R.sets.length ≤ k by omega)])
        have HeB := Lib.hid (show (R.soa.take (k + 1 - R.sets.length)).flatMap recsOf = (R.soa.take (k - R.sets.length)).flatMap recsOf ++ recsOf (ttl0 s2) by rw [Nat.succ_sub (show R.sets.length ≤ k by omega)]; exact back_take (k - R.sets.length) _ (hs2 (by omega)))
        have hwi : ¬ (k : Int) < (R.sets.length : Int) := by omega
        clear hs1 hs2
        generalize (R.sets.take k).flatMap recsOf = La at *
        generalize (R.soa.take (k - R.sets.length)).flatMap recsOf = Lb at *
        have cB : W3.cell? ⟨Z11.heap.size, 13, none⟩ = some (.slice B Lb.length d) := heap_cells hm3 13
        go_wp2_with fail
        refine wp_region_noPanic ?_
        refine wp_region_tree (S := (fun V => V.cell? ⟨g11, k * 5, none⟩ = some (S s2.name) ∧ V.cell? ⟨g11, k * 5 + 1, none⟩ = some (.int .u16 s2.typ) ∧ V.cell? ⟨g11, k * 5 + 2, none⟩ = some (.int .u16 s2.cls) ∧ V.cell? ⟨g11, k * 5 + 3, none⟩ = some (.int .u32 0) ∧ V.cell? ⟨g11, k * 5 + 4, none⟩ = some (.slice d1 s2.data.length c1))) (.take 0 (.take 2 (.take 3 (.take 4 (.take 5 (.run2 1 (.run 6 (.run 7 (.take 8 (.run 9 (.done))))) 6 (.run 1 (.run 7 (.take 8 (.run 9 (.done))))))))))) (by kernel_rfl) (by kernel_rfl) (fun _ _ _ _ _ h => h) (HS22.out _ (hE3c.drew)) ?_
        repeat ((with_reducible refine treeIs ?_); first
          | (refine treeTake (v := ?_) (by rfl) (by rfl) ?_ ?_; rotate_left; (focus (intro V hV; (try dsimp only at hV); (go_simp <;> with_reducible rfl))); (try simp only [Act.put, List.setIfInBounds_toArray, List.set_cons_zero, List.set_cons_succ]))
          | (refine treeSkip (by rfl) (by rfl) ?_; (try simp only [Act.put, List.setIfInBounds_toArray, List.set_cons_zero, List.set_cons_succ])))
        refine treeRun2 ?_ ?_
        · refine treeRun (by rfl) (fun K hK => ?_)
          go_simp
          refine hK.out _ _ ?_ ?_
          · exact HS22.out _ (hE3c.drew)
          clear hK K
          (try simp only [Act.put, List.setIfInBounds_toArray, List.set_cons_zero, List.set_cons_succ])
          refine treeRun (by rfl) (fun K hK => ?_)
          go_simp
          refine (HRc.out _ (hE3c.drew)).mono ?_; rintro e w30 ⟨v30, rfl, ⟨A30, c30, rfl, hown30⟩, hE30⟩
          have h30 : Ext W3 w30 := Ext.trans ((Ext.refl W3).drew) hE30
          have hm30 := (h30.block _ hmz3).trans hm3
          have k30 : w30.cell? ⟨Z11.heap.size, 13, none⟩ = some (.slice B Lb.length d) := heap_cells hm30 13
          refine hK.out _ _ ?_ ?_
          · exact HS22.out _ (hE3c.trans h30)
          clear hK K
          (try simp only [Act.put, List.setIfInBounds_toArray, List.set_cons_zero, List.set_cons_succ])
          refine treeRun (by rfl) (fun K hK => ?_)
          refine step_app w30 rfl (.tmp 169) (.tmp 174) _ rfl (Z11.heap.size + 1) 48 i0 _ 5 40 Tryz.underlying28 hi0 hz0 hz1 hz2 rfl (by omega) B Lb.length d (Lb.flatMap recCells) rfl (hoB3.ext h30) _ A30 (recsOf (ttl0 s2)).length c30 ((recsOf (ttl0 s2)).flatMap recCells) rfl hown30.rd (recs_one8 _) (by omega) (by omega) (Nat.lt_of_lt_of_le hmz3 h30.size) ?_
          intro A5 c5 w5' hown5 hg5 hb5 hat5
          have h35 : Ext Z11 w5' := (hE3c.trans h30).then hb5 (Nat.le_succ _)
          have hm5 := (hb5.block Z11.heap.size (Nat.lt_succ_self _)).trans hm30
          have k5 : w5'.cell? ⟨Z11.heap.size, 13, none⟩ = some (.slice B Lb.length d) := heap_cells hm5 13
          have f5 : w5'.frozen? ⟨Z11.heap.size, 13, none⟩ = false := frozen_of_row w5' _ 13 _ _ hm5
          refine hK.out _ _ ?_ ?_
          · exact HS22.out _ h35
          clear hK K
          (try simp only [Act.put, List.setIfInBounds_toArray, List.set_cons_zero, List.set_cons_succ])
          repeat ((with_reducible refine treeIs ?_); first
            | (refine treeTake (v := ?_) (by rfl) (by rfl) ?_ ?_; rotate_left; (focus (intro V hV; (try dsimp only at hV); (go_simp <;> with_reducible rfl))); (try simp only [Act.put, List.setIfInBounds_toArray, List.set_cons_zero, List.set_cons_succ]))
            | (refine treeSkip (by rfl) (by rfl) ?_; (try simp only [Act.put, List.setIfInBounds_toArray, List.set_cons_zero, List.set_cons_succ])))
          refine treeRun (by rfl) (fun K hK => ?_)
          go_simp
          refine hK.out _ _ ?_ ?_
          · exact HS22.out _ (h35.setCell (Nat.le_refl _) _)
          clear hK K
          (try simp only [Act.put, List.setIfInBounds_toArray, List.set_cons_zero, List.set_cons_succ])
          refine treeDone ?_
          refine NoPanic.normal ?_
          go_wp2_with fail
          go_roundw
          case rel =>
            refine ⟨k + 1, by omega, by go_num, ?_⟩
            rw [HeA.out, HeB.out]
            exact ⟨A, c, A5, c5, by rw [List.length_append]; exact heap_set hm5 13 _, ((hoA3.ext h30).kept hg5 (apart_symm hap)).set_other (Nat.lt_succ_self _) _, by rw [List.length_append, List.flatMap_append]; exact hown5.set_other (Nat.lt_succ_self _) _, apart_symm (apart_step (apart_symm hap) (fun g hg => ((hoA3.ext h30).blk g hg).2) (by rw [List.length_append]; exact hat5)), h35.setCell (Nat.le_refl _) _⟩
          case measure => simp [intOf]; omega
        · refine treeRun (by rfl) (fun K hK => ?_)
          go_simp
          refine (HRc.out _ (hE3c.drew)).mono ?_; rintro e w30 ⟨v30, rfl, ⟨A30, c30, rfl, hown30⟩, hE30⟩
          have h30 : Ext W3 w30 := Ext.trans ((Ext.refl W3).drew) hE30
          have hm30 := (h30.block _ hmz3).trans hm3
          have k30 : w30.cell? ⟨Z11.heap.size, 13, none⟩ = some (.slice B Lb.length d) := heap_cells hm30 13
          refine hK.out _ _ ?_ ?_
          · exact HS22.out _ (hE3c.trans h30)
          clear hK K
          (try simp only [Act.put, List.setIfInBounds_toArray, List.set_cons_zero, List.set_cons_succ])
          refine treeRun (by rfl) (fun K hK => ?_)
          go_simp
          refine hK.out _ _ ?_ ?_
          · exact HS22.out _ (hE3c.trans h30)
          clear hK K
          (try simp only [Act.put, List.setIfInBounds_toArray, List.set_cons_zero, List.set_cons_succ])
          refine treeRun (by rfl) (fun K hK => ?_)
          refine step_app w30 rfl (.tmp 169) (.tmp 174) _ rfl (Z11.heap.size + 1) 48 i0 _ 5 40 Tryz.underlying28 hi0 hz0 hz1 hz2 rfl (by omega) B Lb.length d (Lb.flatMap recCells) rfl (hoB3.ext h30) _ A30 (recsOf (ttl0 s2)).length c30 ((recsOf (ttl0 s2)).flatMap recCells) rfl hown30.rd (recs_one8 _) (by omega) (by omega) (Nat.lt_of_lt_of_le hmz3 h30.size) ?_
          intro A5 c5 w5' hown5 hg5 hb5 hat5
          have h35 : Ext Z11 w5' := (hE3c.trans h30).then hb5 (Nat.le_succ _)
          have hm5 := (hb5.block Z11.heap.size (Nat.lt_succ_self _)).trans hm30
          have k5 : w5'.cell? ⟨Z11.heap.size, 13, none⟩ = some (.slice B Lb.length d) := heap_cells hm5 13
          have f5 : w5'.frozen? ⟨Z11.heap.size, 13, none⟩ = false := frozen_of_row w5' _ 13 _ _ hm5
          refine hK.out _ _ ?_ ?_
          · exact HS22.out _ h35
          clear hK K
          (try simp only [Act.put, List.setIfInBounds_toArray, List.set_cons_zero, List.set_cons_succ])
          repeat ((with_reducible refine treeIs ?_); first
            | (refine treeTake (v := ?_) (by rfl) (by rfl) ?_ ?_; rotate_left; (focus (intro V hV; (try dsimp only at hV); (go_simp <;> with_reducible rfl))); (try simp only [Act.put, List.setIfInBounds_toArray, List.set_cons_zero, List.set_cons_succ]))
            | (refine treeSkip (by rfl) (by rfl) ?_; (try simp only [Act.put, List.setIfInBounds_toArray, List.set_cons_zero, List.set_cons_succ])))
          refine treeRun (by rfl) (fun K hK => ?_)
          go_simp
          refine hK.out _ _ ?_ ?_
          · exact HS22.out _ (h35.setCell (Nat.le_refl _) _)
          clear hK K
          (try simp only [Act.put, List.setIfInBounds_toArray, List.set_cons_zero, List.set_cons_succ])
          refine treeDone ?_
          refine NoPanic.normal ?_
          go_wp2_with fail
          go_roundw
          case rel =>
            refine ⟨k + 1, by omega, by go_num, ?_⟩
            rw [HeA.out, HeB.out]
            exact ⟨A, c, A5, c5, by rw [List.length_append]; exact heap_set hm5 13 _, ((hoA3.ext h30).kept hg5 (apart_symm hap)).set_other (Nat.lt_succ_self _) _, by rw [List.length_append, List.flatMap_append]; exact hown5.set_other (Nat.lt_succ_self _) _, apart_symm (apart_step (apart_symm hap) (fun g hg => ((hoA3.ext h30).blk g hg).2) (by rw [List.length_append]; exact hat5)), h35.setCell (Nat.le_refl _) _⟩
          case measure => simp [intOf]; omega
    · obtain rfl : k = N := by omega
      have eA : (R.sets.take k).flatMap recsOf = R.sets.flatMap recsOf := by rw [List.take_of_length_le (by have := HN.out; omega)]
      have eB : (R.soa.take (k - R.sets.length)).flatMap recsOf = R.soa.flatMap recsOf := by rw [List.take_of_length_le (by have := HN.out; omega)]
      rw [eA] at hm hoA hap
      rw [eB] at hm hoB hap
      clear eA eB hap
      have hwE : Ext w wo := hwX.trans (hX3'.trans (hY11.trans hE))
      have hr1 : Recs wo 0 (.slice A (R.sets.flatMap recsOf).length c) (R.sets.flatMap recsOf) := ⟨A, c, rfl, hoA.cap.1, hoA.cap.2, hoA.rd.lower (Nat.zero_le _)⟩
      have hr2 : Recs wo 0 (.slice B (R.soa.flatMap recsOf).length d) (R.soa.flatMap recsOf) := ⟨B, d, rfl, hoB.cap.1, hoB.cap.2, hoB.rd.lower (Nat.zero_le _)⟩
      have HVc := ver_of x0 n ty cls R.code 0 A c B d _ _ wo (hg.ext hwE) hr1 hr2 HBk.out.1.1 HBk.out.2.1 HBk.out.1.2 HBk.out.2.2 HnL.out
      obtain ⟨b1, b2, b3, b4⟩ := VPh.out.back
      generalize R.sets.flatMap recsOf = La at *
      generalize R.soa.flatMap recsOf = Lb at *
      generalize verOf n ty cls R.code La Lb = R2 at *
      have HVd := Lib.hid HVc
      have f25 : ((R2.err : Int) == 0) = true := by rw [b4, He.out]; rfl
      have hvs : verSame R.code R.sets R.soa R2.code R2.sets R2.soa = true := by rw [b1, b2, b3]; unfold verSame; simp
      have hki : ¬ (k : Int) < (k : Int) := by omega
      have q0 := HK.out wo (hX3'.trans (hY11.trans hE))
      clear HVc hr1 hr2 hoA hoB b1 b2 b3 b4
      go_wp2_with (refine wpList_load_rowG (by rfl) 33 (.tmp 16) rfl (Z11.heap.size) rfl 33 _ _ _ (hm) Tryz.underlying33 rfl (by kernel_rfl) ?_)
      refine HVd.out.mono ?_; rintro e w24 ⟨vs2, vo2, rfl, hs2, ho2, _, hE24⟩
      obtain ⟨sA2, sc2, rfl, _, _⟩ := hs2.shape
      obtain ⟨oA2, oc2, rfl, _, _⟩ := ho2.shape
      clear q0
      go_wp2_with fail
      obtain ⟨W5, hW5⟩ : ∃ W5, W5 = w24.alloc (.cells #[.int .u8 R2.code, .slice sA2 R2.sets.length sc2, .slice oA2 R2.soa.length oc2] 38) := ⟨_, rfl⟩
      obtain ⟨k5, _, z5⟩ := ext_new (Ext.refl (w24.alloc (.cells #[.int .u8 R2.code, .slice sA2 R2.sets.length sc2, .slice oA2 R2.soa.length oc2] 38)))
      rw [← hW5] at k5 z5
      rw [← hW5]
      have h245 : Ext w24 W5 := by rw [hW5]; exact (Ext.refl _).alloc _
      clear hW5
      have hEo5 : Ext wo W5 := hE24.trans h245
      have hE95 : Ext Z9 W5 := hE11.trans (hE.trans hEo5)
      have hEY5 : Ext Y W5 := (hY11.trans hE).trans hEo5
      have HSv := Lib.hid (fun V (hV : Ext W5 V) => ver_same 0 0 R.code R2.code _ _ _ _ R.sets R.soa R2.sets R2.soa V ((Hs.out V (hEY5.trans hV)).sets.lower (Nat.zero_le _)) ((Ho.out V (hEY5.trans hV)).sets.lower (Nat.zero_le _)) (((hs2.ext h245).ext hV).sets.lower (Nat.zero_le _)) (((ho2.ext h245).ext hV).sets.lower (Nat.zero_le _)))
      rw [hvs] at HSv
      cases b
      · have HS25 := Lib.hid (show ∀ V, Ext W5 V → (V.cell? ⟨w3.heap.size, 0, none⟩ = some (.int .u8 R.code) ∧ V.cell? ⟨w3.heap.size, 1, none⟩ = some (.slice sA R.sets.length sc) ∧ V.cell? ⟨w3.heap.size, 2, none⟩ = some (.slice oA R.soa.length oc)) ∧ V.cell? ⟨w24.heap.size, 0, none⟩ = some (.int .u8 R2.code) ∧ V.cell? ⟨w24.heap.size, 1, none⟩ = some (.slice sA2 R2.sets.length sc2) ∧ V.cell? ⟨w24.heap.size, 2, none⟩ = some (.slice oA2 R2.soa.length oc2) from fun V hV => ⟨⟨HV.out V (hEY5.trans hV) 0, HV.out V (hEY5.trans hV) 1, HV.out V (hEY5.trans hV) 2⟩, (hV.cell (p := ⟨w24.heap.size, 0, none⟩) z5).trans (k5 0), (hV.cell (p := ⟨w24.heap.size, 1, none⟩) z5).trans (k5 1), (hV.cell (p := ⟨w24.heap.size, 2, none⟩) z5).trans (k5 2)⟩)
        refine wp_region_noPanic ?_
        refine wp_region_tree (S := (fun V => (V.cell? ⟨w3.heap.size, 0, none⟩ = some (.int .u8 R.code) ∧ V.cell? ⟨w3.heap.size, 1, none⟩ = some (.slice sA R.sets.length sc) ∧ V.cell? ⟨w3.heap.size, 2, none⟩ = some (.slice oA R.soa.length oc)) ∧ V.cell? ⟨w24.heap.size, 0, none⟩ = some (.int .u8 R2.code) ∧ V.cell? ⟨w24.heap.size, 1, none⟩ = some (.slice sA2 R2.sets.length sc2) ∧ V.cell? ⟨w24.heap.size, 2, none⟩ = some (.slice oA2 R2.soa.length oc2))) (.take 0 (.take 1 (.take 2 (.take 3 (.take 4 (.run 5 (.take 6 (.take 7 (.take 8 (.take 9 (.take 10 (.take 11 (.take 12 (.take 13 (.take 14 (.take 15 (.take 16 (.take 17 (.take 18 (.take 19 (.take 20 (.take 21 (.take 22 (.take 23 (.done))))))))))))))))))))))))) (by kernel_rfl) (by kernel_rfl) (fun _ _ _ _ _ h => h) (HS25.out _ ((Ext.refl W5).drew)) ?_
        repeat ((with_reducible refine treeIs ?_); first
          | (refine treeTake (v := ?_) (by rfl) (by rfl) ?_ ?_; rotate_left; (focus (intro V hV; (try dsimp only at hV); (go_simp <;> with_reducible rfl))); (try simp only [Act.put, List.setIfInBounds_toArray, List.set_cons_zero, List.set_cons_succ]))
          | (refine treeSkip (by rfl) (by rfl) ?_; (try simp only [Act.put, List.setIfInBounds_toArray, List.set_cons_zero, List.set_cons_succ])))
        refine treeRun (by rfl) (fun K hK => ?_)
        go_simp
        refine (HSv.out _ ((Ext.refl W5).drew)).mono ?_; rintro e w25 ⟨rfl, hE25⟩
        have h25 : Ext W5 w25 := Ext.trans ((Ext.refl W5).drew) hE25
        refine hK.out _ _ ?_ ?_
        · exact HS25.out _ h25
        clear hK K
        (try simp only [Act.put, List.setIfInBounds_toArray, List.set_cons_zero, List.set_cons_succ])
        repeat ((with_reducible refine treeIs ?_); first
          | (refine treeTake (v := ?_) (by rfl) (by rfl) ?_ ?_; rotate_left; (focus (intro V hV; (try dsimp only at hV); (go_simp <;> with_reducible rfl))); (try simp only [Act.put, List.setIfInBounds_toArray, List.set_cons_zero, List.set_cons_succ]))
          | (refine treeSkip (by rfl) (by rfl) ?_; (try simp only [Act.put, List.setIfInBounds_toArray, List.set_cons_zero, List.set_cons_succ])))
        refine treeDone ?_
        refine NoPanic.normal ?_
        go_wp2_with fail
        go_ret
        exact ⟨rfl, hwX.trans (hX3'.trans (hEY5.trans h25))⟩
      · obtain ⟨m, hm1, hm2⟩ := endV_at (show endV ty R.sets = some s0 by
          have h1 := Hs0.out
          have h2 := Hb.out
          rcases he : endV ty R.sets with _ | t
          · rw [he] at h2; simp at h2
          · rw [he] at h1; rw [h1]; rfl)
        obtain ⟨v6, hm3⟩ := map_at hsm hm2
        obtain ⟨d6, c6, e6⟩ : ∃ d6 c6, v6 = .slice d6 s0.data.length c6 := (HRS.out Z9 (Ext.refl _) (s0, v6) (List.mem_append_left _ (List.mem_of_getElem? hm3))).shape
        subst e6
        have HT6 := Lib.hid (fun V hV => HRS.out V hV _ (List.mem_append_left _ (List.mem_of_getElem? hm3)))
        obtain ⟨gs, rfl, _, hgs, _, gcs⟩ := HSl.out.addr (by omega)
        have hEZ5 : Ext Z W5 := hE9.trans hE95
        have hsb : ∀ V, Ext Z V → ∀ j, V.cell? ⟨w6.heap.size, j, none⟩ = #[S s0.name, .int .u16 s0.typ, .int .u16 s0.cls, .int .u32 s0.ttl, .slice dA s0.data.length dc][j]? := fun V hV => (ext_new (by rw [← HZ.out]; exact hV)).1
        have HSr := Lib.hid (fun V (hV : Ext W5 V) => rrset_same s0 s0 (.slice dA s0.data.length dc) (.slice d6 s0.data.length c6) 0 0 V (((show OStrs w6 _ (.slice dA s0.data.length dc) s0.data from ⟨dA, dc, rfl, hod⟩).strs.lower (Nat.zero_le _)).ext (h6Z.trans (hEZ5.trans hV))) (HT6.out V (hE95.trans hV)))
        rw [decide_eq_true rfl] at HSr
        have HS25 := Lib.hid (show ∀ V, Ext W5 V → (V.cell? ⟨w3.heap.size, 0, none⟩ = some (.int .u8 R.code) ∧ V.cell? ⟨w3.heap.size, 1, none⟩ = some (.slice (some ⟨gs, 0, none⟩) R.sets.length sc) ∧ V.cell? ⟨w3.heap.size, 2, none⟩ = some (.slice oA R.soa.length oc)) ∧ (V.cell? ⟨w24.heap.size, 0, none⟩ = some (.int .u8 R2.code) ∧ V.cell? ⟨w24.heap.size, 1, none⟩ = some (.slice sA2 R2.sets.length sc2) ∧ V.cell? ⟨w24.heap.size, 2, none⟩ = some (.slice oA2 R2.soa.length oc2)) ∧ (V.cell? ⟨w6.heap.size, 0, none⟩ = some (S s0.name) ∧ V.cell? ⟨w6.heap.size, 1, none⟩ = some (.int .u16 s0.typ) ∧ V.cell? ⟨w6.heap.size, 2, none⟩ = some (.int .u16 s0.cls) ∧ V.cell? ⟨w6.heap.size, 3, none⟩ = some (.int .u32 s0.ttl) ∧ V.cell? ⟨w6.heap.size, 4, none⟩ = some (.slice dA s0.data.length dc)) ∧ V.cell? ⟨gs, m * 5, none⟩ = some (S s0.name) ∧ V.cell? ⟨gs, m * 5 + 1, none⟩ = some (.int .u16 s0.typ) ∧ V.cell? ⟨gs, m * 5 + 2, none⟩ = some (.int .u16 s0.cls) ∧ V.cell? ⟨gs, m * 5 + 3, none⟩ = some (.int .u32 s0.ttl) ∧ V.cell? ⟨gs, m * 5 + 4, none⟩ = some (.slice d6 s0.data.length c6) from fun V hV => by
          refine ⟨⟨HV.out V (hEY5.trans hV) 0, HV.out V (hEY5.trans hV) 1, HV.out V (hEY5.trans hV) 2⟩, ⟨(hV.cell (p := ⟨w24.heap.size, 0, none⟩) z5).trans (k5 0), (hV.cell (p := ⟨w24.heap.size, 1, none⟩) z5).trans (k5 1), (hV.cell (p := ⟨w24.heap.size, 2, none⟩) z5).trans (k5 2)⟩, ⟨hsb V (hEZ5.trans hV) 0, hsb V (hEZ5.trans hV) 1, hsb V (hEZ5.trans hV) 2, hsb V (hEZ5.trans hV) 3, hsb V (hEZ5.trans hV) 4⟩, ?_, ?_, ?_, ?_, ?_⟩
          · exact ((hE95.trans hV).cell (p := ⟨gs, m * 5 + 0, none⟩) hgs).trans (gcs (m * 5 + 0) _ (flat_get setCells 5 (fun _ => rfl) _ m 0 _ hm3 (by omega)))
          · exact ((hE95.trans hV).cell (p := ⟨gs, m * 5 + 1, none⟩) hgs).trans (gcs (m * 5 + 1) _ (flat_get setCells 5 (fun _ => rfl) _ m 1 _ hm3 (by omega)))
          · exact ((hE95.trans hV).cell (p := ⟨gs, m * 5 + 2, none⟩) hgs).trans (gcs (m * 5 + 2) _ (flat_get setCells 5 (fun _ => rfl) _ m 2 _ hm3 (by omega)))
          · exact ((hE95.trans hV).cell (p := ⟨gs, m * 5 + 3, none⟩) hgs).trans (gcs (m * 5 + 3) _ (flat_get setCells 5 (fun _ => rfl) _ m 3 _ hm3 (by omega)))
          · exact ((hE95.trans hV).cell (p := ⟨gs, m * 5 + 4, none⟩) hgs).trans (gcs (m * 5 + 4) _ (flat_get setCells 5 (fun _ => rfl) _ m 4 _ hm3 (by omega))))
        have hq2 : (R.sets.length : Int) - 1 = (m : Int) := by omega
        have hq5 : IntKind.i64.wrap (m : Int) = (m : Int) := by have h1 := hFine.sn; rw [IntKind.wrap_i64]; omega
        have hq3 : (m : Int) < (R.sets.length : Int) := by omega
        have hq4 : (0 : Int) ≤ (m : Int) := by omega
        clear hsb gcs hm1
        refine wp_region_noPanic ?_
        refine wp_region_tree (S := (fun V => (V.cell? ⟨w3.heap.size, 0, none⟩ = some (.int .u8 R.code) ∧ V.cell? ⟨w3.heap.size, 1, none⟩ = some (.slice (some ⟨gs, 0, none⟩) R.sets.length sc) ∧ V.cell? ⟨w3.heap.size, 2, none⟩ = some (.slice oA R.soa.length oc)) ∧ (V.cell? ⟨w24.heap.size, 0, none⟩ = some (.int .u8 R2.code) ∧ V.cell? ⟨w24.heap.size, 1, none⟩ = some (.slice sA2 R2.sets.length sc2) ∧ V.cell? ⟨w24.heap.size, 2, none⟩ = some (.slice oA2 R2.soa.length oc2)) ∧ (V.cell? ⟨w6.heap.size, 0, none⟩ = some (S s0.name) ∧ V.cell? ⟨w6.heap.size, 1, none⟩ = some (.int .u16 s0.typ) ∧ V.cell? ⟨w6.heap.size, 2, none⟩ = some (.int .u16 s0.cls) ∧ V.cell? ⟨w6.heap.size, 3, none⟩ = some (.int .u32 s0.ttl) ∧ V.cell? ⟨w6.heap.size, 4, none⟩ = some (.slice dA s0.data.length dc)) ∧ V.cell? ⟨gs, m * 5, none⟩ = some (S s0.name) ∧ V.cell? ⟨gs, m * 5 + 1, none⟩ = some (.int .u16 s0.typ) ∧ V.cell? ⟨gs, m * 5 + 2, none⟩ = some (.int .u16 s0.cls) ∧ V.cell? ⟨gs, m * 5 + 3, none⟩ = some (.int .u32 s0.ttl) ∧ V.cell? ⟨gs, m * 5 + 4, none⟩ = some (.slice d6 s0.data.length c6))) (.take 0 (.take 1 (.take 2 (.take 3 (.take 4 (.run 5 (.take 6 (.take 7 (.take 8 (.take 9 (.take 10 (.take 11 (.take 12 (.take 13 (.take 14 (.take 15 (.take 16 (.take 17 (.take 18 (.take 19 (.run 20 (.take 21 (.take 22 (.take 23 (.done))))))))))))))))))))))))) (by kernel_rfl) (by kernel_rfl) (fun _ _ _ _ _ h => h) (HS25.out _ ((Ext.refl W5).drew)) ?_
        repeat ((with_reducible refine treeIs ?_); first
          | (refine treeTake (v := ?_) (by rfl) (by rfl) ?_ ?_; rotate_left; (focus (intro V hV; (try dsimp only at hV); (go_simp <;> with_reducible rfl))); (try simp only [Act.put, List.setIfInBounds_toArray, List.set_cons_zero, List.set_cons_succ]))
          | (refine treeSkip (by rfl) (by rfl) ?_; (try simp only [Act.put, List.setIfInBounds_toArray, List.set_cons_zero, List.set_cons_succ])))
        refine treeRun (by rfl) (fun K hK => ?_)
        go_simp
        refine (HSv.out _ ((Ext.refl W5).drew)).mono ?_; rintro e w25 ⟨rfl, hE25⟩
        have h25 : Ext W5 w25 := Ext.trans ((Ext.refl W5).drew) hE25
        refine hK.out _ _ ?_ ?_
        · exact HS25.out _ h25
        clear hK K
        (try simp only [Act.put, List.setIfInBounds_toArray, List.set_cons_zero, List.set_cons_succ])
        repeat ((with_reducible refine treeIs ?_); first
          | (refine treeTake (v := ?_) (by rfl) (by rfl) ?_ ?_; rotate_left; (focus (intro V hV; (try dsimp only at hV); (go_simp <;> with_reducible rfl))); (try simp only [Act.put, List.setIfInBounds_toArray, List.set_cons_zero, List.set_cons_succ]))
          | (refine treeSkip (by rfl) (by rfl) ?_; (try simp only [Act.put, List.setIfInBounds_toArray, List.set_cons_zero, List.set_cons_succ])))
        refine treeRun (by rfl) (fun K hK => ?_)
        go_simp
        refine (HSr.out _ h25).mono ?_; rintro e w26 ⟨rfl, hE26⟩
        have h26 : Ext W5 w26 := h25.trans hE26
        refine hK.out _ _ ?_ ?_
        · exact HS25.out _ h26
        clear hK K
        (try simp only [Act.put, List.setIfInBounds_toArray, List.set_cons_zero, List.set_cons_succ])
        repeat ((with_reducible refine treeIs ?_); first
          | (refine treeTake (v := ?_) (by rfl) (by rfl) ?_ ?_; rotate_left; (focus (intro V hV; (try dsimp only at hV); (go_simp <;> with_reducible rfl))); (try simp only [Act.put, List.setIfInBounds_toArray, List.set_cons_zero, List.set_cons_succ]))
          | (refine treeSkip (by rfl) (by rfl) ?_; (try simp only [Act.put, List.setIfInBounds_toArray, List.set_cons_zero, List.set_cons_succ])))
        refine treeDone ?_
        refine NoPanic.normal ?_
        go_wp2_with fail
        go_ret
        exact ⟨rfl, hwX.trans (hX3'.trans (hEY5.trans h26))⟩
end Go.Proofs.YtbdjoihckienbaaGreatDoor
namespace Go.Proofs.YtbdjoihckienbaaGreatDoor
set_option linter.unusedSimpArgs false
set_option linter.unusedVariables false
open Go.ChangeShapes Go.WideShapes Go.ChangeAt Go.RowKit
set_option maxRecDepth 100000

theorem verdictParts_contract (H : Type) (enc : TypeId × Value → H) (W : World) (base : Nat) (args : Array Value) (ds gs : List (DataW H)) (before : List MemPlace)
    (hval : ∀ (j : Nat) t v, Tryz.f9.params[j]? = some t → args[j]? = some v → Value.okWide Tryz.prog W .any base t v)
    (hW : DataW.Whole enc Tryz.prog Tryz.f9.params.toList Rows.verdictPartsSpec.vars false W args.toList ds gs before)
    (hsz : (DataW.weightsEach Tryz.prog (Tryz.f9.params.toList ++ (OpenSpec.ofChange Rows.verdictPartsSpec).bare.plain.varTypes Tryz.prog) (ds ++ gs)).all (· ≤ reachBytes) = true)
    (hL : laidMetH Tryz.prog laidL W) :
    Calls Tryz.prog 9 args W fun e W' => ∃ v, e = .returned v ∧ Rows.verdictPartsSpec.post enc Tryz.prog Tryz.f9 false true false false W args v W' := by
  have hW' := hW
  have hp : ∀ t ∈ Tryz.f9.params.toList, Tryz.prog.readableRec t = true ∧ t < Tryz.prog.types.size := by
    have h : (Tryz.f9.params.toList.all fun t => Tryz.prog.readableRec t && decide (t < Tryz.prog.types.size)) = true := by kernel_rfl
    simpa only [List.all_eq_true, Bool.and_eq_true, decide_eq_true_eq] using h
  have hg := laid_of hL
  obtain ⟨p, q, hA0, hV, rfl, _, _⟩ := hW
  have hA : DataW.TrodAll enc Tryz.prog W 0 (fun _ => true) true Tryz.f9.params.toList args.toList ds p := hA0
  clear hA0
  rw [Tryz.params9] at hA hval hsz
  obtain ⟨rfl, rfl⟩ := trodVars_none hV
  obtain ⟨v0, v1, d0, d1, p0, p1, rfl, rfl, rfl, h0, h1⟩ := trodAll_two hA
  obtain ⟨n1, ty1, cl1, rfl, hn1, _, _⟩ := open_question (hval 0 _ _ rfl rfl) h0
  obtain ⟨x1, code1, aA1, ac1, uA1, uc1, ans1, auth1, ext1, rfl, ha1, hu1, hx1, hao1, huo1, hxo1, hcd1, hq1⟩ := open_msg (hval 1 _ _ rfl rfl) h1
  refine (law_verdictParts x1 n1 ty1 cl1 code1 aA1 ac1 uA1 uc1 ans1 auth1 ext1 W hg ha1 hu1 hx1 hao1 huo1 hxo1 hn1 hq1).mono ?_
  rintro e W' ⟨rfl, hE⟩
  exact ⟨_, rfl, post_true laid_out rfl (by kernel_rfl) Tryz.underlying4 hp hW' rfl hE⟩

theorem verdictParts_reads (os : Os) {H : Type} (enc : TypeId × Value → H) : ∃ places, DataW.whole enc Tryz.prog ((laidWorld os).forCall (fun _ _ => 0) ⟨#[], #[.agg #[.string ⟨#[]⟩, .int .u16 0, .int .u16 0], .agg #[.int .u16 0, .bool false, .int .u8 0, .bool false, .bool false, .bool false, .bool false, .bool false, .bool false, .bool false, .int .u8 0, .slice none 0 0, .slice none 0 0, .slice none 0 0, .slice none 0 0, .bool false, .int .u16 0, .int .u8 0, .int .u8 0, .int .u16 0, .slice none 0 0]], []⟩).memory Tryz.f9.params.toList Rows.verdictPartsSpec.vars false (#[.agg #[.string ⟨#[]⟩, .int .u16 0, .int .u16 0], .agg #[.int .u16 0, .bool false, .int .u8 0, .bool false, .bool false, .bool false, .bool false, .bool false, .bool false, .bool false, .int .u8 0, .slice none 0 0, .slice none 0 0, .slice none 0 0, .slice none 0 0, .bool false, .int .u16 0, .int .u8 0, .int .u8 0, .int .u16 0, .slice none 0 0]] : Array Value).toList 8 = some ([.agg [.lit (.string []), .lit (.int .u16 0), .lit (.int .u16 0)], .agg [.agg [.lit (.int .u16 0), .lit (.bool false), .lit (.int .u8 0), .lit (.bool false), .lit (.bool false), .lit (.bool false), .lit (.bool false), .lit (.bool false), .lit (.bool false), .lit (.bool false), .lit (.int .u8 0)], .nil, .nil, .nil, .nil, .lit (.bool false), .agg [.lit (.int .u16 0), .lit (.int .u8 0), .lit (.int .u8 0), .lit (.int .u16 0), .nil]]], [], places) :=
  ⟨[], by kernel_rfl⟩
theorem verdictParts_lifted (os : Os) (started : os.Started) (H : Type) (enc : TypeId × Value → H) (F : Stop.Interp) :
    ReturnsInHanded {} Tryz.checked os 9 .any ((OpenSpec.ofChange Rows.verdictPartsSpec).preRow enc Tryz.prog Tryz.f9 Rows.verdictPartsRow.domain false Rows.verdictPartsRow.laid) (((OpenSpec.ofChange Rows.verdictPartsSpec).at F).post enc Tryz.prog Tryz.f9 false true false false) := by
  obtain ⟨places, hx⟩ := verdictParts_reads os enc
  refine returnsInHanded_of_row (C := Tryz.checked) (s := OpenSpec.ofChange Rows.verdictPartsSpec) own_knob started (by kernel_rfl) Tryz.func9
    (witness_row_at (enc := enc) (C := Tryz.checked) false (laidWorld os) #[.agg #[.string ⟨#[]⟩, .int .u16 0, .int .u16 0], .agg #[.int .u16 0, .bool false, .int .u8 0, .bool false, .bool false, .bool false, .bool false, .bool false, .bool false, .bool false, .int .u8 0, .slice none 0 0, .slice none 0 0, .slice none 0 0, .slice none 0 0, .bool false, .int .u16 0, .int .u8 0, .int .u8 0, .int .u16 0, .slice none 0 0]] rfl (by kernel_rfl) (by kernel_rfl) (by kernel_rfl)
      (OpenSpec.preRow_of_cond 8 hx (by kernel_rfl) (fun k hk => by cases hk) (by kernel_rfl) (laid_met os _))) ?_
  intro W base args ds gs before hval hW _ _ hsz hL _ _
  exact verdictParts_contract H enc W base args ds gs before hval hW hsz hL
theorem verdictParts_said : Rows.VerdictPartsSaid :=
  OpenClaim.holds_of_cond 9 Tryz.f9 rfl rfl rfl rfl rfl rfl rfl ⟨rfl, rfl, rfl, rfl, rfl⟩ rfl rfl rfl rfl rfl (by kernel_rfl) Tryz.func9 (by kernel_rfl)
    (of_decide_eq_true (by kernel_rfl)) (by unfold Func.isWrapper; first | (rw [if_pos (by decide +kernel)]; kernel_rfl) | (rw [if_neg (by decide +kernel)]; exact ⟨rfl, rfl⟩))
    (fun os started H enc _ F => by rw [OpenClaim.pre_eq_preRow]; exact verdictParts_lifted os started H enc F)
/-- THE CARD. -/
theorem verdictParts_card : Rows.VerdictPartsCardSaid :=
  Claim7.holds_tied_plain_at .later [] _ _ _ _ verdictParts_said (fun _ h => by cases h) (by kernel_rfl) (fun _ h => by cases h) verdictParts_row_tie rfl ⟨rfl, rfl⟩ (by kernel_rfl) rfl
    (fun f fn hf hfn => by
      obtain rfl : f = 9 := Option.some.inj ((show Tryz.prog.funcNamed Rows.verdictPartsRow.func = some 9 by kernel_rfl).symm.trans hf) |>.symm
      obtain rfl : fn = Tryz.f9 := (Option.some.inj (Tryz.func9.symm.trans hfn)).symm
      refine ⟨by kernel_rfl, fun j t ht => ?_⟩
      have h : (Tryz.f9.params.toList.all fun t => !Tryz.prog.wantsStandIn t) = true := by kernel_rfl
      have h2 := List.all_eq_true.1 h t (by simpa using Array.mem_of_getElem? ht)
      exact (by simpa using h2 : Tryz.prog.wantsStandIn t = false))
    (by kernel_rfl)
#print axioms verdictParts_card
end Go.Proofs.YtbdjoihckienbaaGreatDoor
