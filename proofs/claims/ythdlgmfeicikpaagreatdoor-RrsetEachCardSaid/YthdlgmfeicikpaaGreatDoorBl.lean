/- Contracts of functions and plain lemmas that the proofs of this seat share (joined texts). No condition. -/
import Derived.Test.YthdlgmfeicikpaaGreatDoorBg
import Derived.Test.YthdlgmfeicikpaaGreatDoorBd
import Derived.Deep.RegionHeld3
namespace Go.Proofs.YthdlgmfeicikpaaGreatDoor
set_option linter.unusedSimpArgs false
set_option linter.unusedVariables false
open Go.RowKit
set_option maxRecDepth 100000

theorem info_rec8 : (Tryz.prog.info? 38).map (fun i => (i.zero, i.size, i.bytes)) = some (some (.agg #[.string ⟨#[]⟩, .int .u16 0, .int .u16 0, .int .u32 0, .string ⟨#[]⟩]), 5, 40) := by kernel_rfl
/-- A []api.Record of the call's own. -/
def ORecs (w : World) (lo : Nat) (v : Value) (l : List RecD) : Prop := ∃ A c, v = .slice A l.length c ∧ Own w lo 38 5 A l.length c (l.flatMap recCells)
theorem ORecs.ext {w w' : World} {lo : Nat} {v : Value} {l : List RecD} (h : ORecs w lo v l) (hE : Ext w w') : ORecs w' lo v l := by
  obtain ⟨A, c, e, h1⟩ := h; exact ⟨A, c, e, h1.ext hE⟩
theorem ORecs.recs {w : World} {lo : Nat} {v : Value} {l : List RecD} (h : ORecs w lo v l) : Recs w lo v l := by
  obtain ⟨A, c, e, h1⟩ := h; exact ⟨A, c, e, h1.cap.1, h1.cap.2, h1.rd⟩
theorem ORecs.lower {w : World} {lo lo' : Nat} {v : Value} {l : List RecD} (h : ORecs w lo v l) (hl : lo' ≤ lo) : ORecs w lo' v l := by
  obtain ⟨A, c, e, h1⟩ := h; exact ⟨A, c, e, h1.lower hl⟩
theorem rec_one8 (r : RecD) : ∀ u ∈ recCells r, u.oneCell' = true := by
  intro u hu
  simp only [recCells, List.mem_cons, List.not_mem_nil, or_false] at hu
  rcases hu with rfl | rfl | rfl | rfl | rfl <;> rfl
theorem recs_one8 (l : List RecD) : ∀ u ∈ l.flatMap recCells, u.oneCell' = true := by
  intro u hu
  obtain ⟨r, _, hr⟩ := List.mem_flatMap.1 hu
  exact rec_one8 r u hr

/-! ### may, in -/
set_option maxHeartbeats 1000000 in
theorem law8_may (r : RecD) (w : World) (hg : Laid w) (hn : r.name.length ≤ 1048576) (hd : r.data.length ≤ 1048576) :
    Calls Tryz.prog 27 #[recVal r] w fun e w' => e = .returned (.bool (okRec r)) ∧ Ext w w' := by
  obtain ⟨nm, ty, cl, tt, da⟩ := r
  dsimp only at *
  have HN := Lib.hid (fun W => name_may nm W (by unfold maxLen; omega))
  have HR := Lib.hid (fun W (hW : Ext w W) => rdata_may ty da W (hg.ext hW) hd)
  obtain ⟨B, hB⟩ : ∃ B, B = okRec ⟨nm, ty, cl, tt, da⟩ := ⟨_, rfl⟩
  rw [← hB]
  have HB := Lib.hid hB
  clear hB
  rcases hm : may nm with _ | _
  · have HF := Lib.hid (show B = false by rw [HB.out]; unfold okRec; simp [hm])
    rw [hm] at HN
    clear hm
    go_enter Tryz.func27, Tryz.ntmps27
    go_wp2_with fail
    refine (HN.out _).mono ?_; rintro e w1 ⟨rfl, rfl⟩
    go_wp2_with fail
    go_ret
    exact ⟨ret_bool HF.out.symm, (Ext.refl _).alloc _⟩
  · have HF := Lib.hid (show B = rmay ty da by rw [HB.out]; unfold okRec; simp [hm])
    rw [hm] at HN
    clear hm
    go_enter Tryz.func27, Tryz.ntmps27
    go_wp2_with fail
    refine (HN.out _).mono ?_; rintro e w1 ⟨rfl, rfl⟩
    go_wp2_with fail
    refine (HR.out _ ((Ext.refl _).alloc _)).mono ?_; rintro e w2 ⟨rfl, hE2⟩
    go_wp2_with fail
    go_ret
    exact ⟨ret_bool (by simp [HF.out]), ((Ext.refl _).alloc _).trans hE2⟩

set_option maxHeartbeats 1000000 in
theorem law8_in (lo : Nat) (v : Value) (l : List (List UInt8)) (s : List UInt8) (w : World) (h : Strs w lo v l) :
    Calls Tryz.prog 30 #[v, S s] w fun e w' => e = .returned (.bool (l.contains s)) ∧ w = w' := by
  obtain ⟨A, c, rfl, h1, h2, hrd⟩ := h
  unfold maxLen at h2
  obtain ⟨B, hB⟩ : ∃ B, B = l.contains s := ⟨_, rfl⟩
  rw [← hB]
  have HB := Lib.hid hB
  clear hB
  go_enter Tryz.func30, Tryz.ntmps30
  go_wp2_with fail
  go_loop [5] (fun i => ∃ k : Nat, k ≤ l.length ∧ i = .int .i64 k ∧ (l.take k).contains s = false) (fun i => l.length - (intOf i).toNat)
  case atStart => exact ⟨0, by omega, rfl, rfl⟩
  case round =>
    obtain ⟨k, hk, rfl, hno⟩ := hrel
    have Hno := Lib.hid hno
    clear hno
    by_cases hlt : k < l.length
    · obtain ⟨b, off, rfl, _, _, hc⟩ := hrd.2 (by omega)
      have hck := hc k (S l[k]) (by simp [List.getElem?_eq_getElem hlt])
      have HT := Lib.hid (take_snoc l k hlt)
      have HM := Lib.hid (List.getElem_mem hlt)
      generalize l[k] = x at *
      have hki : (k : Int) < (l.length : Int) := by omega
      have hk0 : (0 : Int) ≤ (k : Int) := by omega
      clear hc
      by_cases hs : x = s
      · subst hs
        have HF := Lib.hid (show B = true by rw [HB.out]; simpa using HM.out)
        have f1 : (x == x) = true := by simp
        go_wp2_with fail
        go_ret
        exact ⟨ret_bool HF.out.symm, rfl⟩
      · have f1 := str_ne hs
        have Hs := Lib.hid hs
        clear hs
        go_wp2_with fail
        go_round
        case rel =>
          refine ⟨k + 1, by omega, by go_num, ?_⟩
          rw [HT.out]
          exact contains_snoc _ _ _ Hno.out Hs.out
        case measure => simp [intOf]; omega
    · have HF := Lib.hid (show B = false by rw [HB.out]; have := Hno.out; rwa [List.take_of_length_le (by omega)] at this)
      go_wp2_with fail
      go_ret
      exact ⟨ret_bool HF.out.symm, rfl⟩

/-! ### Records -/
def recsOf (s : SetD) : List RecD := s.data.map fun d => ⟨s.name, s.typ, s.cls, s.ttl, d⟩
def recsTo (s : SetD) (k : Nat) : List RecD := (s.data.take k).map fun d => ⟨s.name, s.typ, s.cls, s.ttl, d⟩
def ORPost (l : List RecD) (w : World) (e : Ending) (w' : World) : Prop := ∃ v, e = .returned v ∧ ORecs w' w.heap.size v l ∧ Ext w w'

set_option maxHeartbeats 2000000 in
theorem rrset_records (s : SetD) (dv : Value) (lo : Nat) (w : World) (hd : Strs w lo dv s.data) (hl : s.data.length ≤ 1048576) :
    Calls Tryz.prog 33 #[setVal s dv] w (ORPost (recsOf s) w) := by
  obtain ⟨nm, ty, cl, tt, da⟩ := s
  dsimp only at *
  obtain ⟨A, c, rfl, h1, h2, hrd⟩ := hd
  unfold maxLen at h2
  obtain ⟨i0, hi0, hz0, hz1, hz2⟩ := info_parts info_rec8
  go_enter Tryz.func33, Tryz.ntmps33
  go_wp2_with fail
  go_loopw [3, 4, 8] (fun v _ i wr => ∃ (k : Nat) (B : Option Addr) (d : Nat), k ≤ da.length ∧ i = .int .i64 k ∧ v = .slice B k d ∧ Own wr (w.heap.size + 1) 38 5 B k d ((recsTo ⟨nm, ty, cl, tt, da⟩ k).flatMap recCells) ∧ Ext (w.alloc (.cells #[S nm, .int .u16 ty, .int .u16 cl, .int .u32 tt, .slice A da.length c] 27)) wr) (fun _ _ i _ => da.length - (intOf i).toNat)
  case atStart => exact ⟨0, none, 0, by omega, rfl, rfl, Own.nil _ _ _ _, Ext.refl _⟩
  case round =>
    obtain ⟨k, B, d, hk, rfl, rfl, hown, hE⟩ := hrel
    obtain ⟨wo, rfl⟩ : ∃ wo : World, wo = wr := ⟨_, rfl⟩
    have hEw : Ext w wo := ((Ext.refl w).alloc _).trans hE
    by_cases hlt : k < da.length
    · obtain ⟨bq, _, bqz⟩ := ext_new hE
      have b0 : wo.cell? ⟨w.heap.size, 0, none⟩ = some (S nm) := bq 0
      have b1 : wo.cell? ⟨w.heap.size, 1, none⟩ = some (.int .u16 ty) := bq 1
      have b2 : wo.cell? ⟨w.heap.size, 2, none⟩ = some (.int .u16 cl) := bq 2
      have b3 : wo.cell? ⟨w.heap.size, 3, none⟩ = some (.int .u32 tt) := bq 3
      have b4 : wo.cell? ⟨w.heap.size, 4, none⟩ = some (.slice A da.length c) := bq 4
      obtain ⟨g, off, rfl, _, hgz, gc⟩ := hrd.2 (by omega)
      have hck := (hEw.cell (p := ⟨g, off + k, none⟩) hgz).trans (gc k (S da[k]) (by simp [List.getElem?_eq_getElem hlt]))
      have HT := Lib.hid (show recsTo ⟨nm, ty, cl, tt, da⟩ (k + 1) = recsTo ⟨nm, ty, cl, tt, da⟩ k ++ [⟨nm, ty, cl, tt, da[k]⟩] by unfold recsTo; rw [take_snoc da k hlt, List.map_append]; rfl)
      generalize da[k] = y at *
      have hki : (k : Int) < (da.length : Int) := by omega
      have hk0 : (0 : Int) ≤ (k : Int) := by omega
      have hwz : w.heap.size + 1 ≤ wo.heap.size := bqz
      clear bq gc
      go_wp2_with fail
      go_region_held3 (fun V => V.cell? ⟨w.heap.size, 0, none⟩ = some (S nm) ∧ V.cell? ⟨w.heap.size, 1, none⟩ = some (.int .u16 ty) ∧ V.cell? ⟨w.heap.size, 2, none⟩ = some (.int .u16 cl) ∧ V.cell? ⟨w.heap.size, 3, none⟩ = some (.int .u32 tt) ∧ V.cell? ⟨w.heap.size, 4, none⟩ = some (.slice (some ⟨g, off, none⟩) da.length c) ∧ V.cell? ⟨g, off + k, none⟩ = some (S y))
        (first | go_keep | (have hK : Below (w.heap.size + 1) wo w5 := Below.trans (Below.mono (show Ext wo _ by (repeat (first | with_reducible exact Ext.refl _ | with_reducible assumption | with_reducible refine Ext.alloc ?_ _ | with_reducible refine Ext.drewN ?_ _ | with_reducible refine Ext.drew ?_ | (with_reducible refine Ext.setCell ?_ ?hp _; case hp => (simp <;> omega))))) hwz) hb5; exact ⟨(hK.cell (p := ⟨w.heap.size, 0, none⟩) (Nat.lt_succ_self _)).trans b0, (hK.cell (p := ⟨w.heap.size, 1, none⟩) (Nat.lt_succ_self _)).trans b1, (hK.cell (p := ⟨w.heap.size, 2, none⟩) (Nat.lt_succ_self _)).trans b2, (hK.cell (p := ⟨w.heap.size, 3, none⟩) (Nat.lt_succ_self _)).trans b3, (hK.cell (p := ⟨w.heap.size, 4, none⟩) (Nat.lt_succ_self _)).trans b4, (hK.cell (p := ⟨g, off + k, none⟩) (Nat.lt_succ_of_lt hgz)).trans hck⟩))
        (first
          | (refine step_app _ (by rfl) (.tmp 11) (.tmp 26) _ (by rfl) (w.heap.size + 1) 38 i0 _ 5 40 Tryz.underlying34 hi0 hz0 hz1 hz2 rfl (by omega) B k d ((recsTo ⟨nm, ty, cl, tt, da⟩ k).flatMap recCells) (by rfl) (by exact hown.ext (by (repeat (first | with_reducible exact Ext.refl _ | with_reducible assumption | with_reducible refine Ext.alloc ?_ _ | with_reducible refine Ext.drewN ?_ _ | with_reducible refine Ext.drew ?_ | (with_reducible refine Ext.setCell ?_ ?hp _; case hp => (simp <;> omega)))))) 0 _ 1 1 (recCells ⟨nm, ty, cl, tt, y⟩) (by rfl) (by exact (rd_new _ _ (by simp) _ _ 1 5 rfl).drew) (rec_one8 _) (by omega) (by omega) (by simp; omega) ?_; intro A5 c5 w5 hown5 hg5 hb5 hat5))
      have hE5 : Ext (w.alloc (.cells #[S nm, .int .u16 ty, .int .u16 cl, .int .u32 tt, .slice (some ⟨g, off, none⟩) da.length c] 27)) w5 := Ext.then (lo := w.heap.size + 1) (hE.trans (by (repeat (first | with_reducible exact Ext.refl _ | with_reducible assumption | with_reducible refine Ext.alloc ?_ _ | with_reducible refine Ext.drewN ?_ _ | with_reducible refine Ext.drew ?_ | (with_reducible refine Ext.setCell ?_ ?hp _; case hp => (simp <;> omega)))))) hb5 (by simp)
      go_wp2_with fail
      go_roundw
      case rel =>
        refine ⟨k + 1, A5, c5, by omega, by go_num, rfl, ?_, hE5⟩
        rw [HT.out, List.flatMap_append]
        simpa using hown5
      case measure => simp [intOf]; omega
    · obtain rfl : k = da.length := by omega
      go_wp2_with fail
      go_ret
      refine ⟨_, rfl, ⟨B, d, ?_, ?_⟩, hEw⟩
      · simp [recsOf]
      · have e : recsTo ⟨nm, ty, cl, tt, da⟩ da.length = recsOf ⟨nm, ty, cl, tt, da⟩ := by unfold recsTo recsOf; rw [List.take_length]
        rw [e] at hown
        have := hown.lower (lo' := w.heap.size) (by omega)
        simpa [recsOf] using this
set_option maxHeartbeats 2000000 in
theorem ref_records (s : SetD) (dv : Value) (lo : Nat) (w : World) (hd : Strs w lo dv s.data) (hl : s.data.length ≤ 1048576) :
    Calls Tryz.prog 34 #[setVal s dv] w (ORPost (recsOf s) w) := by
  obtain ⟨nm, ty, cl, tt, da⟩ := s
  dsimp only at *
  obtain ⟨A, c, rfl, h1, h2, hrd⟩ := hd
  unfold maxLen at h2
  obtain ⟨i0, hi0, hz0, hz1, hz2⟩ := info_parts info_rec8
  go_enter Tryz.func34, Tryz.ntmps34
  go_wp2_with fail
  go_loopw [3, 4] (fun v i wr => ∃ (k : Nat) (B : Option Addr) (d : Nat), k ≤ da.length ∧ i = .int .i64 k ∧ v = .slice B k d ∧ Own wr (w.heap.size + 1) 38 5 B k d ((recsTo ⟨nm, ty, cl, tt, da⟩ k).flatMap recCells) ∧ Ext (w.alloc (.cells #[S nm, .int .u16 ty, .int .u16 cl, .int .u32 tt, .slice A da.length c] 27)) wr) (fun _ i _ => da.length - (intOf i).toNat)
  case atStart => exact ⟨0, none, 0, by omega, rfl, rfl, Own.nil _ _ _ _, Ext.refl _⟩
  case round =>
    obtain ⟨k, B, d, hk, rfl, rfl, hown, hE⟩ := hrel
    obtain ⟨wo, rfl⟩ : ∃ wo : World, wo = wr := ⟨_, rfl⟩
    have hEw : Ext w wo := ((Ext.refl w).alloc _).trans hE
    obtain ⟨bq, _, bqz⟩ := ext_new hE
    have b4' : wo.cell? ⟨w.heap.size, 4, none⟩ = some (.slice A da.length c) := bq 4
    by_cases hlt : k < da.length
    · have b0 : wo.cell? ⟨w.heap.size, 0, none⟩ = some (S nm) := bq 0
      have b1 : wo.cell? ⟨w.heap.size, 1, none⟩ = some (.int .u16 ty) := bq 1
      have b2 : wo.cell? ⟨w.heap.size, 2, none⟩ = some (.int .u16 cl) := bq 2
      have b3 : wo.cell? ⟨w.heap.size, 3, none⟩ = some (.int .u32 tt) := bq 3
      have b4 : wo.cell? ⟨w.heap.size, 4, none⟩ = some (.slice A da.length c) := bq 4
      obtain ⟨g, off, rfl, _, hgz, gc⟩ := hrd.2 (by omega)
      have hck := (hEw.cell (p := ⟨g, off + k, none⟩) hgz).trans (gc k (S da[k]) (by simp [List.getElem?_eq_getElem hlt]))
      have HT := Lib.hid (show recsTo ⟨nm, ty, cl, tt, da⟩ (k + 1) = recsTo ⟨nm, ty, cl, tt, da⟩ k ++ [⟨nm, ty, cl, tt, da[k]⟩] by unfold recsTo; rw [take_snoc da k hlt, List.map_append]; rfl)
      generalize da[k] = y at *
      have hki : (k : Int) < (da.length : Int) := by omega
      have hk0 : (0 : Int) ≤ (k : Int) := by omega
      have hwz : w.heap.size + 1 ≤ wo.heap.size := bqz
      clear bq gc
      go_wp2_with fail
      go_region_held3 (fun V => V.cell? ⟨w.heap.size, 0, none⟩ = some (S nm) ∧ V.cell? ⟨w.heap.size, 1, none⟩ = some (.int .u16 ty) ∧ V.cell? ⟨w.heap.size, 2, none⟩ = some (.int .u16 cl) ∧ V.cell? ⟨w.heap.size, 3, none⟩ = some (.int .u32 tt) ∧ V.cell? ⟨w.heap.size, 4, none⟩ = some (.slice (some ⟨g, off, none⟩) da.length c) ∧ V.cell? ⟨g, off + k, none⟩ = some (S y))
        (first | go_keep | (have hK : Below (w.heap.size + 1) wo w5 := Below.trans (Below.mono (show Ext wo _ by (repeat (first | with_reducible exact Ext.refl _ | with_reducible assumption | with_reducible refine Ext.alloc ?_ _ | with_reducible refine Ext.drewN ?_ _ | with_reducible refine Ext.drew ?_ | (with_reducible refine Ext.setCell ?_ ?hp _; case hp => (simp <;> omega))))) hwz) hb5; exact ⟨(hK.cell (p := ⟨w.heap.size, 0, none⟩) (Nat.lt_succ_self _)).trans b0, (hK.cell (p := ⟨w.heap.size, 1, none⟩) (Nat.lt_succ_self _)).trans b1, (hK.cell (p := ⟨w.heap.size, 2, none⟩) (Nat.lt_succ_self _)).trans b2, (hK.cell (p := ⟨w.heap.size, 3, none⟩) (Nat.lt_succ_self _)).trans b3, (hK.cell (p := ⟨w.heap.size, 4, none⟩) (Nat.lt_succ_self _)).trans b4, (hK.cell (p := ⟨g, off + k, none⟩) (Nat.lt_succ_of_lt hgz)).trans hck⟩))
        (first
          | (refine step_app _ (by rfl) (.tmp 12) (.tmp 27) _ (by rfl) (w.heap.size + 1) 38 i0 _ 5 40 Tryz.underlying34 hi0 hz0 hz1 hz2 rfl (by omega) B k d ((recsTo ⟨nm, ty, cl, tt, da⟩ k).flatMap recCells) (by rfl) (by exact hown.ext (by (repeat (first | with_reducible exact Ext.refl _ | with_reducible assumption | with_reducible refine Ext.alloc ?_ _ | with_reducible refine Ext.drewN ?_ _ | with_reducible refine Ext.drew ?_ | (with_reducible refine Ext.setCell ?_ ?hp _; case hp => (simp <;> omega)))))) 0 _ 1 1 (recCells ⟨nm, ty, cl, tt, y⟩) (by rfl) (by exact (rd_new _ _ (by simp) _ _ 1 5 rfl).drew) (rec_one8 _) (by omega) (by omega) (by simp; omega) ?_; intro A5 c5 w5 hown5 hg5 hb5 hat5))
      have hE5 : Ext (w.alloc (.cells #[S nm, .int .u16 ty, .int .u16 cl, .int .u32 tt, .slice (some ⟨g, off, none⟩) da.length c] 27)) w5 := Ext.then (lo := w.heap.size + 1) (hE.trans (by (repeat (first | with_reducible exact Ext.refl _ | with_reducible assumption | with_reducible refine Ext.alloc ?_ _ | with_reducible refine Ext.drewN ?_ _ | with_reducible refine Ext.drew ?_ | (with_reducible refine Ext.setCell ?_ ?hp _; case hp => (simp <;> omega)))))) hb5 (by simp)
      go_wp2_with fail
      go_roundw
      case rel =>
        refine ⟨k + 1, A5, c5, by omega, by go_num, rfl, ?_, hE5⟩
        rw [HT.out, List.flatMap_append]
        simpa using hown5
      case measure => simp [intOf]; omega
    · obtain rfl : k = da.length := by omega
      clear bq
      go_wp2_with fail
      go_ret
      refine ⟨_, rfl, ⟨B, d, ?_, ?_⟩, hEw⟩
      · simp [recsOf]
      · have e : recsTo ⟨nm, ty, cl, tt, da⟩ da.length = recsOf ⟨nm, ty, cl, tt, da⟩ := by unfold recsTo recsOf; rw [List.take_length]
        rw [e] at hown
        have := hown.lower (lo' := w.heap.size) (by omega)
        simpa [recsOf] using this

theorem rec_fields : (Tryz.prog.fieldsOf 38).toList.map (fun f => (f.type, f.offset, decide (f.name = "_"))) = [(9, 0, false), (23, 1, false), (23, 2, false), (24, 3, false), (9, 4, false)] := by kernel_rfl
theorem run_neq_rec (w : World) (x y : RecD) : (binOp .neq 38 (recVal x) (recVal y)).run Tryz.prog w = .ok (.bool (!((x.name == y.name) && (x.typ == y.typ) && (x.cls == y.cls) && (x.ttl == y.ttl) && (x.data == y.data)))) w := by
  rw [run_neq_struct, run_equalIn_struct w 9999 38 _ _ (by kernel_rfl) (by kernel_rfl)]
  obtain ⟨fs, hfs⟩ : ∃ fs, (Tryz.prog.fieldsOf 38).toList = fs := ⟨_, rfl⟩
  have h := rec_fields
  rw [hfs] at h ⊢
  match fs, h with
  | [f0, f1, f2, f3, f4], h =>
    simp only [List.map_cons, List.map_nil, List.cons.injEq, Prod.mk.injEq, decide_eq_false_iff_not, and_true] at h
    obtain ⟨⟨a0, b0, c0⟩, ⟨a1, b1, c1⟩, ⟨a2, b2, c2⟩, ⟨a3, b3, c3⟩, ⟨a4, b4, c4⟩⟩ := h
    have p0 : ∀ v : RecD, (part 9 #[S v.name, .int .u16 v.typ, .int .u16 v.cls, .int .u32 v.ttl, S v.data] 0).run Tryz.prog w = .ok (S v.name) w := fun v => by kernel_rfl
    have p1 : ∀ v : RecD, (part 23 #[S v.name, .int .u16 v.typ, .int .u16 v.cls, .int .u32 v.ttl, S v.data] 1).run Tryz.prog w = .ok (.int .u16 v.typ) w := fun v => by kernel_rfl
    have p2 : ∀ v : RecD, (part 23 #[S v.name, .int .u16 v.typ, .int .u16 v.cls, .int .u32 v.ttl, S v.data] 2).run Tryz.prog w = .ok (.int .u16 v.cls) w := fun v => by kernel_rfl
    have p3 : ∀ v : RecD, (part 24 #[S v.name, .int .u16 v.typ, .int .u16 v.cls, .int .u32 v.ttl, S v.data] 3).run Tryz.prog w = .ok (.int .u32 v.ttl) w := fun v => by kernel_rfl
    have p4 : ∀ v : RecD, (part 9 #[S v.name, .int .u16 v.typ, .int .u16 v.cls, .int .u32 v.ttl, S v.data] 4).run Tryz.prog w = .ok (S v.data) w := fun v => by kernel_rfl
    simp only [Op.eqFields, a0, a1, a2, a3, a4, b0, b1, b2, b3, b4, ne_eq, c0, c1, c2, c3, c4, not_false_eq_true, if_true, Sem.run_bind, Sem.run_ite, p0, p1, p2, p3, p4, Result.andThen_ok, run_equalIn_string w 9998 _ _ _ Tryz.underlying9, run_equalIn_int w 9998 _ _ _ _ _ Tryz.underlying23, run_equalIn_int w 9998 _ _ _ _ _ Tryz.underlying24]
    have hl : ∀ l : List UInt8, (ByteArray.mk l.toArray).toList = l := fun l => by rw [ByteArray.toList_eq]
    simp only [hl]
    generalize (x.name == y.name) = q0
    generalize (x.typ == y.typ) = q1
    generalize (x.cls == y.cls) = q2
    generalize (x.ttl == y.ttl) = q3
    generalize (x.data == y.data) = q4
    cases q0 <;> cases q1 <;> cases q2 <;> cases q3 <;> cases q4 <;> rfl
theorem rec_neq_t {x y : RecD} (h : x = y) (w : World) : (binOp .neq 38 (recVal x) (recVal y)).run Tryz.prog w = .ok (.bool false) w := by
  rw [run_neq_rec]; subst h; simp
theorem rec_neq_f {x y : RecD} (h : x ≠ y) (w : World) : (binOp .neq 38 (recVal x) (recVal y)).run Tryz.prog w = .ok (.bool true) w := by
  rw [run_neq_rec]
  obtain ⟨xn, xt, xc, xl, xd⟩ := x
  obtain ⟨yn, yt, yc, yl, yd⟩ := y
  congr 2
  rw [Bool.not_eq_true', Bool.eq_false_iff]
  intro e
  simp only [Bool.and_eq_true, beq_iff_eq] at e
  obtain ⟨⟨⟨⟨rfl, rfl⟩, rfl⟩, rfl⟩, rfl⟩ := e
  exact h rfl
set_option maxHeartbeats 2000000 in
theorem ref_sameRecords (l1 l2 : List RecD) (v1 v2 : Value) (lo1 lo2 : Nat) (w : World) (h1 : Recs w lo1 v1 l1) (h2 : Recs w lo2 v2 l2) :
    Calls Tryz.prog 32 #[v1, v2] w fun e w' => e = .returned (.bool (decide (l1 = l2))) ∧ Ext w w' := by
  obtain ⟨A, c, rfl, a1, a2, ra⟩ := h1
  obtain ⟨B, d, rfl, b1, b2, rb⟩ := h2
  unfold maxLen at a2 b2
  obtain ⟨R, hR⟩ : ∃ R, R = decide (l1 = l2) := ⟨_, rfl⟩
  rw [← hR]
  have HR := Lib.hid hR
  clear hR
  by_cases hl : l1.length = l2.length
  · obtain ⟨f1, f2⟩ := eq_nats hl
    have Hl := Lib.hid hl
    clear hl
    go_enter Tryz.func32, Tryz.ntmps32
    go_wp2_with fail
    go_loopw [5] (fun i wr => ∃ k q : Nat, k ≤ l1.length ∧ i = .int .i64 k ∧ l1.take k = l2.take k ∧ wr = w.drewN q) (fun i _ => l1.length - (intOf i).toNat)
    case atStart => exact ⟨0, 0, by omega, rfl, rfl, rfl⟩
    case round =>
      obtain ⟨k, q, hk, rfl, ht, rfl⟩ := hrel
      have Ht := Lib.hid ht
      clear ht
      by_cases hlt : k < l1.length
      · have hlt2 : k < l2.length := by have := Hl.out; omega
        obtain ⟨gb, go, rfl, _, _, gc⟩ := ra.2 (by omega)
        obtain ⟨hb, ho, rfl, _, _, hc⟩ := rb.2 (by omega)
        have c1 := recs_cells gc k l1[k] (List.getElem?_eq_getElem hlt)
        have c2 := recs_cells hc k l2[k] (List.getElem?_eq_getElem hlt2)
        have HT1 := Lib.hid (take_snoc l1 k hlt)
        have HT2 := Lib.hid (take_snoc l2 k hlt2)
        have HG := Lib.hid (show l1 = l2 → l1[k] = l2[k] by intro e; subst e; rfl)
        generalize l1[k] = x at *
        generalize l2[k] = y at *
        obtain ⟨p0, p1, p2, p3, p4⟩ := c1
        obtain ⟨q0, q1, q2, q3, q4⟩ := c2
        have hki : (k : Int) < (l1.length : Int) := by omega
        have hki2 : (k : Int) < (l2.length : Int) := by omega
        have hk0 : (0 : Int) ≤ (k : Int) := by omega
        have hgd : Tryz.prog.eqGuardType Tryz.prog.depth 38 = false := by kernel_rfl
        clear gc hc
        by_cases hxy : x = y
        · have hne := rec_neq_t hxy
          have Hxy := Lib.hid hxy
          clear hxy
          go_wp2_with fail
          go_quiet (fail)
          go_wp2_with fail
          go_roundw
          case rel => exact ⟨k + 1, _, by omega, by go_num, by rw [HT1.out, HT2.out, Ht.out, Hxy.out], rfl⟩
          case measure => simp [intOf]; omega
        · have hne := rec_neq_f hxy
          have HF := Lib.hid (show R = false by rw [HR.out]; simp; intro e; exact hxy (HG.out e))
          clear hxy
          go_wp2_with fail
          go_quiet (fail)
          go_wp2_with fail
          go_ret
          exact ⟨ret_bool HF.out.symm, ((Ext.refl w).drewN q).trans (by (repeat (first | with_reducible exact Ext.refl _ | with_reducible assumption | with_reducible refine Ext.alloc ?_ _ | with_reducible refine Ext.drewN ?_ _ | with_reducible refine Ext.drew ?_ | (with_reducible refine Ext.setCell ?_ ?hp _; case hp => (simp <;> omega)))))⟩
      · have HF := Lib.hid (show R = true by rw [HR.out]; have := Ht.out; have := Hl.out; rw [List.take_of_length_le (by omega), List.take_of_length_le (by omega)] at *; simp [*])
        go_wp2_with fail
        go_ret
        exact ⟨ret_bool HF.out.symm, (Ext.refl w).drewN q⟩
  · obtain ⟨f1, f2⟩ := ne_nats hl
    have HF := Lib.hid (show R = false by rw [HR.out]; simp; intro e; exact hl (by rw [e]))
    clear hl
    go_enter Tryz.func32, Tryz.ntmps32
    go_wp2_with fail
    go_ret
    exact ⟨ret_bool HF.out.symm, Ext.refl _⟩
end Go.Proofs.YthdlgmfeicikpaaGreatDoor
namespace Go.Proofs.YthdlgmfeicikpaaGreatDoor
set_option linter.unusedSimpArgs false
set_option linter.unusedVariables false
open Go.RowKit
set_option maxRecDepth 100000

def upB (b : UInt8) : UInt8 := if 97 ≤ b.toNat ∧ b.toNat ≤ 122 then b - 32 else b
def up (l : List UInt8) : List UInt8 := l.map upB
theorem length_up (l : List UInt8) : (up l).length = l.length := by simp [up]
theorem upB_up {b : UInt8} (h1 : 97 ≤ (b.toNat : Int)) (h2 : (b.toNat : Int) ≤ 122) : (b.toNat : Int) - 32 = (upB b).toNat := by
  unfold upB
  rw [if_pos ⟨by omega, by omega⟩, UInt8.toNat_sub]
  simp; omega
theorem upB_no {b : UInt8} (h : ¬ (97 ≤ (b.toNat : Int) ∧ (b.toNat : Int) ≤ 122)) : upB b = b := by
  unfold upB
  rw [if_neg (by omega)]
def upTo (l : List UInt8) (k : Nat) : Nat → UInt8 := fun j => if j < k then upB (l.getD j 0) else l.getD j 0
theorem upTo_step (l : List UInt8) (k : Nat) (h : k < l.length) (b : UInt8) (hb : l[k] = b) : ∀ j, upTo l (k + 1) j = if j = k then upB b else upTo l k j := by
  intro j
  unfold upTo
  by_cases e : j = k
  · subst e
    simp [h, hb]
  · rw [if_neg e]
    by_cases h1 : j < k
    · rw [if_pos h1, if_pos (by omega)]
    · rw [if_neg h1, if_neg (by omega)]

set_option maxHeartbeats 1000000 in
theorem law8_upper (l : List UInt8) (w : World) (hl : l.length ≤ maxLen) :
    Calls Tryz.prog 29 #[S l] w fun e w' => e = .returned (S (up l)) ∧ Ext w w' := by
  unfold maxLen at hl
  have hconv := run_bytes_of_string (P := Tryz.prog) w 9 74 5 ⟨l.toArray⟩ Tryz.underlying9 Tryz.underlying74 Tryz.underlying5
  generalize hC : bytesRow ⟨l.toArray⟩ (grownCap w (ByteArray.mk l.toArray).size 0 5) = C at hconv
  generalize grownCap w (ByteArray.mk l.toArray).size 0 5 = cap at hconv hC
  have HC := Lib.hid hC
  clear hC
  go_enter Tryz.func29, Tryz.ntmps29
  go_wp2
  go_loopw [4] (fun i wr => ∃ k : Nat, k ≤ l.length ∧ i = .int .i64 k ∧ BRow wr w.heap.size l.length (upTo l k) ∧ Ext w wr) (fun i _ => l.length - (intOf i).toNat)
  case atStart => exact ⟨0, by omega, rfl, brow_new w l cap C HC.out, ((Below.refl _ _).alloc (Nat.le_refl _) _).drew⟩
  case round =>
    obtain ⟨k, hk, rfl, hB, hE⟩ := hrel
    have HB := Lib.hid hB
    clear hB
    by_cases hlt : k < l.length
    · obtain ⟨b, Hb, hget, hwb, hbd⟩ := byte_at l k hlt
      have hc : wr.cell? ⟨w.heap.size, k, none⟩ = some (.int .u8 (b.toNat : Int)) := by
        rw [(HB.out k hlt).1]; simp [upTo, hlt, Hb.out]
      have hf : wr.frozen? ⟨w.heap.size, k, none⟩ = false := (HB.out k hlt).2
      have Hs := Lib.hid (upTo_step l k hlt b Hb.out)
      clear hget hwb
      go_wp2
      · go_roundw
        case rel => exact ⟨k + 1, by omega, by go_num, (HB.out.set hlt _ _ (upB_up ‹_› ‹_›)).congr fun j _ => Hs.out j, hE.setCell (Nat.le_refl _) _⟩
        case measure => simp [intOf]; omega
      all_goals
        go_roundw
        case rel => exact ⟨k + 1, by omega, by go_num, HB.out.congr fun j _ => by rw [Hs.out j, upB_no (by omega)]; (split; · (rename_i e; subst e; simp [upTo, hlt, Hb.out])); rfl, hE⟩
        case measure => simp [intOf]; omega
    · have hback := run_convert_bytes_back (P := Tryz.prog) wr 74 9 5 ⟨w.heap.size, 0, none⟩ cap (up l) Tryz.underlying74 Tryz.underlying5 Tryz.underlying9 (fun j hj => by
        have hj' : j < l.length := by rw [length_up] at hj; exact hj
        have := (HB.out j hj').1
        rw [show (Addr.add ⟨w.heap.size, 0, none⟩ j) = ⟨w.heap.size, j, none⟩ by unfold Addr.add; split <;> simp_all, this]
        simp [upTo, up, hj', show j < k by omega])
      rw [length_up] at hback
      go_wp2
      go_ret
      exact ⟨rfl, hE⟩

def addr8 (n : List UInt8) (b : UInt8) (ttl : Int) : RecD := ⟨n, 1, 1, ttl, [10, 0, 0, b]⟩
set_option maxHeartbeats 1000000 in
theorem law8_a (n : List UInt8) (b : UInt8) (x ttl : Int) (w : World) (hx : x = b.toNat) :
    Calls Tryz.prog 35 #[S n, .int .u8 x, .int .u32 ttl] w fun e w' => e = .returned (recVal (addr8 n b ttl)) ∧ Ext w w' := by
  have hconv : ∀ W : World, ∀ g, g = W.heap.size → (convert 74 9 (.slice (some ⟨g, 0, none⟩) 1 1)).run Tryz.prog (W.alloc (.cells #[.int .u8 x] 5)) = .ok (S [b]) (W.alloc (.cells #[.int .u8 x] 5)) := fun W g hg => by
    subst hg
    subst hx
    exact conv_str 1 (rd_new1 W W.heap.size 5 (U8 b) (Nat.le_refl _))
  clear hx
  have h1 := hconv (w.alloc (.cells #[.string ⟨#[]⟩, .int .u16 0, .int .u16 0, .int .u32 0, .string ⟨#[]⟩] 38)) (w.heap.size + 1) (by simp)
  clear hconv
  go_enter Tryz.func35, Tryz.ntmps35
  go_wp2_with fail
  refine bodyPost_ret (v := recVal (addr8 n b ttl)) ?_ rfl ⟨rfl, ?_⟩
  · simp [results, Tryz.results35, go_sem, addr8]
  · (repeat (first | with_reducible exact Ext.refl _ | with_reducible assumption | with_reducible refine Ext.alloc ?_ _ | with_reducible refine Ext.drewN ?_ _ | with_reducible refine Ext.drew ?_ | (with_reducible refine Ext.setCell ?_ ?hp _; case hp => (simp <;> omega))))
end Go.Proofs.YthdlgmfeicikpaaGreatDoor
