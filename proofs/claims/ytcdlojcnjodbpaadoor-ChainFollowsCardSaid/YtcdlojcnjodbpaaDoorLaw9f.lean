/- The walks of hustingslaw09: large, ChainFollows. -/
import Derived.Test.YtcdlojcnjodbpaaDoorLaw9c
import Derived.Test.YtcdlojcnjodbpaaDoorRef9
import Derived.Test.YtcdlojcnjodbpaaDoorSpoil
import Derived.Test.YtcdlojcnjodbpaaDoorOpen
namespace Go.Proofs.YtcdlojcnjodbpaaDoor
set_option linter.unusedSimpArgs false
set_option linter.unusedVariables false
open Go.RowKit
set_option maxRecDepth 100000

def wght (r : RecD) : Nat := 12 + min 4000 r.name.length + min 4000 r.data.length
def wsum (l : List RecD) : Nat := (l.map wght).sum
def largeB (l : List RecD) : Bool := decide (4000 ≤ wsum l)
theorem wsum_snoc (l : List RecD) (x : RecD) : wsum (l ++ [x]) = wsum l + wght x := by simp [wsum]
theorem wsum_take (l : List RecD) (k : Nat) : wsum (l.take k) ≤ wsum l := by
  have h : wsum (l.take k ++ l.drop k) = wsum (l.take k) + wsum (l.drop k) := by simp only [wsum, List.map_append, List.sum_append]
  rw [List.take_append_drop] at h
  omega
theorem wsum_mem {l : List RecD} {x : RecD} (h : x ∈ l) : wght x ≤ wsum l := by
  induction l with
  | nil => simp at h
  | cons a l ih =>
    simp only [wsum, List.map_cons, List.sum_cons]
    rcases List.mem_cons.1 h with rfl | h
    · omega
    · have := ih h; unfold wsum at this; omega
theorem wsum_len (l : List RecD) : 12 * l.length ≤ wsum l := by
  induction l with
  | nil => simp
  | cons a l ih =>
    simp only [wsum, List.map_cons, List.sum_cons, List.length_cons] at *
    unfold wght at *
    omega
theorem recsBd_of {l : List RecD} (h : largeB l = false) : RecsBd l := by
  have h1 : ¬ 4000 ≤ wsum l := of_decide_eq_false h
  have h2 := wsum_len l
  refine ⟨by omega, fun r hr => ?_⟩
  have h3 := wsum_mem hr
  unfold wght at h3
  omega
theorem int_eq {k : IntKind} {a b : Int} (h : a = b) : Value.int k a = Value.int k b := by rw [h]

set_option maxHeartbeats 2000000 in
theorem law_large (lo : Nat) (v : Value) (l : List RecD) (w : World) (h : Recs w lo v l) (hok : ∀ r ∈ l, RecOk r) :
    Calls Tryd.prog 11 #[v] w fun e w' => e = .returned (.bool (largeB l)) ∧ Ext w w' := by
  obtain ⟨A, c, rfl, h1, h2, hrd⟩ := h
  unfold maxLen at h2
  obtain ⟨B, hB⟩ : ∃ B, B = largeB l := ⟨_, rfl⟩
  rw [← hB]
  have HB := Lib.hid hB
  clear hB
  go_enter Tryd.func11, Tryd.ntmps11
  go_wp2_with fail
  go_loopw [3, 4] (fun n i wr => ∃ k q : Nat, k ≤ l.length ∧ i = .int .i64 k ∧ n = .int .i64 (wsum (l.take k)) ∧ wsum (l.take k) ≤ 12012 ∧ wr = w.drewN q) (fun _ i _ => l.length - (intOf i).toNat)
  case atStart => exact ⟨0, 0, by omega, rfl, rfl, by simp [wsum], rfl⟩
  case round =>
    obtain ⟨k, q, hk, rfl, rfl, hs, rfl⟩ := hrel
    have hst := wsum_take l k
    by_cases hlt : k < l.length
    · obtain ⟨b, off, rfl, _, hbz, hc⟩ := hrd.2 (by omega)
      have hcs := recs_cells hc k l[k] (List.getElem?_eq_getElem hlt)
      have hx := hok l[k] (List.getElem_mem hlt)
      have HT := Lib.hid (show wsum (l.take (k + 1)) = wsum (l.take k) + wght l[k] by rw [take_snoc l k hlt, wsum_snoc])
      generalize l[k] = x at *
      generalize wsum (l.take k) = s at *
      obtain ⟨nm, ty, cl, tt, da⟩ := x
      obtain ⟨x0, x1, x2, x3, x4⟩ := hcs
      unfold RecOk maxLen at hx
      dsimp only at *
      obtain ⟨hn1, hd1, _⟩ := hx
      have hki : (k : Int) < (l.length : Int) := by omega
      have hk0 : (0 : Int) ≤ (k : Int) := by omega
      clear hc
      by_cases hs4 : s < 4000
      · have hsi : (s : Int) < 4000 := by omega
        go_wp2_with fail
        go_quiet (fail)
        go_wp2_with fail
        go_roundw
        case rel => exact ⟨k + 1, _, by omega, by go_num, by rw [HT.out]; unfold wght; dsimp only; exact int_eq (by omega), by rw [HT.out]; unfold wght; dsimp only; omega, rfl⟩
        case measure => simp [intOf]; omega
      · have hsi : decide ((s : Int) < 4000) = false := by simp; omega
        have HF : Hid (B = true) := by show B = true; rw [HB.out]; unfold largeB; simp; omega
        have hge : (4000 : Int) ≤ (s : Int) := by omega
        go_wp2_with fail
        go_ret
        exact ⟨ret_bool HF.out.symm, (Ext.refl w).drewN q⟩
    · have e1 : l.take k = l := List.take_of_length_le (by omega)
      rw [e1] at *
      have HF : Hid (B = decide ((4000 : Int) ≤ (wsum l : Int))) := by show B = _; rw [HB.out]; unfold largeB; simp; omega
      go_wp2_with fail
      go_ret
      exact ⟨ret_bool HF.out.symm, (Ext.refl w).drewN q⟩

set_option maxHeartbeats 4000000 in
theorem law_chainFollows (n : List UInt8) (ty cl : Int) (v : Value) (l : List RecD) (w : World) (hg : Laid w) (h : Recs w 0 v l) (hok : ∀ r ∈ l, RecOk r) (hn : n.length ≤ maxLen) :
    Calls Tryd.prog 4 #[.agg #[S n, .int .u16 ty, .int .u16 cl], v] w fun e w' => e = .returned (.bool true) ∧ Ext w w' := by
  have HL := Lib.hid (fun W (hW : Ext w W) => law_large 0 v l W (h.ext hW) hok)
  have HA := Lib.hid (fun W (hW : Ext w W) => law_awake W (hg.ext hW))
  obtain ⟨A, c, rfl, h1, h2, h3⟩ := h
  have h : Recs w 0 (.slice A l.length c) l := ⟨A, c, rfl, h1, h2, h3⟩
  have Hh := Lib.hid h
  clear h h3
  unfold maxLen at hn h2
  rcases hlg : largeB l with _ | _
  · have hbd := recsBd_of hlg
    rw [hlg] at HL
    have HG := Lib.hid (fun W (hW : Ext w W) => ref_group 0 _ l W (Hh.out.ext hW) hbd)
    have hsb := groupR_bd hbd
    clear hlg
    by_cases hq : n.length ≤ 1000
    · have hqi : ¬ (1000 : Int) < (n.length : Int) := by omega
      have hqd : decide ((1000 : Int) < (n.length : Int)) = false := by simpa using hqi
      have HR := Lib.hid (fun W x g (hS : Sets W x g (groupR l)) => ref_follow x n ty cl g (groupR l) W hS hsb (by omega))
      have HF := Lib.hid (fun W (hW : Ext w W) x g (hS : Sets W x g (groupR l)) => chain_follow x n ty cl g (groupR l) W (hg.ext hW) hS hsb (by omega))
      generalize groupR l = sets at *
      generalize followOf n ty cl sets = R at *
      obtain ⟨path, here, fin, err⟩ := R
      clear hbd hsb
      go_enter Tryd.func4, Tryd.ntmps4
      go_wp2_with fail
      refine (HL.out _ ((Ext.refl _).alloc _)).mono ?_; rintro e w1 ⟨rfl, hE1⟩
      obtain ⟨b1, _, bz1⟩ := ext_new hE1
      have b10 : w1.cell? ⟨w.heap.size, 0, none⟩ = some (S n) := b1 0
      clear b1
      go_wp2_with fail
      refine (HG.out _ (((Ext.refl _).alloc _).trans hE1)).mono ?_; rintro e w2 ⟨g1, rfl, ho1, hE2⟩
      obtain ⟨gA1, gc1, rfl, k1, k2⟩ := ho1.shape
      go_wp2_with fail
      have hE2w := (((Ext.refl w).alloc (.cells #[S n, .int .u16 ty, .int .u16 cl] 33)).trans hE1).trans hE2
      refine (HG.out _ hE2w).mono ?_; rintro e w3 ⟨g2, rfl, ho2, hE3⟩
      obtain ⟨gA2, gc2, rfl, k3, k4⟩ := ho2.shape
      obtain ⟨b3, _, bz3⟩ := ext_new ((hE1.trans hE2).trans hE3)
      have b30 : w3.cell? ⟨w.heap.size, 0, none⟩ = some (S n) := b3 0
      have b31 : w3.cell? ⟨w.heap.size, 1, none⟩ = some (.int .u16 ty) := b3 1
      have b32 : w3.cell? ⟨w.heap.size, 2, none⟩ = some (.int .u16 cl) := b3 2
      clear b3 b10 bz1
      go_wp2_with fail
      refine (HR.out _ _ _ ho2.sets).mono ?_; rintro e w4 ⟨v4, u4, rfl, hv4, hu4, hE4⟩
      have hE4w := (hE2w.trans hE3).trans hE4
      have hEq4 := ((hE1.trans hE2).trans hE3).trans hE4
      have hs4 := ho1.ext (hE3.trans hE4)
      have ht4 := ho2.ext hE4
      dsimp only at hv4 hu4 ⊢
      clear b30 b31 b32 bz3 ho1 ho2 hE1 hE2 hE3 hE4 hE2w
      go_wp2_with fail
      go_loopw [11] (fun i wr => ∃ k : Nat, k ≤ 2 ∧ i = .int .i64 k ∧ Ext w4 wr) (fun i _ => 2 - (intOf i).toNat)
      case atStart => exact ⟨0, by omega, rfl, Ext.refl _⟩
      case round =>
        obtain ⟨k, hk, rfl, hE⟩ := hrel
        obtain ⟨wo, rfl⟩ : ∃ wo : World, wo = wr := ⟨_, rfl⟩
        obtain ⟨b3, _, bz3⟩ := ext_new (hEq4.trans hE)
        have b30 : wo.cell? ⟨w.heap.size, 0, none⟩ = some (S n) := b3 0
        have b31 : wo.cell? ⟨w.heap.size, 1, none⟩ = some (.int .u16 ty) := b3 1
        have b32 : wo.cell? ⟨w.heap.size, 2, none⟩ = some (.int .u16 cl) := b3 2
        clear b3
        by_cases hlt : k < 2
        · go_wp2_with fail
          refine (HF.out _ (hE4w.trans hE) _ _ (hs4.ext hE).sets).mono ?_; rintro e w5 ⟨v5, u5, wm, rfl, ho5, hEm, hp5, hEn⟩
          dsimp only at ho5 hp5 ⊢
          go_wp2_with fail
          refine (ref_sameAll path path _ _ _ _ _ (ho5.ext hEn).sets (hv4.ext (hE.trans (hEm.trans hEn)))).mono ?_; rintro e w6 ⟨rfl, hE6⟩
          rw [decide_eq_true rfl]
          go_wp2_with fail
          refine (ref_sameAll fin fin _ _ _ _ _ (hp5.ext hE6).sets (hu4.ext ((hE.trans (hEm.trans hEn)).trans hE6))).mono ?_; rintro e w7 ⟨rfl, hE7⟩
          rw [decide_eq_true rfl]
          go_wp2_with fail
          refine (law_spoil _ _ path wm _ ho5 (hEn.trans (hE6.trans hE7))).mono ?_; rintro e w8 ⟨rfl, hB8⟩
          have hp8 := (hp5.ext (hE6.trans hE7)).betw hB8 (Nat.le_refl _)
          have hE8 : Ext wo w8 := Betw.ext (hEm.trans (hEn.trans (hE6.trans hE7))) hB8 (Nat.le_refl _)
          go_wp2_with fail
          refine (law_spoil _ _ fin _ _ hp8 (Ext.refl _)).mono ?_; rintro e w9 ⟨rfl, hB9⟩
          have hE9 : Ext wo w9 := Betw.ext hE8 hB9 hEm.size
          go_wp2_with fail
          go_roundw
          case rel => exact ⟨k + 1, by omega, by go_num, hE.trans hE9⟩
          case measure => simp [intOf]; omega
        · go_wp2_with fail
          refine (ref_sameAll sets sets _ _ _ _ _ (hs4.ext hE).sets (ht4.ext hE).sets).mono ?_; rintro e w6 ⟨rfl, hE6⟩
          rw [decide_eq_true rfl]
          go_wp2_with fail
          refine (HA.out _ ((hE4w.trans hE).trans hE6)).mono ?_; rintro e w7 ⟨rfl, hE7⟩
          go_wp2_with fail
          go_ret
          exact ⟨rfl, ((hE4w.trans hE).trans hE6).trans hE7⟩
    · have hqi : (1000 : Int) < (n.length : Int) := by omega
      go_enter Tryd.func4, Tryd.ntmps4
      go_wp2_with fail
      refine (HL.out _ ((Ext.refl _).alloc _)).mono ?_; rintro e w1 ⟨rfl, hE1⟩
      obtain ⟨b1, _, bz1⟩ := ext_new hE1
      have b10 : w1.cell? ⟨w.heap.size, 0, none⟩ = some (S n) := b1 0
      clear b1
      go_wp2_with fail
      refine (HA.out _ (((Ext.refl _).alloc _).trans hE1)).mono ?_; rintro e w2 ⟨rfl, hE2⟩
      go_wp2_with fail
      go_ret
      exact ⟨rfl, (((Ext.refl _).alloc _).trans hE1).trans hE2⟩
  · rw [hlg] at HL
    clear hlg
    go_enter Tryd.func4, Tryd.ntmps4
    go_wp2_with fail
    refine (HL.out _ ((Ext.refl _).alloc _)).mono ?_; rintro e w1 ⟨rfl, hE1⟩
    go_wp2_with fail
    refine (HA.out _ (((Ext.refl _).alloc _).trans hE1)).mono ?_; rintro e w2 ⟨rfl, hE2⟩
    go_wp2_with fail
    go_ret
    exact ⟨rfl, (((Ext.refl _).alloc _).trans hE1).trans hE2⟩
end Go.Proofs.YtcdlojcnjodbpaaDoor
