/- Contracts of functions and plain lemmas that the proofs of this seat share (joined texts). No condition. -/
import Derived.Test.YtdnpmapelmjfpaaGreatDoorRrs
import Derived.Test.YtdnpmapelmjfpaaGreatDoorRpr
namespace Go.Proofs.YtdnpmapelmjfpaaGreatDoor
set_option linter.unusedSimpArgs false
set_option linter.unusedVariables false
open Go.RowKit
set_option maxRecDepth 100000
def FewR (l : List RecD) : Prop := l.length ≤ 80 ∧ ∀ r ∈ l, r.name.length ≤ 400 ∧ r.data.length ≤ 600
theorem FewR.bd {l : List RecD} (h : FewR l) : RecsBd l := ⟨by have := h.1; omega, fun r hr => by have := h.2 r hr; omega⟩
theorem few_step {l : List RecD} {k : Nat} {r : RecD} (h : ∀ x ∈ l.take k, x.name.length ≤ 400 ∧ x.data.length ≤ 600) (hr : l[k]? = some r) (h2 : r.name.length ≤ 400 ∧ r.data.length ≤ 600) : ∀ x ∈ l.take (k + 1), x.name.length ≤ 400 ∧ x.data.length ≤ 600 := by
  obtain ⟨hk, rfl⟩ := List.getElem?_eq_some_iff.1 hr
  rw [take_snoc l k hk]
  intro x hx
  rcases List.mem_append.1 hx with h' | h'
  · exact h x h'
  · rw [List.mem_singleton] at h'; rw [h']; exact h2
def FewPost (l : List RecD) (w : World) (e : Ending) (w' : World) : Prop := ∃ B, e = .returned (.bool B) ∧ (B = true → FewR l) ∧ w = w'
set_option maxHeartbeats 2000000 in
theorem law30_few (lo : Nat) (v : Value) (l : List RecD) (w : World) (h : Recs w lo v l) (hs : ∀ r ∈ l, r.name.length ≤ maxLen ∧ r.data.length ≤ maxLen) : Calls Tryz.prog 15 #[v] w (FewPost l w) := by
  obtain ⟨A, c, rfl, h1, h2, hrd⟩ := h
  unfold maxLen at h2 hs
  have HEnd := Lib.hid (show l.take l.length = l from List.take_length)
  by_cases h80 : 80 < l.length
  · have h80i : (80 : Int) < (l.length : Int) := by omega
    go_enter Tryz.func15, Tryz.ntmps15
    go_wp2_with fail
    go_ret
    exact ⟨false, rfl, (fun h => by cases h), rfl⟩
  have h80i : ¬ (80 : Int) < (l.length : Int) := by omega
  go_enter Tryz.func15, Tryz.ntmps15
  go_wp2_with fail
  go_loopw [3] (fun s3 wr => ∃ k : Nat, k ≤ l.length ∧ s3 = .int .i64 k ∧ (∀ x ∈ l.take k, x.name.length ≤ 400 ∧ x.data.length ≤ 600) ∧ w = wr) (fun s3 _ => l.length - (intOf s3).toNat)
  case atStart => exact ⟨0, Nat.zero_le _, rfl, by simp, rfl⟩
  case round =>
    obtain ⟨k, hk, rfl, hall, rfl⟩ := hrel
    have HAl := Lib.hid hall
    clear hall
    by_cases hkl : k < l.length
    · obtain ⟨b, off, rfl, _, _, hc⟩ := hrd.2 (by omega)
      have hlk : l[k]? = some l[k] := List.getElem?_eq_getElem hkl
      obtain ⟨c0, _, _, _, c4⟩ := recs_cells hc k l[k] hlk
      have hsl := hs l[k] (List.getElem_mem hkl)
      have HSt := Lib.hid (fun h2 => few_step HAl.out hlk h2)
      have HKl := Lib.hid hkl
      generalize l[k] = r at *
      obtain ⟨nm, ty, cl, tt, da⟩ := r
      dsimp only at *
      have hki : (k : Int) < (l.length : Int) := by omega
      have hk0 : (0 : Int) ≤ (k : Int) := by omega
      clear hc hlk
      by_cases hn : 400 < nm.length
      · have hni : (400 : Int) < (nm.length : Int) := by omega
        go_wp2_with fail
        go_ret
        exact ⟨false, rfl, (fun h => by cases h), rfl⟩
      have hni : ¬ (400 : Int) < (nm.length : Int) := by omega
      by_cases hd : 600 < da.length
      · have hdi : (600 : Int) < (da.length : Int) := by omega
        go_wp2_with fail
        go_ret
        exact ⟨false, rfl, (fun h => by cases h), rfl⟩
      have hdi : ¬ (600 : Int) < (da.length : Int) := by omega
      have HS2 := Lib.hid (HSt.out ⟨by omega, by omega⟩)
      go_wp2_with fail
      go_roundw
      case rel => exact ⟨k + 1, by have := HKl.out; omega, by go_num, HS2.out, by first | rfl | trivial⟩
      case measure => (have := HKl.out); simp [intOf]; omega
    · obtain rfl : k = l.length := by omega
      rw [HEnd.out] at HAl
      go_wp2_with fail
      go_ret
      exact ⟨true, rfl, (fun _ => ⟨by omega, HAl.out⟩), rfl⟩
def ZonePost (w : World) (e : Ending) (w' : World) : Prop := ∃ A, e = .returned (.slice A 3 3) ∧ Recs w' 0 (.slice A 3 3) zone30 ∧ Ext w w'
set_option maxHeartbeats 1000000 in
theorem law30_zone (w : World) : Calls Tryz.prog 37 #[] w (ZonePost w) := by
  go_enter Tryz.func37, Tryz.ntmps37
  go_wp2_with fail
  go_ret
  refine ⟨some ⟨w.heap.size, 0, none⟩, rfl, ⟨_, 3, rfl, by decide, by unfold maxLen; decide, ?_⟩, (Ext.refl _).alloc _⟩
  exact rd_new w w.heap.size rfl 99 (zone30.flatMap recCells) 3 5 rfl
set_option maxHeartbeats 1000000 in
theorem law30_asked (n : List UInt8) (w : World) (hn : n.length ≤ 1048576) : Calls Tryz.prog 38 #[S n, .int .u16 1] w (StrPost (ask30 n) w) := by
  have hrw : Rd (w.alloc (.cells #[.int .u8 0, .int .u8 1] 5)) 0 1 (some ⟨w.heap.size, 0, none⟩) 2 (([0, 1] : List UInt8).map U8) := rd_new _ _ rfl _ _ 2 1 rfl
  have hcv := conv_str 2 hrw
  clear hrw
  go_enter Tryz.func38, Tryz.ntmps38
  go_wp2_with fail
  go_ret
  refine ⟨?_, (Ext.refl _).alloc _⟩
  show Ending.returned (S (0 :: 7 :: 1 :: 0 :: 0 :: 1 :: 0 :: 0 :: 0 :: 0 :: 0 :: 0 :: (n ++ [0, 1, 0, 1]))) = _
  unfold ask30
  simp
set_option maxHeartbeats 4000000 in
theorem law30_awake (w : World) (hg : Laid w) (hb : BitsAt w) : Calls Tryz.prog 16 #[] w fun e w' => e = .returned (.bool true) ∧ Ext w w' := by
  have HZ := Lib.hid (law30_zone w)
  have HN := Lib.hid (fun V v (hV : Ext w V) (hv : Recs V 0 v zone30) => res_new 0 v zone30 V (hg.ext hV) hv zone30_bd (recsOk_wf zone30_wf))
  have HA := Lib.hid (fun n V (hn : n.length ≤ 1048576) => law30_asked n V hn)
  unfold ZonePost at HZ
  unfold StrPost at HA
  go_enter Tryz.func16, Tryz.ntmps16
  go_wp2_with fail
  refine HZ.out.mono ?_
  rintro e w1 ⟨A, rfl, hz, hE1⟩
  have HN1 := Lib.hid (HN.out w1 _ hE1 hz)
  go_wp2_with fail
  refine HN1.out.mono ?_
  rintro e w2 (⟨_, R, gv, rfl, hRl, hR, ho, hE2⟩ | ⟨hno, _⟩)
  rotate_left
  · rw [zone30_ok] at hno; cases hno
  have hw2 : Ext w w2 := hE1.trans hE2
  have hS2 := (ho.sets.lower (Nat.zero_le _))
  have HR := Lib.hid (fun (d : List UInt8) V (hV : Ext w2 V) (hd : d.length ≤ 1048576) => res_answer zone30 gv R d V (hg.ext (hw2.trans hV)) (hb.ext (hw2.trans hV)) (box_cell ((hV.block _ (Array.getElem?_eq_some_iff.1 hR).1).trans hR) rfl) (hS2.ext hV) zone30_bd zone30_wf hd)
  unfold StrPost at HR
  clear ho hS2 hRl hR
  go_wp2_with fail
  refine (HA.out _ _ (by decide)).mono ?_
  rintro e w3 ⟨rfl, hE3⟩
  go_wp2_with fail
  refine (HR.out _ _ hE3 (by decide)).mono ?_
  rw [res30a]
  rintro e w4 ⟨rfl, hE4⟩
  have hE24 : Ext w2 w4 := hE3.trans hE4
  go_wp2_with fail
  refine (HA.out _ _ (by decide)).mono ?_
  rintro e w5 ⟨rfl, hE5⟩
  go_wp2_with fail
  refine (HR.out _ _ (hE24.trans hE5) (by decide)).mono ?_
  rw [res30b]
  rintro e w6 ⟨rfl, hE6⟩
  go_wp2_with fail
  go_ret
  exact ⟨rfl, ((hw2.trans hE24).trans hE5).trans hE6⟩
end Go.Proofs.YtdnpmapelmjfpaaGreatDoor
