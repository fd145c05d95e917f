/- The walks of package rdata: May, Fold. -/
import Derived.Test.YthdlgmfeicikpaaGreatDoorSets1
import Derived.Test.YthdlgmfeicikpaaGreatDoorName1
namespace Go.Proofs.YthdlgmfeicikpaaGreatDoor
set_option linter.unusedSimpArgs false
set_option linter.unusedVariables false
open Go.RowKit
set_option maxRecDepth 100000

theorem rdata_may (kind : Int) (data : List UInt8) (w : World) (hg : Laid w) (hl : data.length ≤ 1048576) :
    Calls Tryz.prog 43 #[.int .u16 kind, S data] w fun e w' => e = .returned (.bool (rmay kind data)) ∧ Ext w w' := by
  have Hs := Lib.hid (rdata_whole kind data w hg hl)
  unfold WholePost at Hs
  have hm : rmay kind data = (wholeOf kind data).isSome := rfl
  rw [hm]
  clear hm
  generalize (wholeOf kind data).isSome = ok at *
  generalize partsOf kind data = l at *
  go_enter Tryz.func43, Tryz.ntmps43
  go_wp2_with fail
  refine Hs.out.mono ?_; rintro e w1 ⟨v, rfl, ⟨A, c, rfl, hown⟩, hE1⟩
  go_wp2_with fail
  go_ret
  exact ⟨rfl, hE1⟩

def foldPc (p : Pc) : List UInt8 := if p.nm then fold p.text else p.text
def foldTo (l : List Pc) (k : Nat) : List UInt8 := (l.take k).flatMap foldPc
theorem foldTo_step (l : List Pc) (k : Nat) (h : k < l.length) : foldTo l (k + 1) = foldTo l k ++ foldPc l[k] := by
  unfold foldTo; rw [take_snoc l k h, List.flatMap_append]; simp
theorem foldPc_len (p : Pc) : (foldPc p).length ≤ p.text.length := by
  unfold foldPc
  split
  · unfold fold
    split
    · rw [length_low]; omega
    · simp
  · omega
theorem foldTo_len (l : List Pc) (B : Nat) (hB : ∀ p ∈ l, p.text.length ≤ B) : ∀ k, k ≤ l.length → (foldTo l k).length ≤ k * B
  | 0, _ => by simp [foldTo]
  | k + 1, h => by
    rw [foldTo_step l k (by omega), List.length_append, Nat.add_mul]
    have := foldTo_len l B hB k (by omega)
    have := foldPc_len l[k]
    have := hB l[k] (List.getElem_mem (by omega))
    omega

set_option maxHeartbeats 1000000 in
theorem rdata_fold (kind : Int) (data : List UInt8) (w : World) (hg : Laid w) (hl : data.length ≤ 1048576) :
    Calls Tryz.prog 25 #[.int .u16 kind, S data] w fun e w' => e = .returned (S (rfold kind data)) ∧ Ext w w' := by
  have Hs := Lib.hid (rdata_whole kind data w hg hl)
  have hbd := partsOf_bd kind data
  have hR : rfold kind data = foldTo (partsOf kind data) (partsOf kind data).length := by unfold rfold foldTo; rw [List.take_length]; rfl
  rw [hR]
  clear hR
  unfold WholePost at Hs
  generalize (wholeOf kind data).isSome = ok at *
  generalize partsOf kind data = l at *
  obtain ⟨i0, hi0, hz0, hz1, hz2⟩ := info_parts info_u8
  go_enter Tryz.func25, Tryz.ntmps25
  go_wp2_with fail
  refine Hs.out.mono ?_; rintro e w1 ⟨v, rfl, ⟨A, c, rfl, hown⟩, hE1⟩
  have hrd := hown.rd
  have hl3 := hbd.1
  have hft := foldTo_len l (data.length + 255) hbd.2
  have hb2 := hbd.2
  clear hown hbd Hs
  go_wp2_with fail
  go_loopw [7, 18] (fun o i wr => ∃ (k : Nat) (B : Option Addr) (d : Nat), k ≤ l.length ∧ i = .int .i64 k ∧ o = .slice B (foldTo l k).length d ∧ Own wr w1.heap.size 5 1 B (foldTo l k).length d ((foldTo l k).map U8) ∧ Ext w1 wr) (fun _ i _ => l.length - (intOf i).toNat)
  case atStart => exact ⟨0, none, 0, by omega, rfl, rfl, Own.nil _ _ _ _, Ext.refl _⟩
  case round =>
    obtain ⟨k, B, d, hk, rfl, rfl, hown, hE⟩ := hrel
    obtain ⟨wo, rfl⟩ : ∃ wo : World, wo = wr := ⟨_, rfl⟩
    by_cases hlt : k < l.length
    · have hp : l[k]? = some l[k] := List.getElem?_eq_getElem hlt
      have Hst := Lib.hid (foldTo_step l k hlt)
      have htl := hft k hk
      have htb := hb2 l[k] (List.getElem_mem hlt)
      generalize l[k] = p at *
      generalize foldTo l k = T at *
      obtain ⟨b, off, rfl, _, hbz, hc⟩ := hrd.2 (by omega)
      obtain ⟨h0, h1', h2⟩ := pcs_cells (lo := 0) (n := 0) hc k p hp
      rw [← hE.cell (p := ⟨b, _, none⟩) hbz] at h0 h1' h2
      have hbz2 : b < wo.heap.size := Nat.lt_of_lt_of_le hbz hE.size
      have hT : T.length ≤ 4194304 := by
        have : k * (data.length + 255) ≤ 3 * (1048576 + 255) := Nat.mul_le_mul (by omega) (by omega)
        omega
      clear hc hp hrd hft hb2 htl
      obtain ⟨pt, pn, px⟩ := p
      dsimp only at *
      rcases pn with _ | _
      · have HF : Hid (foldPc ⟨pt, false, px⟩ = pt) := rfl
        go_wp2_with (
           at_builtin
           refine wpList_app_str _ rfl (.tmp 29) (.tmp 31) _ _ rfl w1.heap.size 5 i0 Tryz.underlying74 Tryz.underlying9 hi0 hz0 hz1 hz2 B T.length d (T.map U8) rfl (hown.ext ((Ext.refl _).alloc _)) pt rfl (by omega) (by have := hE.size; simp; omega) ?_
           intro A5 c5 w5 hown5 hg5 hb5)
        go_roundw
        case rel =>
          refine ⟨k + 1, A5, c5, by omega, by go_num, by rw [Hst.out, HF.out, List.length_append], ?_, (hE.alloc _).then hb5 (Nat.le_refl _)⟩
          rw [Hst.out, HF.out, List.length_append, List.map_append]; exact hown5
        case measure => simp [intOf]; omega
      · have HF : Hid (foldPc ⟨pt, true, px⟩ = fold pt) := rfl
        have hfl : (fold pt).length ≤ 255 := by
          unfold fold
          split
          · rename_i h; rw [length_low]; exact may_le h
          · simp
        have HC := Lib.hid (fun W => name_fold pt W (by unfold maxLen; omega))
        generalize fold pt = fp at *
        go_wp2_with (first
          | (go_at_call 24; refine (HC.out _).mono ?_; rintro e w2 ⟨rfl, hE2⟩)
          | (at_builtin
             refine wpList_app_str _ rfl (.tmp 24) (.tmp 27) _ _ rfl w1.heap.size 5 i0 Tryz.underlying74 Tryz.underlying9 hi0 hz0 hz1 hz2 B T.length d (T.map U8) rfl ((hown.ext ((Ext.refl _).alloc _)).ext hE2) fp rfl (by omega) (by have := ((hE.alloc _).trans hE2).size; omega) ?_
             intro A5 c5 w5 hown5 hg5 hb5))
        go_roundw
        case rel =>
          refine ⟨k + 1, A5, c5, by omega, by go_num, by rw [Hst.out, HF.out, List.length_append], ?_, ((hE.alloc _).trans hE2).then hb5 (Nat.le_refl _)⟩
          rw [Hst.out, HF.out, List.length_append, List.map_append]; exact hown5
        case measure => simp [intOf]; omega
    · have e1 : k = l.length := by omega
      subst e1
      have hconv := conv_str (w := wo) d hown.rd

      go_wp2_with fail
      go_ret
      exact ⟨rfl, hE1.trans hE⟩
end Go.Proofs.YthdlgmfeicikpaaGreatDoor
