/- The walks of hustingsref01: Labels, May, Low. -/
import Derived.Test.YthdlgmfeicikpaaGreatDoorRdata4
import Derived.Test.YthdlgmfeicikpaaGreatDoorName1
namespace Go.Proofs.YthdlgmfeicikpaaGreatDoor
set_option linter.unusedSimpArgs false
set_option linter.unusedVariables false
open Go.RowKit
set_option maxRecDepth 100000

theorem conv1 (W : World) (g : Nat) (hg : g = W.heap.size) (x : Int) (c : UInt8) (h : x = c.toNat) : (convert 74 9 (.slice (some ⟨g, 0, none⟩) 1 1)).run Tryz.prog (W.alloc (.cells #[.int .u8 x] 5)) = .ok (S [c]) (W.alloc (.cells #[.int .u8 x] 5)) := by
  subst hg h
  exact conv_str (lo := 0) 1 (l := [c]) (rd_new W _ rfl _ _ 1 1 rfl)

theorem app_mk (a b : List UInt8) : (ByteArray.mk a.toArray) ++ (ByteArray.mk b.toArray) = ByteArray.mk (a ++ b).toArray := by
  apply ByteArray.ext
  simp
attribute [go_sem] app_mk

set_option maxHeartbeats 1000000 in
theorem ref_low (l : List UInt8) (w : World) (hl : l.length ≤ 1048576) :
    Calls Tryz.prog 75 #[S l] w fun e w' => e = .returned (S (low l)) ∧ Ext w w' := by
  go_enter Tryz.func75, Tryz.ntmps75
  go_wp2
  go_loopw [3, 4, 5] (fun o i _ wr => ∃ k : Nat, k ≤ l.length ∧ i = .int .i64 k ∧ o = S (low (l.take k)) ∧ Ext w wr) (fun _ i _ _ => l.length - (intOf i).toNat)
  case atStart => exact ⟨0, by omega, rfl, rfl, Ext.refl _⟩
  case round =>
    obtain ⟨k, hk, rfl, rfl, hE⟩ := hrel
    obtain ⟨wo, rfl⟩ : ∃ wo : World, wo = wr := ⟨_, rfl⟩
    by_cases hlt : k < l.length
    · obtain ⟨b, Hb, hget, hwb, hbd⟩ := byte_at l k hlt
      have Hst := Lib.hid (show low (l.take (k + 1)) = low (l.take k) ++ [lowB b] by rw [take_snoc l k hlt, Hb.out]; simp [low])
      have hTl : (low (l.take k)).length ≤ 1048576 := by rw [length_low]; simp; omega
      by_cases h1 : 65 ≤ (b.toNat : Int) ∧ (b.toNat : Int) ≤ 90
      · obtain ⟨h1, h2⟩ := h1
        have hcv := conv1 wo wo.heap.size rfl _ _ (lowB_up h1 h2)
        generalize lowB b = c at *
        generalize low (l.take k) = T at *
        go_wp2
        go_roundw
        case rel => exact ⟨k + 1, by omega, by go_num, by rw [Hst.out], hE.alloc _⟩
        case measure => simp [intOf]; omega
      · have Hno := Lib.hid (lowB_no h1)
        rw [Hno.out] at Hst
        have hcv := conv1 wo wo.heap.size rfl (b.toNat : Int) b rfl
        generalize low (l.take k) = T at *
        by_cases h2 : 65 ≤ (b.toNat : Int)
        · have h3 : 90 < (b.toNat : Int) := by omega
          clear h1
          go_wp2
          go_roundw
          case rel => exact ⟨k + 1, by omega, by go_num, by rw [Hst.out], hE.alloc _⟩
          case measure => simp [intOf]; omega
        · clear h1
          go_wp2
          go_roundw
          case rel => exact ⟨k + 1, by omega, by go_num, by rw [Hst.out], hE.alloc _⟩
          case measure => simp [intOf]; omega
    · have e1 : l.take k = l := List.take_of_length_le (by omega)
      rw [e1]
      clear e1
      go_wp2
      go_ret
      exact ⟨rfl, hE⟩

/-! ### Labels -/
theorem parse_step (l : List UInt8) (k : Nat) (h : k < l.length) (b : UInt8) (hb : l[k] = b) (h0 : b.toNat ≠ 0) (h1 : b.toNat ≤ 63) :
    parse (l.drop k) = (parse (l.drop (k + 1 + b.toNat))).map ((l.drop (k + 1)).take b.toNat :: ·) := by
  rw [drop_cons l k h, hb, parse_cons, if_neg (fun e => h0 (by rw [e]; rfl)), if_neg (by omega), List.drop_drop]
theorem parse_none_of {l : List UInt8} {ls : List (List UInt8)} {X : Option (List (List UInt8))} (h : parse l = X.map (ls ++ ·)) (hx : X = none) : labelsOf l = none := by
  unfold labelsOf; split
  · rw [h, hx]; rfl
  · rfl

def LabPost (r : Option (List (List UInt8))) (w : World) (e : Ending) (w' : World) : Prop := ∃ v, e = .returned (.tuple #[v, .bool r.isSome]) ∧ OStrs w' w.heap.size v (r.getD []) ∧ Ext w w'

set_option maxHeartbeats 1000000 in
theorem ref_labels (l : List UInt8) (w : World) (hl : l.length ≤ 1048576) : Calls Tryz.prog 73 #[S l] w (LabPost (labelsOf l) w) := by
  obtain ⟨R, hR⟩ : ∃ R, R = labelsOf l := ⟨_, rfl⟩
  rw [← hR]
  have HR := Lib.hid hR
  clear hR
  obtain ⟨i0, hi0, hz0, hz1, hz2⟩ := info_parts info_str
  go_enter Tryz.func73, Tryz.ntmps73
  go_wp2
  go_loopw [4, 5] (fun o i wr => ∃ (k : Nat) (ls : List (List UInt8)) (B : Option Addr) (d : Nat), k ≤ l.length ∧ ls.length ≤ k ∧ i = .int .i64 k ∧ o = .slice B ls.length d ∧ Own wr w.heap.size 9 1 B ls.length d (ls.map S) ∧ Ext w wr ∧ parse l = (parse (l.drop k)).map (ls ++ ·)) (fun _ i _ => l.length - (intOf i).toNat)
  case atStart => exact ⟨0, [], none, 0, by omega, by simp, rfl, rfl, Own.nil _ _ _ _, Ext.refl _, by simp⟩
  case round =>
    obtain ⟨k, ls, B, d, hk, hls, rfl, rfl, hown, hE, hpa⟩ := hrel
    obtain ⟨wo, rfl⟩ : ∃ wo : World, wo = wr := ⟨_, rfl⟩
    have Hpa := Lib.hid hpa
    clear hpa
    by_cases hlt : k < l.length
    · obtain ⟨b, Hb, hget, hwb, hbd⟩ := byte_at l k hlt
      by_cases h0 : b.toNat = 0
      · have H0 := Lib.hid (show b = 0 from UInt8.toNat_inj.1 (by simpa using h0))
        have f1 : ((b.toNat : Int) == 0) = true := by rw [h0]; rfl
        have f2 : ((b.toNat : Int) != 0) = false := by rw [bne, f1]; rfl
        have HP : Hid (parse (l.drop k) = if l.drop (k + 1) = [] then some [] else none) := by
          show _ = _
          rw [drop_cons l k hlt, Hb.out, H0.out, parse_cons, if_pos rfl]
        clear h0
        by_cases he : k = l.length - 1
        · have hd : l.drop (k + 1) = [] := List.drop_of_length_le (by omega)
          have g1 : ((k : Int) == (l.length : Int) - 1) = true := by rw [beq_iff_eq]; omega
          have g2 : ((k : Int) != (l.length : Int) - 1) = false := by rw [bne, g1]; rfl
          have HP2 := Lib.hid (show parse l = some ls by rw [Hpa.out, HP.out, if_pos hd]; simp)
          clear hd he
          by_cases h255 : l.length ≤ 255
          · have HF := Lib.hid (show R = some ls by rw [HR.out]; unfold labelsOf; rw [if_pos h255, HP2.out])
            have h255' : ¬ 255 < (l.length : Int) := by omega
            go_wp2_with fail
            go_ret2
            refine ⟨_, by rw [HF.out]; rfl, ?_, hE⟩
            rw [HF.out]; exact ⟨B, d, rfl, hown⟩
          · have HF := Lib.hid (show R = none by rw [HR.out]; unfold labelsOf; rw [if_neg h255])
            have h255' : 255 < (l.length : Int) := by omega
            go_wp2_with fail
            go_ret2
            refine ⟨_, by rw [HF.out]; rfl, ?_, hE⟩
            rw [HF.out]; exact ⟨none, 0, rfl, Own.nil _ _ _ _⟩
        · have hd : l.drop (k + 1) ≠ [] := by simp; omega
          have g1 : ((k : Int) == (l.length : Int) - 1) = false := by rw [beq_eq_false_iff_ne]; omega
          have g2 : ((k : Int) != (l.length : Int) - 1) = true := by rw [bne, g1]; rfl
          have HF := Lib.hid (show R = none by rw [HR.out]; exact parse_none_of Hpa.out (by rw [HP.out, if_neg hd]))
          clear hd he
          go_wp2_with fail
          go_ret2
          refine ⟨_, by rw [HF.out]; rfl, ?_, hE⟩
          rw [HF.out]; exact ⟨none, 0, rfl, Own.nil _ _ _ _⟩
      · have f1 : ((b.toNat : Int) == 0) = false := len_ne h0
        have f2 : ((b.toNat : Int) != 0) = true := by rw [bne, f1]; rfl
        by_cases h63 : b.toNat ≤ 63
        · have hps := parse_step l k hlt b Hb.out h0 h63
          have Hps := Lib.hid hps
          clear hps
          by_cases hfit : k + 1 + b.toNat ≤ l.length
          · have h63' : ¬ 63 < (b.toNat : Int) := by omega
            have hfit' : ¬ (l.length : Int) < (k : Int) + 1 + (b.toNat : Int) := by omega
            have e2 : ((k : Int) + 1 + (b.toNat : Int)).toNat = k + 1 + b.toNat := by omega
            have e3 : k + 1 + b.toNat - (k + 1) = b.toNat := by omega
            go_wp2_with (
              at_builtin
              refine wpList_app _ rfl (.tmp 32) (.tmp 41) _ rfl w.heap.size 9 i0 _ 1 16 Tryz.underlying25 hi0 hz0 hz1 hz2 rfl (by omega) B ls.length d (ls.map S) rfl (hown.ext ((Ext.refl _).alloc _)) 0 _ 1 1 ([(l.drop (k + 1)).take b.toNat].map S) rfl (rd_new _ _ rfl _ _ 1 1 rfl) (str_one _) (by omega) (by omega) (by have := hE.size; simp; omega) ?_
              intro A5 c5 w5 hown5 hg5 hb5 _)
            go_roundw
            case rel =>
              refine ⟨k + 1 + b.toNat, ls ++ [(l.drop (k + 1)).take b.toNat], A5, c5, by omega, by simp; omega, by go_num, by simp, ?_, (hE.alloc _).then hb5 (Nat.le_refl _), ?_⟩
              · rw [List.length_append, List.map_append]; exact hown5
              · rw [Hpa.out, Hps.out]
                cases parse (l.drop (k + 1 + b.toNat)) <;> simp
            case measure => simp [intOf]; omega
          · have h63' : ¬ 63 < (b.toNat : Int) := by omega
            have hfit' : (l.length : Int) < (k : Int) + 1 + (b.toNat : Int) := by omega
            have HF := Lib.hid (show R = none by rw [HR.out]; exact parse_none_of Hpa.out (by rw [Hps.out, show l.drop (k + 1 + b.toNat) = [] from List.drop_of_length_le (by omega), parse_nil]; rfl))
            go_wp2_with fail
            go_ret2
            refine ⟨_, by rw [HF.out]; rfl, ?_, hE⟩
            rw [HF.out]; exact ⟨none, 0, rfl, Own.nil _ _ _ _⟩
        · have h63' : 63 < (b.toNat : Int) := by omega
          have HF := Lib.hid (show R = none by
            rw [HR.out]
            refine parse_none_of Hpa.out ?_
            rw [drop_cons l k hlt, Hb.out, parse_cons, if_neg (fun e => h0 (by rw [e]; rfl)), if_pos (by omega)])
          go_wp2_with fail
          go_ret2
          refine ⟨_, by rw [HF.out]; rfl, ?_, hE⟩
          rw [HF.out]; exact ⟨none, 0, rfl, Own.nil _ _ _ _⟩
    · have HF := Lib.hid (show R = none by rw [HR.out]; exact parse_none_of Hpa.out (by rw [List.drop_of_length_le (by omega), parse_nil]))
      have g1 : ((k : Int) == (l.length : Int) - 1) = false := by rw [beq_eq_false_iff_ne]; omega
      have g2 : ((k : Int) != (l.length : Int) - 1) = true := by rw [bne, g1]; rfl
      go_wp2_with fail
      go_ret2
      refine ⟨_, by rw [HF.out]; rfl, ?_, hE⟩
      rw [HF.out]; exact ⟨none, 0, rfl, Own.nil _ _ _ _⟩

theorem ref_may (l : List UInt8) (w : World) (hl : l.length ≤ 1048576) : Calls Tryz.prog 52 #[S l] w fun e w' => e = .returned (.bool (may l)) ∧ Ext w w' := by
  have HL := Lib.hid (ref_labels l w hl)
  have hm : may l = (labelsOf l).isSome := rfl
  rw [hm]
  generalize labelsOf l = R at *
  clear hm
  go_enter Tryz.func52, Tryz.ntmps52
  go_wp2_with fail
  refine HL.out.mono ?_; rintro e w1 ⟨v, rfl, ho, hE⟩
  go_wp2_with fail
  go_ret
  exact ⟨rfl, hE⟩
end Go.Proofs.YthdlgmfeicikpaaGreatDoor
