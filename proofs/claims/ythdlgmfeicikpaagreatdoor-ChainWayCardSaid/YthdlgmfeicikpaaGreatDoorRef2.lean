/- The walks of hustingsref01: Bytes, Fold, Same, Compare. -/
import Derived.Test.YthdlgmfeicikpaaGreatDoorRef1
import Derived.BigRegion
namespace Go.Proofs.YthdlgmfeicikpaaGreatDoor
set_option linter.unusedSimpArgs false
set_option linter.unusedVariables false
open Go.RowKit
set_option maxRecDepth 100000

def labB (x : List UInt8) : List UInt8 := UInt8.ofNat x.length :: x
def bytesOf (ls : List (List UInt8)) : List UInt8 := ls.flatMap labB ++ [0]
theorem labs_snoc (ls : List (List UInt8)) (k : Nat) (h : k < ls.length) : (ls.take (k + 1)).flatMap labB = (ls.take k).flatMap labB ++ labB ls[k] := by
  rw [take_snoc ls k h, List.flatMap_append, List.flatMap_cons, List.flatMap_nil, List.append_nil]
theorem labs_len (ls : List (List UInt8)) (h : ∀ x ∈ ls, x.length ≤ 255) : (ls.flatMap labB).length ≤ ls.length * 256 := by
  induction ls with
  | nil => simp
  | cons x ls ih =>
    have h1 := h x (by simp)
    have h2 := ih (fun y hy => h y (by simp [hy]))
    rw [List.flatMap_cons, List.length_append, List.length_cons]
    simp only [labB, List.length_cons]
    rw [Nat.add_mul]; omega

set_option maxHeartbeats 4000000 in
theorem ref_bytes (lo : Nat) (v : Value) (ls : List (List UInt8)) (w : World) (h : Strs w lo v ls) (hb : ∀ x ∈ ls, x.length ≤ 255) (hn : ls.length ≤ 4096) :
    Calls Tryz.prog 76 #[v] w fun e w' => e = .returned (S (bytesOf ls)) ∧ Ext w w' := by
  obtain ⟨A, c, rfl, h1, h2, hrd⟩ := h
  unfold maxLen at h2
  have hll := labs_len ls hb
  obtain ⟨R, hR⟩ : ∃ R, R = ls.flatMap labB ++ [0] := ⟨_, rfl⟩
  rw [show bytesOf ls = R from hR.symm]
  have HR := Lib.hid hR
  clear hR
  go_enter Tryz.func76, Tryz.ntmps76
  go_wp2
  go_loopw [3, 4] (fun o i wr => ∃ k : Nat, k ≤ ls.length ∧ i = .int .i64 k ∧ o = S ((ls.take k).flatMap labB) ∧ Ext w wr) (fun _ i _ => ls.length - (intOf i).toNat)
  case atStart => exact ⟨0, by omega, rfl, rfl, Ext.refl _⟩
  case round =>
    obtain ⟨k, hk, rfl, rfl, hE⟩ := hrel
    obtain ⟨wo, rfl⟩ : ∃ wo : World, wo = wr := ⟨_, rfl⟩
    have hTl : ((ls.take k).flatMap labB).length ≤ 1048576 := by
      have := labs_len (ls.take k) (fun x hx => hb x (List.mem_of_mem_take hx))
      have h3 : (ls.take k).length ≤ ls.length := by simp; omega
      omega
    by_cases hlt : k < ls.length
    · obtain ⟨b, off, rfl, _, hbz, hc⟩ := hrd.2 (by omega)
      have hck := hc k (S ls[k]) (by simp [List.getElem?_eq_getElem hlt])
      have hxl := hb ls[k] (List.getElem_mem hlt)
      have Hst := Lib.hid (labs_snoc ls k hlt)
      generalize ls[k] = x at *
      rw [← hE.cell (p := ⟨b, _, none⟩) hbz] at hck
      have hbz2 : b < wo.heap.size := Nat.lt_of_lt_of_le hbz hE.size
      have hcv : (convert 74 9 (.slice (some ⟨wo.heap.size, 0, none⟩) 1 1)).run Tryz.prog (wo.alloc (.cells #[.int .u8 (x.length : Int)] 5)).drew = .ok (S [UInt8.ofNat x.length]) (wo.alloc (.cells #[.int .u8 (x.length : Int)] 5)).drew := conv1 wo.drew wo.heap.size rfl (x.length : Int) (UInt8.ofNat x.length) (by simp; omega)
      generalize (ls.take k).flatMap labB = T at *
      have hkk : (k : Int) < (ls.length : Int) := by omega
      clear hc hrd
      go_wp2
      go_region
      go_wp2
      go_roundw
      case rel => exact ⟨k + 1, by omega, by go_num, by rw [Hst.out]; rfl, (hE.alloc _).drew⟩
      case measure => simp [intOf]; omega
    · have e1 : ls.take k = ls := List.take_of_length_le (by omega)
      rw [e1] at hTl ⊢
      clear e1
      generalize ls.flatMap labB = T at *
      go_wp2
      go_ret
      exact ⟨by rw [HR.out]; rfl, hE⟩

/-! ### Plain: names and their labels -/
theorem parse_bytes : ∀ (n : Nat) (l : List UInt8) (ls : List (List UInt8)), l.length ≤ n → parse l = some ls → l = bytesOf ls ∧ ∀ x ∈ ls, 0 < x.length ∧ x.length ≤ 63 := by
  intro n
  induction n with
  | zero =>
    intro l ls hn h
    have : l = [] := List.eq_nil_of_length_eq_zero (by omega)
    subst this
    rw [parse_nil] at h; cases h
  | succ n ih =>
    intro l ls hn h
    rcases l with _ | ⟨b, r⟩
    · rw [parse_nil] at h; cases h
    · rw [parse_cons] at h
      split at h
      · rename_i hb
        split at h
        · rename_i hr
          injection h with h
          subst h hb hr
          exact ⟨rfl, by simp⟩
        · cases h
      · rename_i hb
        split at h
        · cases h
        · rename_i h63
          rw [Option.map_eq_some_iff] at h
          obtain ⟨ls', hp, rfl⟩ := h
          have hrl : b.toNat < r.length := by
            rcases Nat.lt_or_ge b.toNat r.length with h' | h'
            · exact h'
            · rw [List.drop_of_length_le h', parse_nil] at hp; cases hp
          have hb0 : 0 < b.toNat := Nat.pos_of_ne_zero (fun e => hb (UInt8.toNat_inj.1 (by simpa using e)))
          obtain ⟨h1, h2⟩ := ih _ _ (by simp at hn ⊢; omega) hp
          have htl : (r.take b.toNat).length = b.toNat := by simp; omega
          refine ⟨?_, fun x hx => ?_⟩
          · unfold bytesOf at h1 ⊢
            rw [List.flatMap_cons, List.append_assoc, ← h1]
            unfold labB
            rw [htl, UInt8.ofNat_toNat, List.cons_append, List.take_append_drop]
          · rcases List.mem_cons.1 hx with rfl | h
            · rw [htl]; omega
            · exact h2 x h
theorem labels_bytes {l : List UInt8} {ls : List (List UInt8)} (h : labelsOf l = some ls) : l.length ≤ 255 ∧ l = bytesOf ls ∧ ∀ x ∈ ls, 0 < x.length ∧ x.length ≤ 63 := by
  unfold labelsOf at h
  split at h
  · rename_i hl; exact ⟨hl, parse_bytes _ l ls (Nat.le_refl _) h⟩
  · cases h
theorem lowB_small {b : UInt8} (h : b.toNat ≤ 63) : lowB b = b := by unfold lowB; rw [if_neg (by omega)]
theorem low_bytes (ls : List (List UInt8)) (h : ∀ x ∈ ls, x.length ≤ 63) : low (bytesOf ls) = bytesOf (ls.map low) := by
  unfold bytesOf
  induction ls with
  | nil => rfl
  | cons x ls ih =>
    have h1 := h x (by simp)
    have h2 := ih (fun y hy => h y (by simp [hy]))
    rw [List.flatMap_cons, List.append_assoc, List.map_cons, List.flatMap_cons, List.append_assoc, ← h2]
    unfold low labB
    rw [List.map_append, List.map_cons, lowB_small (by simp; omega), List.length_map]
theorem labels_len {l : List UInt8} {ls : List (List UInt8)} (h : labelsOf l = some ls) : ls.length ≤ 255 := by
  obtain ⟨h1, h2, h3⟩ := labels_bytes h
  have : ls.length ≤ (ls.flatMap labB).length := by
    clear h h1 h2 h3
    induction ls with
    | nil => simp
    | cons x ls ih =>
      rw [List.flatMap_cons, List.length_append, List.length_cons]
      have : (labB x).length = x.length + 1 := rfl
      omega
  have h4 : (bytesOf ls).length ≤ 255 := by rw [← h2]; exact h1
  unfold bytesOf at h4
  rw [List.length_append] at h4
  omega
theorem fold_labels {l : List UInt8} {ls : List (List UInt8)} (h : labelsOf l = some ls) : fold l = bytesOf (ls.map low) := by
  obtain ⟨_, h2, h3⟩ := labels_bytes h
  unfold fold may
  rw [h, if_pos (by rfl)]
  conv => lhs; rw [h2]
  exact low_bytes ls (fun x hx => (h3 x hx).2)
theorem fold_none {l : List UInt8} (h : labelsOf l = none) : fold l = [] := by unfold fold may; rw [h]; rfl

set_option maxHeartbeats 1000000 in
theorem ref_fold (l : List UInt8) (w : World) (hl : l.length ≤ 1048576) : Calls Tryz.prog 54 #[S l] w fun e w' => e = .returned (S (fold l)) ∧ Ext w w' := by
  have HL := Lib.hid (ref_labels l w hl)
  obtain ⟨i0, hi0, hz0, hz1, hz2⟩ := info_parts info_str
  rcases hR : labelsOf l with _ | ls
  · rw [hR] at HL
    rw [fold_none hR]
    clear hR
    go_enter Tryz.func54, Tryz.ntmps54
    go_wp2_with fail
    refine HL.out.mono ?_; rintro e w1 ⟨v, rfl, ho, hE⟩
    dsimp only [Option.isSome]
    go_wp2_with fail
    go_ret
    exact ⟨rfl, hE⟩
  · rw [hR] at HL
    rw [fold_labels hR]
    have hb := (labels_bytes hR).2.2
    have hlen := labels_len hR
    clear hR
    go_enter Tryz.func54, Tryz.ntmps54
    go_wp2_with fail
    refine HL.out.mono ?_; rintro e w1 ⟨v, rfl, ho, hE1⟩
    dsimp only [Option.isSome, Option.getD] at ho ⊢
    obtain ⟨A, c, rfl, ho'⟩ := ho
    have hrd := ho'.rd
    clear ho'
    go_wp2_with fail
    go_loopw [5, 6] (fun o i wr => ∃ (k : Nat) (B : Option Addr) (d : Nat), k ≤ ls.length ∧ i = .int .i64 k ∧ o = .slice B k d ∧ Own wr w1.heap.size 9 1 B k d (((ls.take k).map low).map S) ∧ Ext w1 wr) (fun _ i _ => ls.length - (intOf i).toNat)
    case atStart => exact ⟨0, none, 0, by omega, rfl, rfl, Own.nil _ _ _ _, Ext.refl _⟩
    case round =>
      obtain ⟨k, B, d, hk, rfl, rfl, hown, hE⟩ := hrel
      obtain ⟨wo, rfl⟩ : ∃ wo : World, wo = wr := ⟨_, rfl⟩
      by_cases hlt : k < ls.length
      · obtain ⟨b, off, rfl, _, hbz, hc⟩ := hrd.2 (by omega)
        have hck := hc k (S ls[k]) (by simp [List.getElem?_eq_getElem hlt])
        have hxl := (hb ls[k] (List.getElem_mem hlt)).2
        have Hst := Lib.hid (take_snoc ls k hlt)
        generalize ls[k] = x at *
        rw [← hE.cell (p := ⟨b, _, none⟩) hbz] at hck
        have hbz2 : b < wo.heap.size := Nat.lt_of_lt_of_le hbz hE.size
        have hkk : (k : Int) < (ls.length : Int) := by omega
        clear hc hrd
        go_wp2_with (first
          | (go_at_call 75; refine (ref_low x wo (by omega)).mono ?_; rintro e w2 ⟨rfl, hE2⟩)
          | (at_builtin
             refine wpList_app _ rfl (.tmp 20) (.tmp 26) _ rfl w1.heap.size 9 i0 _ 1 16 Tryz.underlying25 hi0 hz0 hz1 hz2 rfl (by omega) B k d (((ls.take k).map low).map S) rfl ((hown.ext hE2).ext ((Ext.refl _).alloc _)) 0 _ 1 1 ([low x].map S) rfl (rd_new _ _ rfl _ _ 1 1 rfl) (str_one _) (by omega) (by omega) (by have := (hE.trans hE2).size; simp; omega) ?_
             intro A5 c5 w5 hown5 hg5 hb5 _))
        go_roundw
        case rel =>
          refine ⟨k + 1, A5, c5, by omega, by go_num, rfl, ?_, ((hE.trans hE2).alloc _).then hb5 (Nat.le_refl _)⟩
          rw [Hst.out, List.map_append, List.map_append]; exact hown5
        case measure => simp [intOf]; omega
      · obtain rfl : k = ls.length := by omega
        rw [List.take_length] at hown
        have hstr : Strs wo w1.heap.size (.slice B ls.length d) (ls.map low) := ⟨B, d, by simp, by have := hown.cap.1; simpa using this, hown.cap.2, by have := hown.rd; simpa using this⟩
        go_wp2_with fail
        refine (ref_bytes _ _ _ wo hstr (fun x hx => ?_) (by simp; omega)).mono ?_
        · obtain ⟨y, hy, rfl⟩ := List.mem_map.1 hx
          rw [length_low]; have := hb y hy; omega
        · rintro e w6 ⟨rfl, hE6⟩
          go_wp2_with fail
          go_ret
          exact ⟨rfl, (hE1.trans hE).trans hE6⟩

theorem ref_same (a b : List UInt8) (w : World) (ha : a.length ≤ 1048576) (hb : b.length ≤ 1048576) :
    Calls Tryz.prog 40 #[S a, S b] w fun e w' => e = .returned (.bool (sameN a b)) ∧ Ext w w' := by
  have Hs := Lib.hid (show sameN a b = (may a && may b && (low a == low b)) from rfl)
  by_cases h1 : may a = true
  · by_cases h2 : may b = true
    · have Ha := Lib.hid (show fold a = low a by unfold fold; rw [if_pos h1])
      have Hb := Lib.hid (show fold b = low b by unfold fold; rw [if_pos h2])
      go_enter Tryz.func40, Tryz.ntmps40
      go_wp2_with fail
      refine (ref_may _ _ ha).mono ?_; rintro e w1 ⟨rfl, hE1⟩
      go_wp2_with fail
      refine (ref_may _ _ hb).mono ?_; rintro e w2 ⟨rfl, hE2⟩
      go_wp2_with fail
      refine (ref_fold _ _ ha).mono ?_; rintro e w3 ⟨rfl, hE3⟩
      go_wp2_with fail
      refine (ref_fold _ _ hb).mono ?_; rintro e w4 ⟨rfl, hE4⟩
      go_wp2_with fail
      go_ret
      exact ⟨ret_bool (by rw [Hs.out, h1, h2, Ha.out, Hb.out]; simp), ((hE1.trans hE2).trans hE3).trans hE4⟩
    · have h2' : may b = false := by simpa using h2
      clear h2
      go_enter Tryz.func40, Tryz.ntmps40
      go_wp2_with fail
      refine (ref_may _ _ ha).mono ?_; rintro e w1 ⟨rfl, hE1⟩
      go_wp2_with fail
      refine (ref_may _ _ hb).mono ?_; rintro e w2 ⟨rfl, hE2⟩
      go_wp2_with fail
      go_ret
      exact ⟨ret_bool (by rw [Hs.out, h1, h2']; rfl), hE1.trans hE2⟩
  · have h1' : may a = false := by simpa using h1
    clear h1
    go_enter Tryz.func40, Tryz.ntmps40
    go_wp2_with fail
    refine (ref_may _ _ ha).mono ?_; rintro e w1 ⟨rfl, hE1⟩
    go_wp2_with fail
    go_ret
    exact ⟨ret_bool (by rw [Hs.out, h1']; rfl), hE1⟩
end Go.Proofs.YthdlgmfeicikpaaGreatDoor
