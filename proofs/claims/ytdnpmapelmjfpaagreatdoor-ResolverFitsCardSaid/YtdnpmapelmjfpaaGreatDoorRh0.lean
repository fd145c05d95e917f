/- Contracts of functions and plain lemmas that the proofs of this seat share (joined texts). No condition. -/
import Derived.Test.YtdnpmapelmjfpaaGreatDoorRe
import Derived.Test.YtdnpmapelmjfpaaGreatDoorRa
import Derived.Test.YtdnpmapelmjfpaaGreatDoorShelf
namespace Go.Proofs.YtdnpmapelmjfpaaGreatDoor
set_option linter.unusedSimpArgs false
set_option linter.unusedVariables false
open Go.RowKit
set_option maxRecDepth 100000
theorem lowB_sm {b : UInt8} (h : b.toNat < 64) : lowB b = b := lowB_no (by omega)
theorem lowB_zero (b : UInt8) : lowB b = 0 ↔ b = 0 := by
  constructor
  · intro h
    by_cases hb : 65 ≤ (b.toNat : Int) ∧ (b.toNat : Int) ≤ 90
    · have := lowB_up hb.1 hb.2
      rw [h] at this
      simp at this; omega
    · rw [lowB_no hb] at h; exact h
  · rintro rfl; rfl
theorem lowB_big {b : UInt8} (h : 63 < b.toNat) : 63 < (lowB b).toNat := by
  by_cases hb : 65 ≤ (b.toNat : Int) ∧ (b.toNat : Int) ≤ 90
  · have := lowB_up hb.1 hb.2; omega
  · rw [lowB_no hb]; exact h
theorem parse_low : ∀ (n : Nat) (l : List UInt8), l.length < n → parse (low l) = (parse l).map (·.map low)
  | 0, _, h => absurd h (by omega)
  | n + 1, [], _ => rfl
  | n + 1, b :: r, h => by
    have e : low (b :: r) = lowB b :: low r := rfl
    rw [e, parse_cons, parse_cons]
    by_cases h0 : b = 0
    · rw [if_pos h0, if_pos ((lowB_zero b).2 h0)]
      by_cases hr : r = []
      · subst hr; rfl
      · have hr' : low r ≠ [] := fun e => hr (List.map_eq_nil_iff.1 e)
        rw [if_neg hr, if_neg hr']; rfl
    · rw [if_neg h0, if_neg (fun e => h0 ((lowB_zero b).1 e))]
      by_cases h1 : 63 < b.toNat
      · rw [if_pos h1, if_pos (lowB_big h1)]; rfl
      · rw [if_neg h1, lowB_sm (by omega), if_neg h1]
        have e2 : (low r).drop b.toNat = low (r.drop b.toNat) := by simp [low, List.map_drop]
        have e3 : (low r).take b.toNat = low (r.take b.toNat) := by simp [low, List.map_take]
        simp only [List.length_cons] at h
        rw [e2, e3, parse_low n (r.drop b.toNat) (by simp; omega)]
        cases parse (r.drop b.toNat) <;> simp
theorem labelsOf_low (l : List UInt8) : labelsOf (low l) = (labelsOf l).map (·.map low) := by
  unfold labelsOf
  rw [length_low]
  split
  · exact parse_low _ l (Nat.lt_succ_self _)
  · rfl
theorem low_low (l : List UInt8) : low (low l) = low l := by
  unfold low
  rw [List.map_map]
  apply List.map_congr_left
  intro b _
  show lowB (lowB b) = lowB b
  by_cases hb : 65 ≤ (b.toNat : Int) ∧ (b.toNat : Int) ≤ 90
  · have := lowB_up hb.1 hb.2; exact lowB_no (by omega)
  · rw [lowB_no hb, lowB_no hb]
theorem may_low (l : List UInt8) : may (low l) = may l := by
  unfold may; rw [labelsOf_low]; cases labelsOf l <;> rfl

set_option maxRecDepth 100000 in
set_option maxHeartbeats 400000 in
theorem name_lowerD (l : List UInt8) (w : World) (hl : l.length ≤ maxLen) :
    Calls Tryz.prog 45 #[S l] w fun e w' => e = .returned (S (low l)) ∧ ExtD w w' := by
  unfold maxLen at hl
  have hconv := run_bytes_of_string (P := Tryz.prog) w 9 110 5 ⟨l.toArray⟩ Tryz.underlying9 Tryz.underlying110 Tryz.underlying5
  generalize hC : bytesRow ⟨l.toArray⟩ (grownCap w (ByteArray.mk l.toArray).size 0 5) = C at hconv
  generalize grownCap w (ByteArray.mk l.toArray).size 0 5 = cap at hconv hC
  have HC := Lib.hid hC
  clear hC
  go_enter Tryz.func45, Tryz.ntmps45
  go_wp2
  go_loopw [10, 4, 5] (fun i a b wr => ∃ k : Nat, k ≤ l.length ∧ i = .int .i64 k ∧ BRow wr w.heap.size l.length (lowTo l k) ∧ ExtD w wr) (fun i _ _ _ => l.length - (intOf i).toNat)
  case atStart => exact ⟨0, by omega, rfl, brow_new w l cap C HC.out, ((ExtD.refl w).alloc _).drew⟩
  case round =>
    obtain ⟨k, hk, rfl, hB, hE⟩ := hrel
    have HB := Lib.hid hB
    clear hB
    by_cases hlt : k < l.length
    · obtain ⟨b, Hb, hget, hwb, hbd⟩ := byte_at l k hlt
      have hc : wr.cell? ⟨w.heap.size, k, none⟩ = some (.int .u8 (b.toNat : Int)) := by
        rw [(HB.out k hlt).1]; simp [lowTo, hlt, Hb.out]
      have hf : wr.frozen? ⟨w.heap.size, k, none⟩ = false := (HB.out k hlt).2
      have Hs := Lib.hid (lowTo_step l k hlt b Hb.out)
      clear hget hwb
      go_wp2
      · go_roundw
        case rel => exact ⟨k + 1, by omega, by go_num, (HB.out.set hlt _ _ (lowB_up ‹_› ‹_›)).congr fun j _ => Hs.out j, hE.setCell (Nat.le_refl _) _⟩
        case measure => simp [intOf]; omega
      all_goals
        go_roundw
        case rel => exact ⟨k + 1, by omega, by go_num, HB.out.congr fun j _ => by rw [Hs.out j, lowB_no (by omega)]; (split; · (rename_i e; subst e; simp [lowTo, hlt, Hb.out])); rfl, hE⟩
        case measure => simp [intOf]; omega
    · have hback := run_convert_bytes_back (P := Tryz.prog) wr 110 9 5 ⟨w.heap.size, 0, none⟩ cap (low l) Tryz.underlying110 Tryz.underlying5 Tryz.underlying9 (fun j hj => by
        have hj' : j < l.length := by rw [length_low] at hj; exact hj
        have := (HB.out j hj').1
        rw [show (Addr.add ⟨w.heap.size, 0, none⟩ j) = ⟨w.heap.size, j, none⟩ by unfold Addr.add; split <;> simp_all, this]
        simp [lowTo, low, hj', show j < k by omega])
      rw [length_low] at hback
      go_wp2
      go_ret
      exact ⟨rfl, hE⟩

def NamesPostD (l : List (List UInt8)) (w : World) (e : Ending) (w' : World) : Prop := ∃ v, e = .returned v ∧ OStrs w' w.heap.size v l ∧ ExtD w w'
set_option maxHeartbeats 1000000 in
theorem name_labels (l : List UInt8) (x : List (List UInt8)) (w : World) (hx : labelsOf l = some x) : Calls Tryz.prog 208 #[S l] w (NamesPostD x w) := by
  have hl : l.length ≤ 255 := by
    unfold labelsOf at hx
    split at hx
    · assumption
    · cases hx
  have hp : parse l = some x := by
    unfold labelsOf at hx
    rwa [if_pos hl] at hx
  clear hx
  obtain ⟨i0, hi0, hz0, hz1, hz2⟩ := info_parts info_str
  have Hp := Lib.hid hp
  clear hp
  go_enter Tryz.func208, Tryz.ntmps208
  go_wp2_with fail
  go_loopw [3, 4] (fun o i wr => ∃ (k : Nat) (ls rs : List (List UInt8)) (B : Option Addr) (d : Nat), k ≤ l.length ∧ ls.length ≤ k ∧ i = .int .i64 k ∧ o = .slice B ls.length d ∧ Own wr w.heap.size 9 1 B ls.length d (ls.map S) ∧ ExtD w wr ∧ x = ls ++ rs ∧ parse (l.drop k) = some rs) (fun _ i _ => l.length - (intOf i).toNat)
  case atStart => exact ⟨0, [], x, none, 0, by omega, by simp, rfl, rfl, Own.nil _ _ _ _, ExtD.refl _, rfl, Hp.out⟩
  case round =>
    obtain ⟨k, ls, rs, B, d, hk, hls, rfl, rfl, hown, hE, hxe, hpa⟩ := hrel
    obtain ⟨wo, rfl⟩ : ∃ wo : World, wo = wr := ⟨_, rfl⟩
    have hlt : k < l.length := by
      rcases Nat.lt_or_ge k l.length with h | h
      · exact h
      · rw [List.drop_of_length_le h, parse_nil] at hpa; cases hpa
    obtain ⟨b, Hb, hget, hwb, hbd⟩ := byte_at l k hlt
    rw [drop_cons l k hlt, Hb.out, parse_cons] at hpa
    have Hxe := Lib.hid hxe
    clear hxe
    by_cases h0 : b.toNat = 0
    · have hb0 : b = 0 := UInt8.toNat_inj.1 (by simpa using h0)
      rw [if_pos hb0] at hpa
      have Hrs : Hid (rs = []) := by
        show rs = []
        split at hpa
        · injection hpa with h; exact h.symm
        · cases hpa
      have f1 : ((b.toNat : Int) == 0) = true := by rw [h0]; rfl
      have f2 : ((b.toNat : Int) != 0) = false := by rw [bne, f1]; rfl
      clear hb0 h0 hpa
      go_wp2_with fail
      go_ret
      exact ⟨_, rfl, by rw [Hxe.out, Hrs.out, List.append_nil]; exact ⟨B, d, rfl, hown⟩, hE⟩
    · have f1 : ((b.toNat : Int) == 0) = false := len_ne h0
      have f2 : ((b.toNat : Int) != 0) = true := by rw [bne, f1]; rfl
      rw [if_neg (fun e => h0 (by rw [e]; rfl))] at hpa
      by_cases h63 : 63 < b.toNat
      · rw [if_pos h63] at hpa; cases hpa
      rw [if_neg h63, List.drop_drop] at hpa
      rcases hq : parse (l.drop (k + 1 + b.toNat)) with _ | rs'
      · rw [hq] at hpa; cases hpa
      · rw [hq] at hpa
        injection hpa with hrs
        have hlt2 : k + 1 + b.toNat < l.length := by
          rcases Nat.lt_or_ge (k + 1 + b.toNat) l.length with h | h
          · exact h
          · rw [List.drop_of_length_le h, parse_nil] at hq; cases hq
        have Hq := Lib.hid hq
        have Hrs := Lib.hid hrs
        clear hq hrs h63
        have hfit' : ¬ (l.length : Int) < (k : Int) + 1 + (b.toNat : Int) := by omega
        have e2 : ((k : Int) + 1 + (b.toNat : Int)).toNat = k + 1 + b.toNat := by omega
        have e3 : k + 1 + b.toNat - (k + 1) = b.toNat := by omega
        go_wp2_with (
          at_builtin
          refine wpList_app3 _ rfl (.tmp 17) (.tmp 23) _ rfl w.heap.size 9 i0 _ 1 16 Tryz.underlying77 hi0 hz0 hz1 hz2 rfl (by omega) B ls.length d (ls.map S) rfl (hown.ext ((Ext.refl _).alloc _)) 0 _ 1 1 ([(l.drop (k + 1)).take b.toNat].map S) rfl (rd_new _ _ rfl _ _ 1 1 rfl) (str_one _) (by omega) (by omega) (by omega) (by have := hE.1.size; simp; omega) ?_
          intro A5 c5 w5 hown5 hd5 hg5 hb5 _)
        go_roundw
        case rel =>
          refine ⟨k + 1 + b.toNat, ls ++ [(l.drop (k + 1)).take b.toNat], rs', A5, c5, by omega, by simp; omega, by go_num, by simp, ?_, (hE.alloc _).then hb5 hd5 (Nat.le_refl _), ?_, Hq.out⟩
          · rw [List.length_append, List.map_append]; exact hown5
          · rw [Hxe.out, ← Hrs.out, List.append_assoc]; rfl
        case measure => simp [intOf]; omega

theorem int_e {k : IntKind} {a b : Int} (h : a = b) : Value.int k a = Value.int k b := by rw [h]
theorem cmpB (a b : List UInt8) : Lib.compareBytes a b = if bl a b then -1 else if bl b a then 1 else 0 := by
  induction a generalizing b with
  | nil => cases b <;> simp [Lib.compareBytes, bl, Op.bytesLess]
  | cons x a ih =>
    cases b with
    | nil => simp [Lib.compareBytes, bl, Op.bytesLess]
    | cons y b =>
      simp only [Lib.compareBytes, bl, Op.bytesLess] at *
      by_cases h1 : x < y
      · simp [h1]
      · by_cases h2 : y < x
        · have h3 : x ≠ y := fun e => by subst e; exact h1 h2
          simp [h1, h2, h3]
        · have h3 : x = y := UInt8.le_antisymm (UInt8.not_lt.1 h2) (UInt8.not_lt.1 h1)
          subst h3
          rw [if_neg h1, if_neg h1, ih b]
          simp [h1]
theorem str_compare (a b : List UInt8) (w : World) : Calls Tryz.prog 209 #[S a, S b] w fun e w' => e = .returned (.int .i64 (if bl a b then -1 else if bl b a then 1 else 0)) ∧ w' = w := by
  have h := Tryz.strings_Compare ⟨a.toArray⟩ ⟨b.toArray⟩ w
  rw [← cmpB]
  exact h

set_option maxHeartbeats 4000000 in
theorem name_compare (a b : List UInt8) (w : World) (ha : a.length ≤ maxLen) (hb : b.length ≤ maxLen) :
    Calls Tryz.prog 145 #[S a, S b] w fun e w' => e = .returned (.int .i64 (cmpN a b)) ∧ ExtD w w' := by
  have hN : cmpN a b = match labelsOf a, labelsOf b with | some x, some y => cmpRev (x.map low).reverse (y.map low).reverse | _, _ => 0 := rfl
  have hMA : may a = (labelsOf a).isSome := rfl
  have hMB : may b = (labelsOf b).isSome := rfl
  obtain ⟨R, hR⟩ : ∃ R, R = cmpN a b := ⟨_, rfl⟩
  rw [← hR]
  rw [← hR] at hN
  clear hR
  have HA := Lib.hid (fun W => name_may a W ha)
  have HB := Lib.hid (fun W => name_may b W hb)
  have HLA := Lib.hid (fun W => name_lowerD a W ha)
  have HLB := Lib.hid (fun W => name_lowerD b W hb)
  rcases hx : labelsOf a with _ | x
  · rw [hx] at hN hMA
    rw [hMA] at HA
    have HN := Lib.hid (show R = 0 from hN)
    clear hN hx hMA hMB
    go_enter Tryz.func145, Tryz.ntmps145
    go_wp2_with fail
    refine (HA.out w).mono ?_; rintro e w' ⟨rfl, rfl⟩
    dsimp only [Option.isSome]
    go_wp2_with fail
    go_ret
    exact ⟨by rw [HN.out]; rfl, ExtD.refl _⟩
  rcases hy : labelsOf b with _ | y
  · rw [hx] at hN hMA
    rw [hy] at hN hMB
    rw [hMA] at HA
    rw [hMB] at HB
    have HN := Lib.hid (show R = 0 from hN)
    clear hN hx hy hMA hMB
    go_enter Tryz.func145, Tryz.ntmps145
    go_wp2_with fail
    refine (HA.out w).mono ?_; rintro e w' ⟨rfl, rfl⟩
    dsimp only [Option.isSome]
    go_wp2_with fail
    refine (HB.out w).mono ?_; rintro e w' ⟨rfl, rfl⟩
    dsimp only [Option.isSome]
    go_wp2_with fail
    go_ret
    exact ⟨by rw [HN.out]; rfl, ExtD.refl _⟩
  have hxl := labels_len hx
  have hyl := labels_len hy
  have hal : a.length ≤ 255 := may_le (by unfold may; rw [hx]; rfl)
  have hbl : b.length ≤ 255 := may_le (by unfold may; rw [hy]; rfl)
  have HXL := Lib.hid (fun W => name_labels (low a) (x.map low) W (by rw [labelsOf_low, hx]; rfl))
  have HYL := Lib.hid (fun W => name_labels (low b) (y.map low) W (by rw [labelsOf_low, hy]; rfl))
  rw [hy] at hN hMB
  rw [hx] at hN hMA
  rw [hMA] at HA
  rw [hMB] at HB
  have HN := Lib.hid (show R = cmpRev (x.map low).reverse (y.map low).reverse from hN)
  clear hN hx hy hMA hMB
  have hrx := rev_drop x
  have hry := rev_drop y
  have hlx : (x.map low).length = x.length := by simp
  have hly : (y.map low).length = y.length := by simp
  go_enter Tryz.func145, Tryz.ntmps145
  go_wp2_with fail
  refine (HA.out w).mono ?_; rintro e w' ⟨rfl, rfl⟩
  dsimp only [Option.isSome]
  go_wp2_with fail
  refine (HB.out w).mono ?_; rintro e w' ⟨rfl, rfl⟩
  dsimp only [Option.isSome]
  go_wp2_with fail
  refine (HLA.out w).mono ?_; rintro e w0 ⟨rfl, hE0⟩
  go_wp2_with fail
  refine (HXL.out w0).mono ?_; rintro e w1 ⟨v1, rfl, ho1, hE1⟩
  go_wp2_with fail
  refine (HLB.out w1).mono ?_; rintro e w2 ⟨rfl, hE2⟩
  go_wp2_with fail
  refine (HYL.out w2).mono ?_; rintro e w3 ⟨v2, rfl, ho2, hE3⟩
  obtain ⟨A1, c1, rfl, ho1'⟩ := ho1.ext (hE2.trans hE3).1
  obtain ⟨A2, c2, rfl, ho2'⟩ := ho2
  have hr1 := ho1'.rd
  have hr2 := ho2'.rd
  have hEw : ExtD w w3 := ((hE0.trans hE1).trans hE2).trans hE3
  rw [hlx] at hr1 ⊢
  rw [hly] at hr2 ⊢
  have Hlx := Lib.hid hlx
  have Hly := Lib.hid hly
  clear ho1 ho1' ho2' HA HB HLA HLB HXL HYL hlx hly
  have HX := Lib.hid hrx
  have HY := Lib.hid hry
  clear hrx hry
  go_wp2_with fail
  go_loopw [7, 8] (fun i j wr => ∃ k : Nat, k ≤ x.length ∧ k ≤ y.length ∧ i = .int .i64 ((x.length : Int) - 1 - k) ∧ j = .int .i64 ((y.length : Int) - 1 - k) ∧ R = cmpRev ((x.map low).reverse.drop k) ((y.map low).reverse.drop k) ∧ ExtD w3 wr) (fun i _ _ => (intOf i + 1).toNat)
  case atStart => exact ⟨0, by omega, by omega, int_e (by omega), int_e (by omega), by rw [HN.out]; rfl, ExtD.refl _⟩
  case round =>
    obtain ⟨k, hk1, hk2, rfl, rfl, hrel, hE⟩ := hrel
    obtain ⟨wo, rfl⟩ : ∃ wo : World, wo = wr := ⟨_, rfl⟩
    have HR := Lib.hid hrel
    clear hrel HN
    by_cases hl1 : k < x.length
    · by_cases hl2 : k < y.length
      · obtain ⟨bx, ox, rfl, _, hbx, hcx⟩ := hr1.2 (by omega)
        obtain ⟨by_, oy, rfl, _, hby, hcy⟩ := hr2.2 (by omega)
        have cx := hcx (x.length - 1 - k) (S (low x[x.length - 1 - k])) (by rw [List.getElem?_map, List.getElem?_map, List.getElem?_eq_getElem (by omega)]; rfl)
        have cy := hcy (y.length - 1 - k) (S (low y[y.length - 1 - k])) (by rw [List.getElem?_map, List.getElem?_map, List.getElem?_eq_getElem (by omega)]; rfl)
        rw [← hE.1.cell (p := ⟨bx, _, none⟩) hbx] at cx
        rw [← hE.1.cell (p := ⟨by_, _, none⟩) hby] at cy
        have Hd1 := Lib.hid (HX.out k hl1)
        have Hd2 := Lib.hid (HY.out k hl2)
        generalize low x[x.length - 1 - k] = s at *
        generalize low y[y.length - 1 - k] = t at *
        clear hcx hcy hr1 hr2
        rw [Hd1.out, Hd2.out, cmpRev_cons] at HR
        have HC := Lib.hid (fun W => str_compare s t W)
        have p2 : (0 : Int) ≤ (x.length : Int) - 1 - (k : Int) := by omega
        have p3 : (x.length : Int) - 1 - (k : Int) < (x.length : Int) := by omega
        have p4 : ((x.length : Int) - 1 - (k : Int)).toNat = x.length - 1 - k := by omega
        have q2 : (0 : Int) ≤ (y.length : Int) - 1 - (k : Int) := by omega
        have q3 : (y.length : Int) - 1 - (k : Int) < (y.length : Int) := by omega
        have q4 : ((y.length : Int) - 1 - (k : Int)).toNat = y.length - 1 - k := by omega
        by_cases h1 : bl s t = true
        · have HF := Lib.hid (show R = -1 by rw [HR.out, if_pos h1])
          rw [if_pos h1] at HC
          clear h1
          go_wp2_with fail
          go_quiet ((go_at_call 209; exact Calls.quiet_of_same (HC.out _)))
          go_wp2_with fail
          go_ret
          exact ⟨by rw [HF.out]; rfl, (hEw.trans hE).drewN _⟩
        · by_cases h2 : bl t s = true
          · have HF := Lib.hid (show R = 1 by rw [HR.out, if_neg h1, if_pos h2])
            rw [if_neg h1, if_pos h2] at HC
            clear h1 h2
            go_wp2_with fail
            go_quiet ((go_at_call 209; exact Calls.quiet_of_same (HC.out _)))
            go_wp2_with fail
            go_ret
            exact ⟨by rw [HF.out]; rfl, (hEw.trans hE).drewN _⟩
          · have HF := Lib.hid (show R = cmpRev ((x.map low).reverse.drop (k + 1)) ((y.map low).reverse.drop (k + 1)) by rw [HR.out, if_neg h1, if_neg h2])
            rw [if_neg h1, if_neg h2] at HC
            clear h1 h2
            go_wp2_with fail
            go_quiet ((go_at_call 209; exact Calls.quiet_of_same (HC.out _)))
            go_wp2_with fail
            go_roundw
            case rel => exact ⟨k + 1, by omega, by omega, int_e (by omega), int_e (by omega), HF.out, hE.drewN _⟩
            case measure => simp [intOf]; omega
      · have hl4 : k = y.length := by omega
        have HF := Lib.hid (show R = 1 by
          rw [HR.out, show (y.map low).reverse.drop k = [] from List.drop_of_length_le (by simp; omega), HX.out k hl1]; rfl)
        have p2 : (0 : Int) ≤ (x.length : Int) - 1 - (k : Int) := by omega
        have q2 : ¬ (0 : Int) ≤ (y.length : Int) - 1 - (k : Int) := by omega
        have q3 : ¬ ((x.length : Int) - 1 - (k : Int) < (y.length : Int) - 1 - (k : Int)) := by omega
        have q4 : (y.length : Int) - 1 - (k : Int) < (x.length : Int) - 1 - (k : Int) := by omega
        clear hl4 HR
        go_wp2_with fail
        go_ret
        exact ⟨by rw [HF.out]; rfl, hEw.trans hE⟩
    · have p2 : ¬ (0 : Int) ≤ (x.length : Int) - 1 - (k : Int) := by omega
      by_cases hl2 : k < y.length
      · have HF := Lib.hid (show R = -1 by
          rw [HR.out, show (x.map low).reverse.drop k = [] from List.drop_of_length_le (by simp; omega), HY.out k hl2]; rfl)
        clear HR
        have q4 : (x.length : Int) - 1 - (k : Int) < (y.length : Int) - 1 - (k : Int) := by omega
        go_wp2_with fail
        go_ret
        exact ⟨by rw [HF.out]; rfl, hEw.trans hE⟩
      · have HF := Lib.hid (show R = 0 by
          rw [HR.out, show (x.map low).reverse.drop k = [] from List.drop_of_length_le (by simp; omega), show (y.map low).reverse.drop k = [] from List.drop_of_length_le (by simp; omega)]; rfl)
        clear HR
        have q3 : ¬ ((x.length : Int) - 1 - (k : Int) < (y.length : Int) - 1 - (k : Int)) := by omega
        have q4 : ¬ ((y.length : Int) - 1 - (k : Int) < (x.length : Int) - 1 - (k : Int)) := by omega
        go_wp2_with fail
        go_ret
        exact ⟨by rw [HF.out]; rfl, hEw.trans hE⟩

theorem cmp_nan (x : Int) (w : World) : Calls Tryz.prog 210 #[.int .u16 x] w fun e w' => e = .returned (.bool false) ∧ w = w' := by
  go_enter Tryz.func210, Tryz.ntmps210
  go_wp2_with fail
  go_ret
  exact ⟨by simp, rfl⟩
def cmpI (x y : Int) : Int := if x < y then -1 else if y < x then 1 else 0
theorem cmp_u16 (x y : Int) (w : World) : Calls Tryz.prog 146 #[.int .u16 x, .int .u16 y] w fun e w' => e = .returned (.int .i64 (cmpI x y)) ∧ w = w' := by
  have HX := Lib.hid (cmp_nan x w)
  have HY := Lib.hid (cmp_nan y w)
  unfold cmpI
  by_cases h1 : x < y
  · rw [if_pos h1]
    go_enter Tryz.func146, Tryz.ntmps146
    go_wp2_with fail
    refine HX.out.mono ?_; rintro e w' ⟨rfl, rfl⟩
    go_wp2_with fail
    refine HY.out.mono ?_; rintro e w' ⟨rfl, rfl⟩
    go_wp2_with fail
    go_ret
    exact ⟨rfl, rfl⟩
  · rw [if_neg h1]
    have h1d : decide (x < y) = false := by simpa using h1
    by_cases h2 : y < x
    · rw [if_pos h2]
      go_enter Tryz.func146, Tryz.ntmps146
      go_wp2_with fail
      refine HX.out.mono ?_; rintro e w' ⟨rfl, rfl⟩
      go_wp2_with fail
      refine HY.out.mono ?_; rintro e w' ⟨rfl, rfl⟩
      go_wp2_with fail
      go_ret
      exact ⟨rfl, rfl⟩
    · rw [if_neg h2]
      have h2d : decide (y < x) = false := by simpa using h2
      go_enter Tryz.func146, Tryz.ntmps146
      go_wp2_with fail
      refine HX.out.mono ?_; rintro e w' ⟨rfl, rfl⟩
      go_wp2_with fail
      refine HY.out.mono ?_; rintro e w' ⟨rfl, rfl⟩
      go_wp2_with fail
      go_ret
      exact ⟨rfl, rfl⟩
end Go.Proofs.YtdnpmapelmjfpaaGreatDoor
