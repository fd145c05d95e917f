/- The walks of hustingsref05: layout, texts, pieces. -/
import Derived.Test.YthdlgmfeicikpaaGreatDoorRef4
import Derived.Test.YthdlgmfeicikpaaGreatDoorRef2
import Derived.Test.YthdlgmfeicikpaaGreatDoorChain1
namespace Go.Proofs.YthdlgmfeicikpaaGreatDoor
set_option linter.unusedSimpArgs false
set_option linter.unusedVariables false
open Go.RowKit
set_option maxRecDepth 100000

/-- A piece of the reference. -/
structure Pr where
  s : List UInt8
  nm : Bool
def Pr.cells (p : Pr) : List Value := [S p.s, .bool p.nm]
def layoutOf (k : Int) : Nat × Nat × Nat × Bool :=
  if k = 1 then (4, 0, 0, true) else if k = 28 then (16, 0, 0, true) else if k = 2 ∨ k = 5 ∨ k = 12 then (0, 1, 0, true)
  else if k = 15 then (2, 1, 0, true) else if k = 6 then (0, 2, 20, true) else if k = 33 then (6, 1, 0, true) else (0, 0, 0, false)
def refLoop (msg : List UInt8) (behind : Nat) : Nat → Nat → List Pr → List Pr × Nat
  | 0, pos, acc => if msg.length - pos < behind then ([], 4) else if behind < msg.length - pos then ([], 3) else (acc ++ [⟨msg.drop pos, false⟩], 0)
  | n + 1, pos, acc => if (readN msg pos).2.2 ≠ 0 then ([], (readN msg pos).2.2) else refLoop msg behind n (readN msg pos).2.1 (acc ++ [⟨(readN msg pos).1, true⟩])
def refPieces (msg : List UInt8) (pos : Nat) (k : Int) : List Pr × Nat :=
  if k = 41 then ([], 3)
  else if k = 16 then (if textsOk (msg.drop pos) then ([⟨msg.drop pos, false⟩], 0) else ([], 4))
  else if (layoutOf k).2.2.2 = false then ([⟨msg.drop pos, false⟩], 0)
  else if msg.length - pos < (layoutOf k).1 then ([], 4)
  else refLoop msg (layoutOf k).2.2.1 (layoutOf k).2.1 (pos + (layoutOf k).1) [⟨(msg.drop pos).take (layoutOf k).1, false⟩]

theorem ref_layout (k : Int) (w : World) : Calls Tryz.prog 118 #[.int .u16 k] w fun e w' => e = .returned (.tuple #[.int .i64 (layoutOf k).1, .int .i64 (layoutOf k).2.1, .int .i64 (layoutOf k).2.2.1, .bool (layoutOf k).2.2.2]) ∧ w = w' := by
  by_cases h1 : k = 1
  · subst h1
    go_enter Tryz.func118, Tryz.ntmps118
    go_wp2
    refine bodyPost_ret (results4 rfl _ _ _) rfl ?_
    exact ⟨rfl, rfl⟩
  by_cases h28 : k = 28
  · subst h28
    go_enter Tryz.func118, Tryz.ntmps118
    go_wp2
    refine bodyPost_ret (results4 rfl _ _ _) rfl ?_
    exact ⟨rfl, rfl⟩
  by_cases h2 : k = 2
  · subst h2
    go_enter Tryz.func118, Tryz.ntmps118
    go_wp2
    refine bodyPost_ret (results4 rfl _ _ _) rfl ?_
    exact ⟨rfl, rfl⟩
  by_cases h5 : k = 5
  · subst h5
    go_enter Tryz.func118, Tryz.ntmps118
    go_wp2
    refine bodyPost_ret (results4 rfl _ _ _) rfl ?_
    exact ⟨rfl, rfl⟩
  by_cases h12 : k = 12
  · subst h12
    go_enter Tryz.func118, Tryz.ntmps118
    go_wp2
    refine bodyPost_ret (results4 rfl _ _ _) rfl ?_
    exact ⟨rfl, rfl⟩
  by_cases h15 : k = 15
  · subst h15
    go_enter Tryz.func118, Tryz.ntmps118
    go_wp2
    refine bodyPost_ret (results4 rfl _ _ _) rfl ?_
    exact ⟨rfl, rfl⟩
  by_cases h6 : k = 6
  · subst h6
    go_enter Tryz.func118, Tryz.ntmps118
    go_wp2
    refine bodyPost_ret (results4 rfl _ _ _) rfl ?_
    exact ⟨rfl, rfl⟩
  by_cases h33 : k = 33
  · subst h33
    go_enter Tryz.func118, Tryz.ntmps118
    go_wp2
    refine bodyPost_ret (results4 rfl _ _ _) rfl ?_
    exact ⟨rfl, rfl⟩
  have hL : layoutOf k = (0, 0, 0, false) := by simp [layoutOf, h1, h28, h2, h5, h12, h15, h6, h33]
  rw [hL]
  have g1 : (k == 1) = false := by rw [beq_eq_false_iff_ne]; exact h1
  have g28 : (k == 28) = false := by rw [beq_eq_false_iff_ne]; exact h28
  have g2 : (k == 2) = false := by rw [beq_eq_false_iff_ne]; exact h2
  have g5 : (k == 5) = false := by rw [beq_eq_false_iff_ne]; exact h5
  have g12 : (k == 12) = false := by rw [beq_eq_false_iff_ne]; exact h12
  have g15 : (k == 15) = false := by rw [beq_eq_false_iff_ne]; exact h15
  have g6 : (k == 6) = false := by rw [beq_eq_false_iff_ne]; exact h6
  have g33 : (k == 33) = false := by rw [beq_eq_false_iff_ne]; exact h33
  clear hL h1 h28 h2 h5 h12 h15 h6 h33
  go_enter Tryz.func118, Tryz.ntmps118
  go_wp2
  refine bodyPost_ret (results4 rfl _ _ _) rfl ?_
  exact ⟨rfl, rfl⟩
def Prs (w : World) (lo : Nat) (v : Value) (l : List Pr) : Prop := ∃ A c, v = .slice A l.length c ∧ Own w lo 102 2 A l.length c (l.flatMap Pr.cells)
def PrPost (R : List Pr × Nat) (w : World) (e : Ending) (w' : World) : Prop := ∃ v, e = .returned (.tuple #[v, .int .i64 R.2]) ∧ Prs w' w.heap.size v R.1 ∧ Ext w w'
theorem info_pr : (Tryz.prog.info? 102).map (fun i => (i.zero, i.size, i.bytes)) = some (some (.agg #[.string ⟨#[]⟩, .bool false]), 2, 24) := by kernel_rfl
theorem pr_one (p : Pr) : ∀ u ∈ p.cells, u.oneCell' = true := by
  intro u hu
  simp [Pr.cells] at hu
  rcases hu with rfl | rfl <;> rfl

set_option maxHeartbeats 1000000 in
theorem ref_texts (l : List UInt8) (w : World) (hl : l.length ≤ 1048576) :
    Calls Tryz.prog 117 #[S l] w (PrPost (if textsOk l then ([⟨l, false⟩], 0) else ([], 4)) w) := by
  obtain ⟨R, hR⟩ : ∃ R : List Pr × Nat, R = if textsOk l then ([⟨l, false⟩], 0) else ([], 4) := ⟨_, rfl⟩
  rw [← hR]
  have HR := Lib.hid hR
  clear hR
  by_cases h0 : l = []
  · subst h0
    have HF := Lib.hid (show R = ([], 4) from HR.out)
    go_enter Tryz.func117, Tryz.ntmps117
    go_wp2_with fail
    go_ret2
    exact ⟨_, by rw [HF.out]; rfl, by rw [HF.out]; exact ⟨none, 0, rfl, Own.nil _ _ _ _⟩, Ext.refl _⟩
  · have hpos : 0 < l.length := List.length_pos_iff.2 h0
    have f0 : l.isEmpty = false := by simpa using h0
    have f1 : (l == []) = false := by rw [beq_eq_false_iff_ne]; exact h0
    clear h0
    go_enter Tryz.func117, Tryz.ntmps117
    go_wp2_with fail
    go_loop [4] (fun i => ∃ k : Nat, k ≤ l.length ∧ i = .int .i64 k ∧ textsOk l = if k = l.length then true else textsOk (l.drop k)) (fun i => l.length - (intOf i).toNat)
    case atStart => exact ⟨0, by omega, rfl, by rw [if_neg (by omega)]; rfl⟩
    case round =>
      obtain ⟨k, hk, rfl, hrel⟩ := hrel
      by_cases hlt : k < l.length
      · obtain ⟨b, Hb, hget, hwb, hbd⟩ := byte_at l k hlt
        rw [if_neg (by omega)] at hrel
        have Hrel := Lib.hid hrel
        clear hrel
        by_cases hsh : (l.length : Int) < (k : Int) + 1 + (b.toNat : Int)
        · have HF := Lib.hid (show R = ([], 4) by rw [HR.out, Hrel.out, texts_short hlt b Hb.out (by omega)]; rfl)
          go_wp2_with fail
          go_ret2
          exact ⟨_, by rw [HF.out]; rfl, by rw [HF.out]; exact ⟨none, 0, rfl, Own.nil _ _ _ _⟩, Ext.refl _⟩
        · have Hst := Lib.hid (texts_step hlt b Hb.out (by omega))
          go_wp2_with fail
          go_round
          case rel =>
            refine ⟨k + (1 + b.toNat), by omega, by go_num, ?_⟩
            rw [Hrel.out, Hst.out]
          case measure => simp [intOf]; omega
      · have HF := Lib.hid (show R = ([⟨l, false⟩], 0) by
          have ht : textsOk l = true := by rw [hrel, if_pos (by omega)]
          rw [HR.out, ht]; rfl)
        clear hrel
        go_wp2_with fail
        go_ret2
        refine ⟨_, by rw [HF.out]; rfl, ?_, (Ext.refl _).alloc _⟩
        rw [HF.out]
        exact ⟨_, 1, rfl, own_lit w _ _ rfl (Nat.le_refl _) _ _ 1 2 rfl (by unfold maxLen; omega)⟩

theorem layoutOf_bd (k : Int) : (layoutOf k).1 ≤ 16 ∧ (layoutOf k).2.1 ≤ 2 ∧ (layoutOf k).2.2.1 ≤ 20 := by
  unfold layoutOf
  repeat' split
  all_goals simp

structure PiInv (w0 : World) (msg : List UInt8) (behind names : Nat) (R : List Pr × Nat) (i p : Nat) (acc : List Pr) (A : Option Addr) (c : Nat) (wr : World) : Prop where
  hi : i ≤ names
  hp : p ≤ msg.length
  hl : acc.length = i + 1
  own : Own wr w0.heap.size 102 2 A acc.length c (acc.flatMap Pr.cells)
  ext : Ext w0 wr
  eq : R = refLoop msg behind (names - i) p acc

set_option maxHeartbeats 1000000 in
theorem ref_pieces (msg : List UInt8) (pos : Nat) (kind : Int) (w : World) (hl : msg.length ≤ 1048576) (hp : pos ≤ msg.length) :
    Calls Tryz.prog 102 #[S msg, .int .i64 pos, .int .u16 kind] w (PrPost (refPieces msg pos kind) w) := by
  obtain ⟨R, hR⟩ : ∃ R, R = refPieces msg pos kind := ⟨_, rfl⟩
  rw [← hR]
  unfold refPieces at hR
  have ed : (msg.drop pos).take (msg.length - pos) = msg.drop pos := List.take_of_length_le (by simp)
  have hp' : (pos : Int) ≤ msg.length := by omega
  by_cases h41 : kind = 41
  · subst h41
    rw [if_pos rfl] at hR
    have HF := Lib.hid hR
    clear hR
    go_enter Tryz.func102, Tryz.ntmps102
    go_wp2_with fail
    go_ret2
    exact ⟨_, by rw [HF.out]; rfl, by rw [HF.out]; exact ⟨none, 0, rfl, Own.nil _ _ _ _⟩, Ext.refl _⟩
  rw [if_neg h41] at hR
  have f41 : (kind == 41) = false := by rw [beq_eq_false_iff_ne]; exact h41
  by_cases h16 : kind = 16
  · subst h16
    rw [if_pos rfl] at hR
    have HF := Lib.hid hR
    clear hR h41
    have HT := Lib.hid (ref_texts (msg.drop pos) w (by simp; omega))
    rw [← HF.out] at HT
    go_enter Tryz.func102, Tryz.ntmps102
    go_wp2_with fail
    refine HT.out.mono ?_; rintro e w1 ⟨v, rfl, hP, hE⟩
    go_wp2_with fail
    go_ret2
    exact ⟨v, rfl, hP, hE⟩
  rw [if_neg h16] at hR
  have f16 : (kind == 16) = false := by rw [beq_eq_false_iff_ne]; exact h16
  have HLA := Lib.hid (ref_layout kind w)
  have hlb := layoutOf_bd kind
  clear h41 h16
  generalize layoutOf kind = L at *
  obtain ⟨ahead, names, behind, is⟩ := L
  dsimp only at *
  obtain ⟨i0, hi0, hz0, hz1, hz2⟩ := info_parts info_pr
  rcases is with _ | _
  · rw [if_pos rfl] at hR
    have HF := Lib.hid hR
    clear hR
    go_enter Tryz.func102, Tryz.ntmps102
    go_wp2_with fail
    refine HLA.out.mono ?_; rintro e w' ⟨rfl, rfl⟩
    go_wp2_with fail
    go_ret2
    refine ⟨_, by rw [HF.out]; rfl, ?_, (Ext.refl _).alloc _⟩
    rw [HF.out]
    exact ⟨_, 1, rfl, own_lit w _ _ rfl (Nat.le_refl _) _ _ 1 2 rfl (by unfold maxLen; omega)⟩
  · rw [if_neg (by simp)] at hR
    by_cases hsh : msg.length - pos < ahead
    · rw [if_pos hsh] at hR
      have HF := Lib.hid hR
      have hsh' : (msg.length : Int) - pos < ahead := by omega
      clear hR
      go_enter Tryz.func102, Tryz.ntmps102
      go_wp2_with fail
      refine HLA.out.mono ?_; rintro e w' ⟨rfl, rfl⟩
      go_wp2_with fail
      go_ret2
      exact ⟨_, by rw [HF.out]; rfl, by rw [HF.out]; exact ⟨none, 0, rfl, Own.nil _ _ _ _⟩, Ext.refl _⟩
    · rw [if_neg hsh] at hR
      have HR := Lib.hid hR
      have hsh' : ¬ (msg.length : Int) - pos < ahead := by omega
      have e2 : ((pos : Int) + ahead).toNat = pos + ahead := by omega
      have e3 : pos + ahead - pos = ahead := by omega
      have e4 : (pos : Int) + ahead ≤ msg.length := by omega
      clear hR
      go_enter Tryz.func102, Tryz.ntmps102
      go_wp2_with fail
      refine HLA.out.mono ?_; rintro e w' ⟨rfl, rfl⟩
      go_wp2_with fail
      go_loopw [1, 12, 13] (fun p o i wr => ∃ (k p' : Nat) (acc : List Pr) (A : Option Addr) (c : Nat), i = .int .i64 k ∧ p = .int .i64 p' ∧ o = .slice A acc.length c ∧ PiInv w msg behind names R k p' acc A c wr) (fun _ _ i _ => names - (intOf i).toNat)
      case atStart =>
        refine ⟨0, pos + ahead, [⟨(msg.drop pos).take ahead, false⟩], _, 1, rfl, by go_num, rfl, ⟨by omega, by omega, rfl, ?_, (Ext.refl _).alloc _, HR.out⟩⟩
        exact own_lit w _ _ rfl (Nat.le_refl _) _ _ 1 2 rfl (by unfold maxLen; omega)
      case round =>
        obtain ⟨k, p', acc, A, c, rfl, rfl, rfl, hI⟩ := hrel
        obtain ⟨wo, rfl⟩ : ∃ wo : World, wo = wr := ⟨_, rfl⟩
        have hk := hI.hi
        have hpp := hI.hp
        have hal := Lib.hid hI.hl
        have hEq := hI.eq
        clear e2 e3 ed
        by_cases hlt : k < names
        · rw [show names - k = (names - k - 1) + 1 by omega] at hEq
          simp only [refLoop] at hEq
          have HRd := Lib.hid (ref_read msg p' wo hl hpp)
          have hbd := readN_bd msg p'
          have hlt' : (k : Int) < names := by omega
          generalize readN msg p' = X at *
          obtain ⟨x1, x2, x3⟩ := X
          dsimp only at *
          by_cases her : x3 = 0
          · subst her
            rw [if_neg (by simp)] at hEq
            have HEq := Lib.hid hEq
            clear hEq
            go_wp2_with (first
              | (go_at_call 119; refine HRd.out.mono ?_; rintro e w' ⟨rfl, rfl⟩)
              | (at_builtin
                 refine wpList_app _ rfl (.tmp 73) (.tmp 76) _ rfl w.heap.size 102 i0 _ 2 24 Tryz.underlying97 hi0 hz0 hz1 hz2 rfl (by omega) A acc.length c (acc.flatMap Pr.cells) rfl (hI.own.ext ((Ext.refl _).alloc _)) 0 _ 1 1 (Pr.cells ⟨x1, true⟩) rfl (rd_new _ _ rfl _ _ 1 2 rfl) (pr_one _) (by have := hal.out; omega) (by omega) (by have := hI.ext.size; simp; omega) ?_
                 intro A5 c5 w5 hown5 hg5 hb5 _))
            go_roundw
            case rel =>
              refine ⟨k + 1, x2, acc ++ [⟨x1, true⟩], A5, c5, by go_num, rfl, by simp, ⟨by omega, hbd.1, by simp [hal.out], ?_, (hI.ext.alloc _).then hb5 (Nat.le_refl _), ?_⟩⟩
              · rw [List.length_append, List.flatMap_append]; simpa using hown5
              · rw [HEq.out]; congr 1
            case measure => simp [intOf]; omega
          · rw [if_pos her] at hEq
            have HF := Lib.hid hEq
            have f1 : ((x3 : Int) == 0) = false := len_ne her
            have f2 : ((x3 : Int) != 0) = true := by rw [bne, f1]; rfl
            clear hEq her
            go_wp2_with (go_at_call 119; refine HRd.out.mono ?_; rintro e w' ⟨rfl, rfl⟩)
            go_ret2
            exact ⟨_, by rw [HF.out]; rfl, by rw [HF.out]; exact ⟨none, 0, rfl, Own.nil _ _ _ _⟩, hI.ext⟩
        · rw [show names - k = 0 by omega] at hEq
          simp only [refLoop] at hEq
          have hlt' : ¬ (k : Int) < names := by omega
          by_cases hs1 : msg.length - p' < behind
          · rw [if_pos hs1] at hEq
            have HF := Lib.hid hEq
            have g1 : (msg.length : Int) - p' < behind := by omega
            clear hEq
            go_wp2_with fail
            go_ret2
            exact ⟨_, by rw [HF.out]; rfl, by rw [HF.out]; exact ⟨none, 0, rfl, Own.nil _ _ _ _⟩, hI.ext⟩
          · rw [if_neg hs1] at hEq
            have g1 : ¬ (msg.length : Int) - p' < behind := by omega
            by_cases hs2 : behind < msg.length - p'
            · rw [if_pos hs2] at hEq
              have HF := Lib.hid hEq
              have g2 : (behind : Int) < (msg.length : Int) - p' := by omega
              clear hEq
              go_wp2_with fail
              go_ret2
              exact ⟨_, by rw [HF.out]; rfl, by rw [HF.out]; exact ⟨none, 0, rfl, Own.nil _ _ _ _⟩, hI.ext⟩
            · rw [if_neg hs2] at hEq
              have HF := Lib.hid hEq
              have g2 : ¬ (behind : Int) < (msg.length : Int) - p' := by omega
              have ed2 : (msg.drop p').take (msg.length - p') = msg.drop p' := List.take_of_length_le (by simp)
              have hp2 : (p' : Int) ≤ msg.length := by omega
              clear hEq
              go_wp2_with (
                 at_builtin
                 refine wpList_app _ rfl (.tmp 91) (.tmp 96) _ rfl w.heap.size 102 i0 _ 2 24 Tryz.underlying97 hi0 hz0 hz1 hz2 rfl (by omega) A acc.length c (acc.flatMap Pr.cells) rfl (hI.own.ext ((Ext.refl _).alloc _)) 0 _ 1 1 (Pr.cells ⟨msg.drop p', false⟩) rfl (rd_new _ _ rfl _ _ 1 2 rfl) (pr_one _) (by have := hal.out; omega) (by omega) (by have := hI.ext.size; simp; omega) ?_
                 intro A5 c5 w5 hown5 hg5 hb5 _)
              go_ret2
              refine ⟨_, by rw [HF.out]; rfl, ?_, (hI.ext.alloc _).then hb5 (Nat.le_refl _)⟩
              rw [HF.out]
              refine ⟨A5, c5, by simp, ?_⟩
              rw [List.length_append, List.flatMap_append]; simpa using hown5
end Go.Proofs.YthdlgmfeicikpaaGreatDoor
