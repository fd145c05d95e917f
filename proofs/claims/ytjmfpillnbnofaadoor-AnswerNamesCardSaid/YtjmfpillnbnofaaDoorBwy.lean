/- Contracts of functions and plain lemmas that the proofs of this seat share (joined texts). No condition. -/
import Derived.Test.YtjmfpillnbnofaaDoorBwx
import Derived.Test.YtjmfpillnbnofaaDoorBwp
import Derived.Test.YtjmfpillnbnofaaDoorBb
import Derived.Test.YtjmfpillnbnofaaDoorBg
import Derived.Laws.BitsAllLaws
import Derived.Test.YtjmfpillnbnofaaDoorBd
import Derived.Test.YtjmfpillnbnofaaDoorBa
import Derived.Deep.DeepCutAuto
import Derived.Defers
import Derived.Recover
namespace Go.Proofs.YtjmfpillnbnofaaDoor
set_option linter.unusedSimpArgs false
set_option linter.unusedVariables false
open Go.RowKit
set_option maxRecDepth 100000

theorem or_pow (a b e : Nat) (hb : b < 2 ^ e) : (2 ^ (e + 1) * a + b) ||| 2 ^ e = 2 ^ (e + 1) * a + b + 2 ^ e := by
  have hp : 2 ^ (e + 1) = 2 * 2 ^ e := by rw [Nat.pow_succ, Nat.mul_comm]
  have h1 := Nat.two_pow_add_eq_or_of_lt (i := e + 1) (b := b) (by omega) a
  have h2 := Nat.two_pow_add_eq_or_of_lt (i := e) (b := b) hb 1
  have h3 := Nat.two_pow_add_eq_or_of_lt (i := e + 1) (b := 2 ^ e * 1 + b) (by omega) a
  rw [Nat.mul_one] at h2 h3
  rw [h1, Nat.or_assoc, Nat.or_comm b, ← h2, ← h3]
  omega
theorem or_bit {x e : Nat} (h : x % 2 ^ (e + 1) < 2 ^ e) : x ||| 2 ^ e = x + 2 ^ e := by
  have h1 := or_pow (x / 2 ^ (e + 1)) (x % 2 ^ (e + 1)) e h
  rw [Nat.div_add_mod] at h1
  exact h1
theorem u16_bit {x e : Nat} (hx : x < 65536) (he : e < 16) (h : x % 2 ^ (e + 1) < 2 ^ e) : bits .or .u16 (x : Int) ((2 ^ e : Nat) : Int) = ((x + 2 ^ e : Nat) : Int) := by
  have : 2 ^ e < 65536 := Nat.lt_of_lt_of_le (Nat.pow_lt_pow_right (by omega) he) (by decide)
  rw [u16_or_nat x (2 ^ e) hx this, or_bit h]
def BitsAt (w : World) : Prop := w.cell? ⟨0, 0, none⟩ = some (.int .u16 32768) ∧ w.cell? ⟨0, 1, none⟩ = some (.int .u16 1024) ∧ w.cell? ⟨0, 2, none⟩ = some (.int .u16 512) ∧ w.cell? ⟨0, 3, none⟩ = some (.int .u16 256) ∧
  w.cell? ⟨0, 4, none⟩ = some (.int .u16 128) ∧ w.cell? ⟨0, 5, none⟩ = some (.int .u16 64) ∧ w.cell? ⟨0, 6, none⟩ = some (.int .u16 32) ∧ w.cell? ⟨0, 7, none⟩ = some (.int .u16 16)
theorem BitsAt.ext {w w' : World} (h : BitsAt w) (hE : Ext w w') : BitsAt w' := by
  obtain ⟨a, b, c, d, e, f, g, i⟩ := h
  exact ⟨(hE.cell (spot_of a).2).trans a, (hE.cell (spot_of b).2).trans b, (hE.cell (spot_of c).2).trans c, (hE.cell (spot_of d).2).trans d, (hE.cell (spot_of e).2).trans e, (hE.cell (spot_of f).2).trans f, (hE.cell (spot_of g).2).trans g, (hE.cell (spot_of i).2).trans i⟩
abbrev hdV (h : HdD) : Value := .agg #[.int .u16 h.id, .bool h.qr, .int .u8 h.op, .bool h.aa, .bool h.tc, .bool h.rd, .bool h.ra, .bool h.z, .bool h.ad, .bool h.cd, .int .u8 h.code]
def flT (h : HdD) (o c : Nat) : Nat → Nat
  | 0 => o * 2048 + c
  | 1 => o * 2048 + c + bitN h.qr 32768
  | 2 => o * 2048 + c + bitN h.qr 32768 + bitN h.aa 1024
  | 3 => o * 2048 + c + bitN h.qr 32768 + bitN h.aa 1024 + bitN h.tc 512
  | 4 => o * 2048 + c + bitN h.qr 32768 + bitN h.aa 1024 + bitN h.tc 512 + bitN h.rd 256
  | 5 => o * 2048 + c + bitN h.qr 32768 + bitN h.aa 1024 + bitN h.tc 512 + bitN h.rd 256 + bitN h.ra 128
  | 6 => o * 2048 + c + bitN h.qr 32768 + bitN h.aa 1024 + bitN h.tc 512 + bitN h.rd 256 + bitN h.ra 128 + bitN h.z 64
  | 7 => o * 2048 + c + bitN h.qr 32768 + bitN h.aa 1024 + bitN h.tc 512 + bitN h.rd 256 + bitN h.ra 128 + bitN h.z 64 + bitN h.ad 32
  | _ => o * 2048 + c + bitN h.qr 32768 + bitN h.aa 1024 + bitN h.tc 512 + bitN h.rd 256 + bitN h.ra 128 + bitN h.z 64 + bitN h.ad 32 + bitN h.cd 16
set_option maxHeartbeats 4000000 in
theorem head_flags (h : HdD) (w : World) (hb : BitsAt w) (ho : 0 ≤ h.op) (hc : 0 ≤ h.code) :
    Calls Tryd.prog 19 #[hdV h] w fun e w' => (if hdOk h = true then e = .returned (.tuple #[.int .u16 (flagsOf h : Nat), .int .i64 0]) else e = .returned (.tuple #[.int .u16 0, .int .i64 1])) ∧ Ext w w' := by
  obtain ⟨id, qr, op, aa, tc, rd, ra, z, ad, cd, code⟩ := h
  dsimp only at ho hc
  obtain ⟨o, rfl⟩ := Int.eq_ofNat_of_zero_le ho
  obtain ⟨c, rfl⟩ := Int.eq_ofNat_of_zero_le hc
  by_cases hok : o ≤ 15 ∧ c ≤ 15
  · have hk : hdOk ⟨id, qr, o, aa, tc, rd, ra, z, ad, cd, c⟩ = true := by unfold hdOk; rw [decide_eq_true_eq]; dsimp only; omega
    rw [hk]
    obtain ⟨h1, h2⟩ := hok
    have h1i : ¬ ((15 : Int) < (o : Int)) := by omega
    have h2i : ¬ ((15 : Int) < (c : Int)) := by omega
    obtain ⟨v0, l0, e0, d0⟩ := bitN_val qr 32768
    obtain ⟨v1, l1, e1, d1⟩ := bitN_val aa 1024
    obtain ⟨v2, l2, e2, d2⟩ := bitN_val tc 512
    obtain ⟨v3, l3, e3, d3⟩ := bitN_val rd 256
    obtain ⟨v4, l4, e4, d4⟩ := bitN_val ra 128
    obtain ⟨v5, l5, e5, d5⟩ := bitN_val z 64
    obtain ⟨v6, l6, e6, d6⟩ := bitN_val ad 32
    obtain ⟨v7, l7, e7, d7⟩ := bitN_val cd 16
    have Hb0 := Lib.hid (show bits .or .u16 ((flT ⟨id, qr, o, aa, tc, rd, ra, z, ad, cd, c⟩ o c 0 : Nat) : Int) 32768 = ((flT ⟨id, qr, o, aa, tc, rd, ra, z, ad, cd, c⟩ o c 0 + 32768 : Nat) : Int) from
      u16_bit (x := flT ⟨id, qr, o, aa, tc, rd, ra, z, ad, cd, c⟩ o c 0) (e := 15) (by simp only [flT, e0, e1, e2, e3, e4, e5, e6]; omega) (by omega) (by simp only [flT, e0, e1, e2, e3, e4, e5, e6]; omega))
    have Hb1 := Lib.hid (show bits .or .u16 ((flT ⟨id, qr, o, aa, tc, rd, ra, z, ad, cd, c⟩ o c 1 : Nat) : Int) 1024 = ((flT ⟨id, qr, o, aa, tc, rd, ra, z, ad, cd, c⟩ o c 1 + 1024 : Nat) : Int) from
      u16_bit (x := flT ⟨id, qr, o, aa, tc, rd, ra, z, ad, cd, c⟩ o c 1) (e := 10) (by simp only [flT, e0, e1, e2, e3, e4, e5, e6]; omega) (by omega) (by simp only [flT, e0, e1, e2, e3, e4, e5, e6]; omega))
    have Hb2 := Lib.hid (show bits .or .u16 ((flT ⟨id, qr, o, aa, tc, rd, ra, z, ad, cd, c⟩ o c 2 : Nat) : Int) 512 = ((flT ⟨id, qr, o, aa, tc, rd, ra, z, ad, cd, c⟩ o c 2 + 512 : Nat) : Int) from
      u16_bit (x := flT ⟨id, qr, o, aa, tc, rd, ra, z, ad, cd, c⟩ o c 2) (e := 9) (by simp only [flT, e0, e1, e2, e3, e4, e5, e6]; omega) (by omega) (by simp only [flT, e0, e1, e2, e3, e4, e5, e6]; omega))
    have Hb3 := Lib.hid (show bits .or .u16 ((flT ⟨id, qr, o, aa, tc, rd, ra, z, ad, cd, c⟩ o c 3 : Nat) : Int) 256 = ((flT ⟨id, qr, o, aa, tc, rd, ra, z, ad, cd, c⟩ o c 3 + 256 : Nat) : Int) from
      u16_bit (x := flT ⟨id, qr, o, aa, tc, rd, ra, z, ad, cd, c⟩ o c 3) (e := 8) (by simp only [flT, e0, e1, e2, e3, e4, e5, e6]; omega) (by omega) (by simp only [flT, e0, e1, e2, e3, e4, e5, e6]; omega))
    have Hb4 := Lib.hid (show bits .or .u16 ((flT ⟨id, qr, o, aa, tc, rd, ra, z, ad, cd, c⟩ o c 4 : Nat) : Int) 128 = ((flT ⟨id, qr, o, aa, tc, rd, ra, z, ad, cd, c⟩ o c 4 + 128 : Nat) : Int) from
      u16_bit (x := flT ⟨id, qr, o, aa, tc, rd, ra, z, ad, cd, c⟩ o c 4) (e := 7) (by simp only [flT, e0, e1, e2, e3, e4, e5, e6]; omega) (by omega) (by simp only [flT, e0, e1, e2, e3, e4, e5, e6]; omega))
    have Hb5 := Lib.hid (show bits .or .u16 ((flT ⟨id, qr, o, aa, tc, rd, ra, z, ad, cd, c⟩ o c 5 : Nat) : Int) 64 = ((flT ⟨id, qr, o, aa, tc, rd, ra, z, ad, cd, c⟩ o c 5 + 64 : Nat) : Int) from
      u16_bit (x := flT ⟨id, qr, o, aa, tc, rd, ra, z, ad, cd, c⟩ o c 5) (e := 6) (by simp only [flT, e0, e1, e2, e3, e4, e5, e6]; omega) (by omega) (by simp only [flT, e0, e1, e2, e3, e4, e5, e6]; omega))
    have Hb6 := Lib.hid (show bits .or .u16 ((flT ⟨id, qr, o, aa, tc, rd, ra, z, ad, cd, c⟩ o c 6 : Nat) : Int) 32 = ((flT ⟨id, qr, o, aa, tc, rd, ra, z, ad, cd, c⟩ o c 6 + 32 : Nat) : Int) from
      u16_bit (x := flT ⟨id, qr, o, aa, tc, rd, ra, z, ad, cd, c⟩ o c 6) (e := 5) (by simp only [flT, e0, e1, e2, e3, e4, e5, e6]; omega) (by omega) (by simp only [flT, e0, e1, e2, e3, e4, e5, e6]; omega))
    have Hb7 := Lib.hid (show bits .or .u16 ((flT ⟨id, qr, o, aa, tc, rd, ra, z, ad, cd, c⟩ o c 7 : Nat) : Int) 16 = ((flT ⟨id, qr, o, aa, tc, rd, ra, z, ad, cd, c⟩ o c 7 + 16 : Nat) : Int) from
      u16_bit (x := flT ⟨id, qr, o, aa, tc, rd, ra, z, ad, cd, c⟩ o c 7) (e := 4) (by simp only [flT, e0, e1, e2, e3, e4, e5, e6]; omega) (by omega) (by simp only [flT, e0, e1, e2, e3, e4, e5, e6]; omega))
    have Hend := Lib.hid (show flT ⟨id, qr, o, aa, tc, rd, ra, z, ad, cd, c⟩ o c 8 = flagsOf ⟨id, qr, o, aa, tc, rd, ra, z, ad, cd, c⟩ by simp only [flT, flagsOf, Int.toNat_natCast]; omega)
    have hor0 : bits .or .u16 ((o : Int) * 2048) (c : Int) = ((flT ⟨id, qr, o, aa, tc, rd, ra, z, ad, cd, c⟩ o c 0 : Nat) : Int) := by
      have h3 := u16_or_nat (o * 2048) c (by omega) (by omega)
      have h4 := Nat.two_pow_add_eq_or_of_lt (i := 11) (b := c) (by omega) o
      rw [Int.natCast_mul] at h3
      have h5 : (o * 2048 ||| c) = o * 2048 + c := by rw [Nat.mul_comm]; exact h4.symm
      rw [h5] at h3
      exact h3
    clear l0 e0 d0 l1 e1 d1 l2 e2 d2 l3 e3 d3 l4 e4 d4 l5 e5 d5 l6 e6 d6 l7 e7 d7 v0 v1 v2 v3 v4 v5 v6 v7
    obtain ⟨W, hW⟩ : ∃ W, W = (w.alloc (.cells #[.int .u16 id, .bool qr, .int .u8 (o : Int), .bool aa, .bool tc, .bool rd, .bool ra, .bool z, .bool ad, .bool cd, .int .u8 (c : Int)] 25)).alloc (.cells #[.bool qr, .bool aa, .bool tc, .bool rd, .bool ra, .bool z, .bool ad, .bool cd] 91) := ⟨_, rfl⟩
    have hwW : Ext w W := by rw [hW]; exact ((Ext.refl _).alloc _).alloc _
    have hrow : W.heap[w.heap.size + 1]? = some (.cells #[.bool qr, .bool aa, .bool tc, .bool rd, .bool ra, .bool z, .bool ad, .bool cd] 91) := by rw [hW]; exact heap_alloc2_new w _ _
    go_enter Tryd.func19, Tryd.ntmps19
    go_upto_region 5 with fail
    rw [← hW]
    clear hW
    obtain ⟨b0, b1, b2, b3, b4, b5, b6, b7⟩ := hb.ext hwW
    have k0 : W.cell? ⟨w.heap.size + 1, 0, none⟩ = some (.bool qr) := cell_of_row W _ 0 _ _ _ hrow
    have k1 : W.cell? ⟨w.heap.size + 1, 1, none⟩ = some (.bool aa) := cell_of_row W _ 1 _ _ _ hrow
    have k2 : W.cell? ⟨w.heap.size + 1, 2, none⟩ = some (.bool tc) := cell_of_row W _ 2 _ _ _ hrow
    have k3 : W.cell? ⟨w.heap.size + 1, 3, none⟩ = some (.bool rd) := cell_of_row W _ 3 _ _ _ hrow
    have k4 : W.cell? ⟨w.heap.size + 1, 4, none⟩ = some (.bool ra) := cell_of_row W _ 4 _ _ _ hrow
    have k5 : W.cell? ⟨w.heap.size + 1, 5, none⟩ = some (.bool z) := cell_of_row W _ 5 _ _ _ hrow
    have k6 : W.cell? ⟨w.heap.size + 1, 6, none⟩ = some (.bool ad) := cell_of_row W _ 6 _ _ _ hrow
    have k7 : W.cell? ⟨w.heap.size + 1, 7, none⟩ = some (.bool cd) := cell_of_row W _ 7 _ _ _ hrow
    clear hrow h1i h2i
    go_wp2_with fail
    go_loopw [4, 6, 7, 42] (fun s4 _ _ s42 wr => ∃ k : Nat, k ≤ 8 ∧ s42 = .int .i64 k ∧ s4 = .int .u16 (flT ⟨id, qr, o, aa, tc, rd, ra, z, ad, cd, c⟩ o c k : Nat) ∧ W = wr) (fun _ _ _ s42 _ => 8 - (intOf s42).toNat)
    case atStart => exact ⟨0, by omega, rfl, rfl, rfl⟩
    case round =>
      obtain ⟨k, hk, rfl, rfl, rfl⟩ := hrel
      clear hor0
      rcases Nat.lt_or_ge k 8 with hk8 | hk8
      · rcases (by omega : k = 0 ∨ k = 1 ∨ k = 2 ∨ k = 3 ∨ k = 4 ∨ k = 5 ∨ k = 6 ∨ k = 7) with rfl | rfl | rfl | rfl | rfl | rfl | rfl | rfl
        · have hor := Hb0.out
          have hc : ((0 : Nat) : Int) = 0 := rfl
          have hix : ∀ V : World, (Instr.index 92 (.agg #[.int .u16 32768, .int .u16 1024, .int .u16 512, .int .u16 256, .int .u16 128, .int .u16 64, .int .u16 32, .int .u16 16]) (.int .i64 0)).run Tryd.prog V = .ok (.int .u16 32768) V := fun _ => by kernel_rfl
          rcases qr with _ | _
          all_goals
            go_wp2_with fail
            go_roundw
            case rel => exact ⟨1, by omega, by go_num, rfl, (by first | rfl | trivial)⟩
            case measure => simp [intOf]
        · have hor := Hb1.out
          have hc : ((1 : Nat) : Int) = 1 := rfl
          have hix : ∀ V : World, (Instr.index 92 (.agg #[.int .u16 32768, .int .u16 1024, .int .u16 512, .int .u16 256, .int .u16 128, .int .u16 64, .int .u16 32, .int .u16 16]) (.int .i64 1)).run Tryd.prog V = .ok (.int .u16 1024) V := fun _ => by kernel_rfl
          rcases aa with _ | _
          all_goals
            go_wp2_with fail
            go_roundw
            case rel => exact ⟨2, by omega, by go_num, rfl, (by first | rfl | trivial)⟩
            case measure => simp [intOf]
        · have hor := Hb2.out
          have hc : ((2 : Nat) : Int) = 2 := rfl
          have hix : ∀ V : World, (Instr.index 92 (.agg #[.int .u16 32768, .int .u16 1024, .int .u16 512, .int .u16 256, .int .u16 128, .int .u16 64, .int .u16 32, .int .u16 16]) (.int .i64 2)).run Tryd.prog V = .ok (.int .u16 512) V := fun _ => by kernel_rfl
          rcases tc with _ | _
          all_goals
            go_wp2_with fail
            go_roundw
            case rel => exact ⟨3, by omega, by go_num, rfl, (by first | rfl | trivial)⟩
            case measure => simp [intOf]
        · have hor := Hb3.out
          have hc : ((3 : Nat) : Int) = 3 := rfl
          have hix : ∀ V : World, (Instr.index 92 (.agg #[.int .u16 32768, .int .u16 1024, .int .u16 512, .int .u16 256, .int .u16 128, .int .u16 64, .int .u16 32, .int .u16 16]) (.int .i64 3)).run Tryd.prog V = .ok (.int .u16 256) V := fun _ => by kernel_rfl
          rcases rd with _ | _
          all_goals
            go_wp2_with fail
            go_roundw
            case rel => exact ⟨4, by omega, by go_num, rfl, (by first | rfl | trivial)⟩
            case measure => simp [intOf]
        · have hor := Hb4.out
          have hc : ((4 : Nat) : Int) = 4 := rfl
          have hix : ∀ V : World, (Instr.index 92 (.agg #[.int .u16 32768, .int .u16 1024, .int .u16 512, .int .u16 256, .int .u16 128, .int .u16 64, .int .u16 32, .int .u16 16]) (.int .i64 4)).run Tryd.prog V = .ok (.int .u16 128) V := fun _ => by kernel_rfl
          rcases ra with _ | _
          all_goals
            go_wp2_with fail
            go_roundw
            case rel => exact ⟨5, by omega, by go_num, rfl, (by first | rfl | trivial)⟩
            case measure => simp [intOf]
        · have hor := Hb5.out
          have hc : ((5 : Nat) : Int) = 5 := rfl
          have hix : ∀ V : World, (Instr.index 92 (.agg #[.int .u16 32768, .int .u16 1024, .int .u16 512, .int .u16 256, .int .u16 128, .int .u16 64, .int .u16 32, .int .u16 16]) (.int .i64 5)).run Tryd.prog V = .ok (.int .u16 64) V := fun _ => by kernel_rfl
          rcases z with _ | _
          all_goals
            go_wp2_with fail
            go_roundw
            case rel => exact ⟨6, by omega, by go_num, rfl, (by first | rfl | trivial)⟩
            case measure => simp [intOf]
        · have hor := Hb6.out
          have hc : ((6 : Nat) : Int) = 6 := rfl
          have hix : ∀ V : World, (Instr.index 92 (.agg #[.int .u16 32768, .int .u16 1024, .int .u16 512, .int .u16 256, .int .u16 128, .int .u16 64, .int .u16 32, .int .u16 16]) (.int .i64 6)).run Tryd.prog V = .ok (.int .u16 32) V := fun _ => by kernel_rfl
          rcases ad with _ | _
          all_goals
            go_wp2_with fail
            go_roundw
            case rel => exact ⟨7, by omega, by go_num, rfl, (by first | rfl | trivial)⟩
            case measure => simp [intOf]
        · have hor := Hb7.out
          have hc : ((7 : Nat) : Int) = 7 := rfl
          have hix : ∀ V : World, (Instr.index 92 (.agg #[.int .u16 32768, .int .u16 1024, .int .u16 512, .int .u16 256, .int .u16 128, .int .u16 64, .int .u16 32, .int .u16 16]) (.int .i64 7)).run Tryd.prog V = .ok (.int .u16 16) V := fun _ => by kernel_rfl
          rcases cd with _ | _
          all_goals
            go_wp2_with fail
            go_roundw
            case rel => exact ⟨8, by omega, by go_num, rfl, (by first | rfl | trivial)⟩
            case measure => simp [intOf]
      · have e8 : k = 8 := by omega
        subst e8
        go_wp2_with fail
        go_ret2
        refine ⟨?_, hwW⟩
        rw [← Hend.out]
        rfl
  · have hk : hdOk ⟨id, qr, o, aa, tc, rd, ra, z, ad, cd, c⟩ = false := by unfold hdOk; rw [decide_eq_false_iff_not]; dsimp only; omega
    rw [hk]
    clear hk hb
    by_cases h1 : o ≤ 15
    · have h1i : ¬ ((15 : Int) < (o : Int)) := by omega
      have h2i : (15 : Int) < (c : Int) := by omega
      go_enter Tryd.func19, Tryd.ntmps19
      go_wp2_with fail
      go_ret2
      exact ⟨rfl, by (repeat (first | with_reducible exact Ext.refl _ | with_reducible assumption | with_reducible refine Ext.alloc ?_ _ | with_reducible refine Ext.drewN ?_ _ | with_reducible refine Ext.drew ?_ | (with_reducible refine Ext.setCell ?_ ?hp _; case hp => (simp <;> omega))))⟩
    · have h1i : (15 : Int) < (o : Int) := by omega
      go_enter Tryd.func19, Tryd.ntmps19
      go_wp2_with fail
      go_ret2
      exact ⟨rfl, by (repeat (first | with_reducible exact Ext.refl _ | with_reducible assumption | with_reducible refine Ext.alloc ?_ _ | with_reducible refine Ext.drewN ?_ _ | with_reducible refine Ext.drew ?_ | (with_reducible refine Ext.setCell ?_ ?hp _; case hp => (simp <;> omega))))⟩
end Go.Proofs.YtjmfpillnbnofaaDoor
namespace Go.Proofs.YtjmfpillnbnofaaDoor
set_option linter.unusedSimpArgs false
set_option linter.unusedVariables false
open Go.RowKit
set_option maxRecDepth 100000

def cntW (a b c d : Nat) : Nat → List UInt8
  | 0 => []
  | 1 => two a
  | 2 => two a ++ two b
  | 3 => two a ++ two b ++ two c
  | _ => two a ++ two b ++ two c ++ two d
theorem cntW_len (a b c d k : Nat) : (cntW a b c d k).length ≤ 8 := by
  unfold cntW
  split <;> simp [two_len]
set_option maxHeartbeats 4000000 in
theorem head_write (h : HdD) (a b c d : Nat) (w : World) (hb : BitsAt w) (ho : 0 ≤ h.op) (hc : 0 ≤ h.code) (hi : 0 ≤ h.id ∧ h.id ≤ 65535) (hok : hdOk h = true) (ha : a ≤ 65535) (hbb : b ≤ 65535) (hcc : c ≤ 65535) (hd : d ≤ 65535) :
    Calls Tryd.prog 34 #[hdV h, .agg #[.int .i64 (a : Int), .int .i64 (b : Int), .int .i64 (c : Int), .int .i64 (d : Int)]] w fun e w' =>
      e = .returned (.tuple #[S (two h.id.toNat ++ two (flagsOf h) ++ cntW a b c d 4), .int .i64 0]) ∧ Ext w w' := by
  have hfl := flags_lt ho hc hok
  have HF := Lib.hid (show ∀ V, Ext w V → Calls Tryd.prog 19 #[hdV h] V (fun e w' => e = .returned (.tuple #[.int .u16 (flagsOf h : Nat), .int .i64 0]) ∧ Ext V w') from fun V hV => (head_flags h V (hb.ext hV) ho hc).mono fun e w' hh => ⟨by have h1 := hh.1; rw [if_pos hok] at h1; exact h1, hh.2⟩)
  obtain ⟨F, hF⟩ : ∃ F, F = flagsOf h := ⟨_, rfl⟩
  rw [← hF] at HF hfl
  rw [← hF]
  clear hF hb hok ho hc
  have H2 := Lib.hid (fun (n : Nat) (hn : n ≤ 65535) (X : List UInt8) (A : Option Addr) (c0 lo : Nat) (V : World) (hr : Rd V lo 1 A X.length (X.map U8)) (hx : X.length ≤ 12) => cur_put2 lo A c0 X (n : Int) V hr (by omega) (by omega))
  have H1 := Lib.hid (fun V => cur_put2 0 none 0 [] h.id V (Rd.nil _ _ _ _) (by simp) hi)
  obtain ⟨X0, hX0⟩ : ∃ X0, X0 = (w.alloc (.cells #[.int .u16 h.id, .bool h.qr, .int .u8 h.op, .bool h.aa, .bool h.tc, .bool h.rd, .bool h.ra, .bool h.z, .bool h.ad, .bool h.cd, .int .u8 h.code] 25)).alloc (.cells #[.int .i64 (a : Int), .int .i64 (b : Int), .int .i64 (c : Int), .int .i64 (d : Int)] 65) := ⟨_, rfl⟩
  have hw0 : Ext w X0 := by rw [hX0]; exact ((Ext.refl _).alloc _).alloc _
  have r0 : X0.heap[w.heap.size]? = some (.cells #[.int .u16 h.id, .bool h.qr, .int .u8 h.op, .bool h.aa, .bool h.tc, .bool h.rd, .bool h.ra, .bool h.z, .bool h.ad, .bool h.cd, .int .u8 h.code] 25) := by rw [hX0]; exact heap_alloc2_old w _ _
  have r1 : X0.heap[w.heap.size + 1]? = some (.cells #[.int .i64 (a : Int), .int .i64 (b : Int), .int .i64 (c : Int), .int .i64 (d : Int)] 65) := by rw [hX0]; exact heap_alloc2_new w _ _
  have z0 := (Array.getElem?_eq_some_iff.1 r0).1
  have z1 := (Array.getElem?_eq_some_iff.1 r1).1
  have K0 := Lib.hid (fun V (hV : Ext X0 V) => cell_of_row V _ 0 _ _ _ ((hV.block _ z0).trans r0))
  have K1 := Lib.hid (fun V (hV : Ext X0 V) => (hV.block _ z1).trans r1)
  have HFx := HF.out _ hw0
  go_enter Tryd.func34, Tryd.ntmps34
  go_upto_region 1 with fail
  rw [← hX0]
  have q0 : ∀ j, X0.cell? ⟨w.heap.size, j, none⟩ = #[.int .u16 h.id, .bool h.qr, .int .u8 h.op, .bool h.aa, .bool h.tc, .bool h.rd, .bool h.ra, .bool h.z, .bool h.ad, .bool h.cd, .int .u8 h.code][j]? := fun j => cell_of_row X0 _ j _ _ _ r0
  clear hX0 r1 z0 z1
  go_wp2_with fail
  refine HFx.mono ?_; rintro e w1 ⟨rfl, hE1⟩
  have p1 : w1.cell? ⟨w.heap.size, 0, none⟩ = some (.int .u16 h.id) := K0.out _ hE1
  clear q0 r0 HFx HF
  go_wp2_with fail
  refine (H1.out _).mono ?_; rintro e w2 ⟨A2, c2, rfl, ho2, hE2⟩
  rw [List.nil_append] at ho2
  have hF16 : ((F : Nat) : Int).toNat = F := Int.toNat_natCast F
  have hq3 := H2.out F (by omega) (two h.id.toNat) A2 c2 w1.heap.size w2 ho2.rd (by simp [two_len])
  rw [List.nil_append]
  go_wp2_with fail
  refine hq3.mono ?_; rintro e w3 ⟨A3, c3, rfl, ho3, hE3⟩
  rw [hF16] at ho3
  rw [hF16]
  have hE03 : Ext X0 w3 := (hE1.trans hE2).trans hE3
  have r3 := K1.out _ hE03
  have p30 : w3.cell? ⟨w.heap.size + 1, 0, none⟩ = some (.int .i64 (a : Int)) := cell_of_row w3 _ 0 _ _ _ r3
  have p31 : w3.cell? ⟨w.heap.size + 1, 1, none⟩ = some (.int .i64 (b : Int)) := cell_of_row w3 _ 1 _ _ _ r3
  have p32 : w3.cell? ⟨w.heap.size + 1, 2, none⟩ = some (.int .i64 (c : Int)) := cell_of_row w3 _ 2 _ _ _ r3
  have p33 : w3.cell? ⟨w.heap.size + 1, 3, none⟩ = some (.int .i64 (d : Int)) := cell_of_row w3 _ 3 _ _ _ r3
  clear r3 hF16 hq3 p1 K0 K1 H1 hfl hi
  go_wp2_with fail
  go_loopw [4, 5, 8, 10, 25] (fun s4 s5 s8 _ s25 wr => ∃ (k : Nat) (X : List UInt8) (A : Option Addr) (c0 lo : Nat), k ≤ 4 ∧ s25 = .int .i64 k ∧ s8 = .slice A X.length c0 ∧ X = two h.id.toNat ++ two F ++ cntW a b c d k ∧ Rd wr lo 1 A X.length (X.map U8) ∧ Ext w3 wr ∧ s4 = .string ⟨#[]⟩ ∧ s5 = .int .i64 0) (fun _ _ _ _ s25 _ => 4 - (intOf s25).toNat)
  case atStart => exact ⟨0, two h.id.toNat ++ two F, A3, c3, _, by omega, rfl, rfl, by simp [cntW], ho3.rd, Ext.refl _, rfl, rfl⟩
  case round =>
    obtain ⟨k, X, A, c0, lo, hk, rfl, rfl, hX, hr, hEo, rfl, rfl⟩ := hrel
    obtain ⟨wo, rfl⟩ : ∃ wo : World, wo = wr := ⟨_, rfl⟩
    have hxl : X.length ≤ 12 := by
      rw [hX]; have := cntW_len a b c d k; simp only [List.length_append, two_len]; omega
    have HX := Lib.hid hX
    clear hX p30 p31 p32 p33
    rcases Nat.lt_or_ge k 4 with hk8 | hk8
    · rcases (by omega : k = 0 ∨ k = 1 ∨ k = 2 ∨ k = 3) with rfl | rfl | rfl | rfl
      · have hc1 : ((0 : Nat) : Int) = 0 := rfl
        have hix : ∀ V : World, (Instr.index 65 (.agg #[.int .i64 (a : Int), .int .i64 (b : Int), .int .i64 (c : Int), .int .i64 (d : Int)]) (.int .i64 0)).run Tryd.prog V = .ok (.int .i64 (a : Int)) V := fun _ => by kernel_rfl
        have hq := H2.out a ha X A c0 lo wo hr hxl
        have hn1 : ¬ ((a : Int) < 0) := by omega
        have hn2 : ¬ ((65535 : Int) < (a : Int)) := by omega
        clear H2
        go_wp2_with fail
        refine hq.mono ?_; rintro e w4 ⟨A1, c1, rfl, ho4, hE4⟩
        rw [Int.toNat_natCast] at ho4
        rw [Int.toNat_natCast]
        go_wp2_with fail
        go_roundw
        case rel => exact ⟨1, X ++ two a, A1, c1, _, by omega, by go_num, by rw [List.length_append], by rw [HX.out]; simp [cntW], ho4.rd, hEo.trans hE4, rfl, rfl⟩
        case measure => simp [intOf]
      · have hc1 : ((1 : Nat) : Int) = 1 := rfl
        have hix : ∀ V : World, (Instr.index 65 (.agg #[.int .i64 (a : Int), .int .i64 (b : Int), .int .i64 (c : Int), .int .i64 (d : Int)]) (.int .i64 1)).run Tryd.prog V = .ok (.int .i64 (b : Int)) V := fun _ => by kernel_rfl
        have hq := H2.out b hbb X A c0 lo wo hr hxl
        have hn1 : ¬ ((b : Int) < 0) := by omega
        have hn2 : ¬ ((65535 : Int) < (b : Int)) := by omega
        clear H2
        go_wp2_with fail
        refine hq.mono ?_; rintro e w4 ⟨A1, c1, rfl, ho4, hE4⟩
        rw [Int.toNat_natCast] at ho4
        rw [Int.toNat_natCast]
        go_wp2_with fail
        go_roundw
        case rel => exact ⟨2, X ++ two b, A1, c1, _, by omega, by go_num, by rw [List.length_append], by rw [HX.out]; simp [cntW], ho4.rd, hEo.trans hE4, rfl, rfl⟩
        case measure => simp [intOf]
      · have hc1 : ((2 : Nat) : Int) = 2 := rfl
        have hix : ∀ V : World, (Instr.index 65 (.agg #[.int .i64 (a : Int), .int .i64 (b : Int), .int .i64 (c : Int), .int .i64 (d : Int)]) (.int .i64 2)).run Tryd.prog V = .ok (.int .i64 (c : Int)) V := fun _ => by kernel_rfl
        have hq := H2.out c hcc X A c0 lo wo hr hxl
        have hn1 : ¬ ((c : Int) < 0) := by omega
        have hn2 : ¬ ((65535 : Int) < (c : Int)) := by omega
        clear H2
        go_wp2_with fail
        refine hq.mono ?_; rintro e w4 ⟨A1, c1, rfl, ho4, hE4⟩
        rw [Int.toNat_natCast] at ho4
        rw [Int.toNat_natCast]
        go_wp2_with fail
        go_roundw
        case rel => exact ⟨3, X ++ two c, A1, c1, _, by omega, by go_num, by rw [List.length_append], by rw [HX.out]; simp [cntW], ho4.rd, hEo.trans hE4, rfl, rfl⟩
        case measure => simp [intOf]
      · have hc1 : ((3 : Nat) : Int) = 3 := rfl
        have hix : ∀ V : World, (Instr.index 65 (.agg #[.int .i64 (a : Int), .int .i64 (b : Int), .int .i64 (c : Int), .int .i64 (d : Int)]) (.int .i64 3)).run Tryd.prog V = .ok (.int .i64 (d : Int)) V := fun _ => by kernel_rfl
        have hq := H2.out d hd X A c0 lo wo hr hxl
        have hn1 : ¬ ((d : Int) < 0) := by omega
        have hn2 : ¬ ((65535 : Int) < (d : Int)) := by omega
        clear H2
        go_wp2_with fail
        refine hq.mono ?_; rintro e w4 ⟨A1, c1, rfl, ho4, hE4⟩
        rw [Int.toNat_natCast] at ho4
        rw [Int.toNat_natCast]
        go_wp2_with fail
        go_roundw
        case rel => exact ⟨4, X ++ two d, A1, c1, _, by omega, by go_num, by rw [List.length_append], by rw [HX.out]; simp [cntW], ho4.rd, hEo.trans hE4, rfl, rfl⟩
        case measure => simp [intOf]
    · have e8 : k = 4 := by omega
      subst e8
      have hcv := conv_str c0 hr
      go_wp2_with fail
      go_ret2
      exact ⟨by rw [HX.out]; rfl, ((hw0.trans hE03).trans hEo)⟩
end Go.Proofs.YtjmfpillnbnofaaDoor
namespace Go.Proofs.YtjmfpillnbnofaaDoor
set_option linter.unusedSimpArgs false
set_option linter.unusedVariables false
open Go.RowKit
set_option maxRecDepth 100000

def opCells (o : OpD) : List Value := [.int .u16 o.code, S o.data]
def Opts (w : World) (lo : Nat) (v : Value) (l : List OpD) : Prop := ∃ A c, v = .slice A l.length c ∧ l.length ≤ c ∧ c ≤ maxLen ∧ Rd w lo 2 A l.length (l.flatMap opCells)
theorem Opts.ext {w w' : World} {lo : Nat} {v : Value} {l : List OpD} (h : Opts w lo v l) (hE : Ext w w') : Opts w' lo v l := by
  obtain ⟨A, c, h1, h2, h3, h4⟩ := h
  exact ⟨A, c, h1, h2, h3, h4.ext hE⟩
theorem opts_cells {w : World} {b off : Nat} {l : List OpD} (hc : ∀ j u, (l.flatMap opCells)[j]? = some u → w.cell? ⟨b, off + j, none⟩ = some u) (k : Nat) (o : OpD) (ho : l[k]? = some o) :
    w.cell? ⟨b, off + k * 2, none⟩ = some (.int .u16 o.code) ∧ w.cell? ⟨b, off + k * 2 + 1, none⟩ = some (S o.data) := by
  have h := fun j (hj : j < 2) => flat_get opCells 2 (fun _ => rfl) l k j o ho hj
  exact ⟨hc (k * 2 + 0) _ (h 0 (by omega)), hc (k * 2 + 1) _ (h 1 (by omega))⟩
def opW (o : OpD) : List UInt8 := two o.code.toNat ++ two o.data.length ++ o.data
def opsW (l : List OpD) : List UInt8 := l.flatMap opW
theorem optW_ops (e : EdD) : optW e = opsW e.opts := rfl
theorem opW_len (o : OpD) : (opW o).length = 4 + o.data.length := by simp only [opW, List.length_append, two_len]
theorem opsW_step (l : List OpD) (k : Nat) (h : k < l.length) : opsW (l.take (k + 1)) = opsW (l.take k) ++ opW l[k] := by
  unfold opsW; rw [List.take_succ_eq_append_getElem h, List.flatMap_append]; simp
theorem opsW_le (l : List OpD) (k : Nat) : (opsW (l.take k)).length ≤ (opsW l).length := by
  conv => rhs; rw [← List.take_append_drop k l]
  unfold opsW
  rw [List.flatMap_append, List.length_append]; omega
abbrev edV (e : EdD) (v : Value) : Value := .agg #[.int .u16 e.size, .int .u8 e.ext, .int .u8 e.ver, .int .u16 e.flags, v]
theorem ttl_or (x v f : Nat) (hx : x ≤ 255) (hv : v ≤ 255) (hf : f ≤ 65535) :
    bits .or .u32 ((x : Int) * 16777216) ((v : Int) * 65536) = ((x * 16777216 + v * 65536 : Nat) : Int) ∧ bits .or .u32 ((x * 16777216 + v * 65536 : Nat) : Int) (f : Int) = ((x * 16777216 + v * 65536 + f : Nat) : Int) := by
  have h1 := u32_or_nat (x * 16777216) (v * 65536) (by omega) (by omega)
  have h2 := u32_or_nat (x * 16777216 + v * 65536) f (by omega) (by omega)
  have e1 := Nat.two_pow_add_eq_or_of_lt (i := 24) (b := v * 65536) (by omega) x
  have e2 := Nat.two_pow_add_eq_or_of_lt (i := 16) (b := f) (by omega) (x * 256 + v)
  have e3 : x * 16777216 ||| v * 65536 = x * 16777216 + v * 65536 := by rw [Nat.mul_comm]; exact e1.symm
  have e4 : x * 16777216 + v * 65536 ||| f = x * 16777216 + v * 65536 + f := by
    have : x * 16777216 + v * 65536 = 2 ^ 16 * (x * 256 + v) := by omega
    rw [this]; exact e2.symm
  rw [Int.natCast_mul, Int.natCast_mul, e3] at h1
  rw [e4] at h2
  exact ⟨h1, h2⟩
theorem results_tmp4 {fn : Func} {t u v x : Tmp} (h : fn.results = #[.tmp t, .tmp u, .tmp v, .tmp x]) (tmps : Array Value) (P : Program) (w : World) :
    (results fn tmps).run P w = .ok (.tuple #[tmps.getD t undef, tmps.getD u undef, tmps.getD v undef, tmps.getD x undef]) w := by
  simp [results, h]
set_option maxHeartbeats 4000000 in
theorem edns_write (e : EdD) (v : Value) (w : World) (hv : Opts w 0 v e.opts) (h1 : 0 ≤ e.ext ∧ e.ext ≤ 255) (h2 : 0 ≤ e.ver ∧ e.ver ≤ 255) (h3 : 0 ≤ e.flags ∧ e.flags ≤ 65535) (h4 : ∀ o ∈ e.opts, 0 ≤ o.code ∧ o.code ≤ 65535) :
    Calls Tryd.prog 40 #[edV e v] w fun x w' =>
      (if 65535 < (optW e).length then x = .returned (.tuple #[.int .u16 0, .int .u32 0, S [], .int .i64 5]) else x = .returned (.tuple #[.int .u16 e.size, .int .u32 (optTtl e : Nat), S (optW e), .int .i64 0])) ∧ Ext w w' := by
  obtain ⟨sz, ex, ve, fl, l⟩ := e
  dsimp only at *
  obtain ⟨xn, rfl⟩ := Int.eq_ofNat_of_zero_le h1.1
  obtain ⟨vn, rfl⟩ := Int.eq_ofNat_of_zero_le h2.1
  obtain ⟨fn, rfl⟩ := Int.eq_ofNat_of_zero_le h3.1
  obtain ⟨hor1, hor2⟩ := ttl_or xn vn fn (by omega) (by omega) (by omega)
  have Hor3 := Lib.hid (show bits BinOp.or IntKind.u32 ((xn : Int) * 16777216 + (vn : Int) * 65536) (fn : Int) = ((xn * 16777216 + vn * 65536 + fn : Nat) : Int) by rw [← hor2]; rfl)
  have hot : optTtl ⟨sz, xn, vn, fn, l⟩ = xn * 16777216 + vn * 65536 + fn := by unfold optTtl; simp only [Int.toNat_natCast]
  rw [hot, optW_ops]
  dsimp only
  clear hot
  obtain ⟨A, c, rfl, hlc, hcm, hrd⟩ := hv
  unfold maxLen at hcm
  have hd8 := flat_get opCells 2 (fun _ => rfl) l
  obtain ⟨X0, hX0⟩ : ∃ X0, X0 = w.alloc (.cells #[.int .u16 sz, .int .u8 (xn : Int), .int .u8 (vn : Int), .int .u16 (fn : Int), .slice A l.length c] 53) := ⟨_, rfl⟩
  have hw0 : Ext w X0 := by rw [hX0]; exact (Ext.refl _).alloc _
  have r0 : X0.heap[w.heap.size]? = some (.cells #[.int .u16 sz, .int .u8 (xn : Int), .int .u8 (vn : Int), .int .u16 (fn : Int), .slice A l.length c] 53) := by rw [hX0]; exact heap_alloc_new _ _
  have z0 := (Array.getElem?_eq_some_iff.1 r0).1
  have K0 := Lib.hid (fun V (hV : Ext X0 V) => (hV.block _ z0).trans r0)
  have k4 : X0.cell? ⟨w.heap.size, 4, none⟩ = some (.slice A l.length c) := cell_of_row X0 _ 4 _ _ _ r0
  go_enter Tryd.func40, Tryd.ntmps40
  go_upto_region 1 with fail
  rw [← hX0]
  clear hX0 r0
  go_wp2_with fail
  go_loopw [2, 3, 4, 5, 6, 8, 16] (fun s2 s3 s4 s5 s6 _ s16 wr => ∃ k : Nat, k ≤ l.length ∧ s16 = .int .i64 k ∧ s6 = .int .i64 (opsW (l.take k)).length ∧ (opsW (l.take k)).length ≤ 65535 ∧ Ext X0 wr ∧ s2 = .int .u16 0 ∧ s3 = .int .u32 0 ∧ s4 = .string ⟨#[]⟩ ∧ s5 = .int .i64 0) (fun _ _ _ _ _ _ s16 _ => l.length - (intOf s16).toNat)
  case atStart => exact ⟨0, Nat.zero_le _, rfl, by simp [opsW], by simp [opsW], Ext.refl _, rfl, rfl, rfl, rfl⟩
  case round =>
    obtain ⟨k, hk, rfl, rfl, htl, hE, rfl, rfl, rfl, rfl⟩ := hrel
    obtain ⟨wo, rfl⟩ : ∃ wo : World, wo = wr := ⟨_, rfl⟩
    by_cases hlt : k < l.length
    · obtain ⟨b, off, rfl, _, hbz, hc⟩ := (hrd.ext (hw0.trans hE)).2 (by omega)
      obtain ⟨c0, c1⟩ := opts_cells hc k l[k] (List.getElem?_eq_getElem hlt)
      have Hst := Lib.hid (show (opsW (l.take (k + 1))).length = (opsW (l.take k)).length + (4 + l[k].data.length) by rw [opsW_step l k hlt, List.length_append, opW_len])
      have hle := opsW_le l (k + 1)
      have hwo := h4 l[k] (List.getElem_mem hlt)
      generalize l[k] = o at *
      generalize hT : (opsW (l.take k)).length = T at *
      clear hT hc
      obtain ⟨oc, od⟩ := o
      dsimp only at *
      have hki : (k : Int) < (l.length : Int) := by omega
      have hk0 : (0 : Int) ≤ (k : Int) := by omega
      by_cases hbig : 65535 < od.length
      · have hb1 : (65535 : Int) < (od.length : Int) := by omega
        have hgt : 65535 < (opsW l).length := by have := Hst.out; omega
        clear k4
        go_wp2_with fail
        refine bodyPost_ret (results_tmp4 rfl _ _ _) rfl ⟨?_, hw0.trans (hE.alloc _)⟩
        first
          | (rw [if_pos hgt]; rfl)
          | rfl
      · have hb1 : ¬ ((65535 : Int) < (od.length : Int)) := by omega
        by_cases hbig2 : 65535 < T + (4 + od.length)
        · have hb2 : (65535 : Int) < (T : Int) + (4 + (od.length : Int)) := by omega
          have hgt : 65535 < (opsW l).length := by have := Hst.out; omega
          clear k4
          go_wp2_with fail
          refine bodyPost_ret (results_tmp4 rfl _ _ _) rfl ⟨?_, hw0.trans (hE.alloc _)⟩
          first
            | (rw [if_pos hgt]; rfl)
            | rfl
        · have hb2 : ¬ ((65535 : Int) < (T : Int) + (4 + (od.length : Int))) := by omega
          clear k4
          go_wp2_with fail
          go_roundw
          case rel => exact ⟨k + 1, by omega, by go_num, by rw [Hst.out]; go_num, by rw [Hst.out]; omega, hE.alloc _, rfl, rfl, rfl, rfl⟩
          case measure => simp [intOf]; omega
    · have ek : k = l.length := by omega
      subst ek
      rw [List.take_length] at htl
      rw [List.take_length]
      have hle0 : ¬ 65535 < (opsW l).length := by omega
      have k4' : wo.cell? ⟨w.heap.size, 4, none⟩ = some (.slice A l.length c) := cell_of_row wo _ 4 _ _ _ (K0.out _ hE)
      obtain ⟨i0, hi0, hz0, hz1, hz2⟩ := info_parts info_u8
      obtain ⟨N, hN⟩ : ∃ N, N = (opsW l).length := ⟨_, rfl⟩
      rw [← hN] at htl
      rw [← hN]
      have HN := Lib.hid hN
      have Hle := Lib.hid hle0
      clear hN hle0 k4
      have hkk : ¬ ((l.length : Int) < (l.length : Int)) := by omega
      go_wp2_with (first
        | (refine wpList_make_own _ rfl _ _ _ rfl wo.heap.size 5 i0 _ 1 Tryd.underlying63 hi0 hz0 hz1 _ _ _ N rfl rfl (by go_num) (by rw [hz2]; omega) (by unfold maxLen; omega) (Nat.le_refl _) ?_
           intro w1 ho1 hg1
           have hE1 := ext_grown hg1
           have Ho1 := Lib.hid (show Own w1 wo.heap.size 5 1 (some ⟨wo.heap.size, 0, none⟩) 0 N [] from ho1)
           have k41 : w1.cell? ⟨w.heap.size, 4, none⟩ = some (.slice A l.length c) := cell_of_row w1 _ 4 _ _ _ (K0.out _ (hE.trans hE1))
           clear k4')
        | fail)
      clear ho1 hg1
      go_loopw [9, 11, 12, 38] (fun s9 _ _ s38 wr => ∃ (k c2 : Nat) (A2 : Option Addr), k ≤ l.length ∧ s38 = .int .i64 k ∧ s9 = .slice A2 (opsW (l.take k)).length c2 ∧ Own wr wo.heap.size 5 1 A2 (opsW (l.take k)).length c2 ((opsW (l.take k)).map U8) ∧ Ext wo wr) (fun _ _ _ s38 _ => l.length - (intOf s38).toNat)
      case atStart => exact ⟨0, N, some ⟨wo.heap.size, 0, none⟩, Nat.zero_le _, rfl, by simp [opsW], by simpa [opsW] using Ho1.out, hE1⟩
      case round =>
        obtain ⟨k, c2, A2, hk2, rfl, rfl, ho2, hE2⟩ := hrel
        obtain ⟨w2, rfl⟩ : ∃ w2 : World, w2 = wr := ⟨_, rfl⟩
        have hEX : Ext X0 w2 := hE.trans hE2
        by_cases hlt2 : k < l.length
        · obtain ⟨b, off, rfl, _, hbz, hc⟩ := (hrd.ext (hw0.trans hEX)).2 (by omega)
          obtain ⟨c0, c1⟩ := opts_cells hc k l[k] (List.getElem?_eq_getElem hlt2)
          have hst := opsW_step l k hlt2
          have hle := opsW_le l (k + 1)
          have hwo := h4 l[k] (List.getElem_mem hlt2)
          generalize l[k] = o at *
          have hTl := congrArg List.length hst
          rw [List.length_append, opW_len] at hTl
          have hN' := HN.out
          obtain ⟨oc, od⟩ := o
          dsimp only at *
          have hod : od.length ≤ 65535 := by omega
          have hT6 : (opsW (l.take k)).length ≤ 65535 := by omega
          have Hst := Lib.hid hst
          generalize opsW (l.take k) = T at *
          have hodi : (0 : Int) ≤ (od.length : Int) ∧ (od.length : Int) ≤ 65535 := by omega
          have HP1 := Lib.hid (fun V => cur_put2 0 none 0 [] oc V (Rd.nil _ _ _ _) (by simp) hwo)
          have HP2 := Lib.hid (fun (V : World) (lo : Nat) (A : Option Addr) (c : Nat) (hr : Rd V lo 1 A (two oc.toNat).length ((two oc.toNat).map U8)) => cur_put2 lo A c (two oc.toNat) (od.length : Int) V hr (by simp [two_len]) hodi)
          clear hst hc hle hTl hN' htl
          have hlh : (two oc.toNat ++ two ((od.length : Int)).toNat).length = 4 := by rw [List.length_append, two_len, two_len]
          have Hlh := Lib.hid hlh
          clear hlh
          go_wp2_with (first
            | (go_at_call 38
               refine (HP2.out w3 _ A3 c3 ho3.rd).mono ?_; rintro e w4 ⟨A4, c4, rfl, ho4, hE4⟩
               have hE24 : Ext w2 w4 := hE23.trans hE4
               have hbx4 : w4.cell? ⟨w2.heap.size, 1, none⟩ = some (S od) := (hE4.cell (p := ⟨w2.heap.size, 1, none⟩) hzb).trans hbx)
            | (go_at_call 38
               refine (HP1.out _).mono ?_; rintro e w3 ⟨A3, c3, rfl, ho3, hE3⟩
               rw [List.nil_append] at ho3
               rw [List.nil_append]
               have hE23 : Ext w2 w3 := ((Ext.refl w2).alloc _).trans hE3
               have hbx : w3.cell? ⟨w2.heap.size, 1, none⟩ = some (S od) := (ext_new hE3).1 1
               have hzb : w2.heap.size < w3.heap.size := (ext_new hE3).2.2)
            | (at_builtin
               refine wpList_app _ rfl (.tmp 45) (.tmp 51) _ rfl wo.heap.size 5 i0 _ 1 1 Tryd.underlying63 hi0 hz0 hz1 hz2 rfl (by omega) A2 T.length c2 (T.map U8) rfl (ho2.ext hE24) w3.heap.size A4 ((two oc.toNat).length + (two od.length).length) c4 ((two oc.toNat ++ two od.length).map U8) rfl (by have := ho4.rd; rw [Int.toNat_natCast, List.length_append] at this; exact this) (u8_one _) (by simp only [two_len]; omega) (by omega) (hE2.trans hE24).size ?_
               intro A5 c5 w5 ho5 hg5 hb5 _
               have hbx5 : w5.cell? ⟨w2.heap.size, 1, none⟩ = some (S od) := hg5.cell hbx4 (fun e => Nat.lt_irrefl _ (ho2.blk _ e.symm).2))
            | (at_builtin
               refine wpList_app_str _ rfl (.tmp 53) (.tmp 55) _ _ rfl wo.heap.size 5 i0 Tryd.underlying63 Tryd.underlying9 hi0 hz0 hz1 hz2 A5 (T.length + ((two oc.toNat).length + (two od.length).length)) c5 (T.map U8 ++ (two oc.toNat ++ two od.length).map U8) rfl ho5 od rfl (by simp only [two_len]; omega) (Nat.le_trans (hE2.trans hE24).size hb5.size) ?_
               intro A6 c6 w6 ho6 hg6 hb6)
            | fail)
          go_roundw
          case rel =>
            have hlen : (T ++ opW ⟨oc, od⟩).length = T.length + ((two oc.toNat).length + (two od.length).length) + od.length := by simp only [opW, List.length_append]; omega
            refine ⟨k + 1, c6, A6, by omega, by go_num, by rw [Hst.out, hlen], ?_, ((hE2.trans hE24).then hb5 (Nat.le_refl _)).then hb6 (Nat.le_refl _)⟩
            rw [Hst.out, hlen]
            have e : (T ++ opW ⟨oc, od⟩).map U8 = T.map U8 ++ (two oc.toNat ++ two od.length).map U8 ++ od.map fun b => Value.int .u8 b.toNat := by
              simp only [opW, List.map_append, List.append_assoc]
            rw [e]
            exact ho6
          case measure => simp [intOf]; omega
        · have ek : k = l.length := by omega
          subst ek
          rw [List.take_length] at ho2
          rw [List.take_length]
          have hcv := conv_str c2 (ho2.rd.ext (Ext.refl w2).drew)
          have r2 := K0.out _ hEX
          have q0 : w2.cell? ⟨w.heap.size, 0, none⟩ = some (.int .u16 sz) := cell_of_row w2 _ 0 _ _ _ r2
          have q1 : w2.cell? ⟨w.heap.size, 1, none⟩ = some (.int .u8 (xn : Int)) := cell_of_row w2 _ 1 _ _ _ r2
          have q2 : w2.cell? ⟨w.heap.size, 2, none⟩ = some (.int .u8 (vn : Int)) := cell_of_row w2 _ 2 _ _ _ r2
          have q3 : w2.cell? ⟨w.heap.size, 3, none⟩ = some (.int .u16 (fn : Int)) := cell_of_row w2 _ 3 _ _ _ r2
          have hNl : ¬ 65535 < (opsW l).length := Hle.out
          clear r2
          go_wp2_with fail
          go_region
          go_wp2_with fail
          refine bodyPost_ret (results_tmp4 rfl _ _ _) rfl ⟨?_, hw0.trans (hEX.trans (Ext.refl w2).drew)⟩
          first
            | rw [if_neg Hle.out]
            | skip
          show Ending.returned (Value.tuple #[.int .u16 sz, .int .u32 (bits BinOp.or IntKind.u32 ((xn : Int) * 16777216 + (vn : Int) * 65536) (fn : Int)), S (opsW l), .int .i64 0]) = _
          rw [Hor3.out]
          rfl
end Go.Proofs.YtjmfpillnbnofaaDoor
namespace Go.Proofs.YtjmfpillnbnofaaDoor
set_option linter.unusedSimpArgs false
set_option linter.unusedVariables false
open Go.RowKit
set_option maxRecDepth 100000

def quCells (q : QD) : List Value := [S q.name, .int .u16 q.typ, .int .u16 q.cls]
def Qus (w : World) (lo : Nat) (v : Value) (l : List QD) : Prop := ∃ A c, v = .slice A l.length c ∧ l.length ≤ c ∧ c ≤ maxLen ∧ Rd w lo 3 A l.length (l.flatMap quCells)
theorem Qus.ext {w w' : World} {lo : Nat} {v : Value} {l : List QD} (h : Qus w lo v l) (hE : Ext w w') : Qus w' lo v l := by
  obtain ⟨A, c, h1, h2, h3, h4⟩ := h
  exact ⟨A, c, h1, h2, h3, h4.ext hE⟩
theorem qus_cells {w : World} {b off : Nat} {l : List QD} (hc : ∀ j u, (l.flatMap quCells)[j]? = some u → w.cell? ⟨b, off + j, none⟩ = some u) (k : Nat) (q : QD) (hq : l[k]? = some q) :
    w.cell? ⟨b, off + k * 3, none⟩ = some (S q.name) ∧ w.cell? ⟨b, off + k * 3 + 1, none⟩ = some (.int .u16 q.typ) ∧ w.cell? ⟨b, off + k * 3 + 2, none⟩ = some (.int .u16 q.cls) := by
  have h := fun j (hj : j < 3) => flat_get quCells 3 (fun _ => rfl) l k j q hq hj
  exact ⟨hc (k * 3 + 0) _ (h 0 (by omega)), hc (k * 3 + 1) _ (h 1 (by omega)), hc (k * 3 + 2) _ (h 2 (by omega))⟩
/-- A message as a value; its slices. -/
abbrev msg7V (h : HdD) (q a u x : Value) (he : Bool) (e : EdD) (o : Value) : Value := .agg #[.int .u16 h.id, .bool h.qr, .int .u8 h.op, .bool h.aa, .bool h.tc, .bool h.rd, .bool h.ra, .bool h.z, .bool h.ad, .bool h.cd, .int .u8 h.code, q, a, u, x, .bool he, .int .u16 e.size, .int .u8 e.ext, .int .u8 e.ver, .int .u16 e.flags, o]
def Rec7Ok (r : RecD) : Prop := r.name.length ≤ 1048576 ∧ r.data.length ≤ 1048576
set_option maxHeartbeats 4000000 in
theorem wire_valid (lo : Nat) (v : Value) (l : List RecD) (w : World) (hg : Laid w) (h : Recs w lo v l) (hok : ∀ r ∈ l, Rec7Ok r) :
    Calls Tryd.prog 23 #[v] w fun e w' => e = .returned (.bool (l.all recOk7)) ∧ Ext w w' := by
  obtain ⟨A, c, rfl, h1, h2, hrd⟩ := h
  unfold maxLen at h2
  obtain ⟨R, hR⟩ : ∃ R, R = l.all recOk7 := ⟨_, rfl⟩
  rw [← hR]
  have HR := Lib.hid hR
  clear hR
  go_enter Tryd.func23, Tryd.ntmps23
  go_wp2_with fail
  go_loopw [2, 4, 7] (fun s2 _ s7 wr => ∃ k : Nat, k ≤ l.length ∧ s2 = .bool false ∧ s7 = .int .i64 k ∧ (l.drop k).all recOk7 = R ∧ Ext w wr) (fun _ _ s7 _ => l.length - (intOf s7).toNat)
  case atStart => exact ⟨0, Nat.zero_le _, rfl, rfl, by rw [HR.out, List.drop_zero], Ext.refl _⟩
  case round =>
    obtain ⟨k, hk, rfl, rfl, hrest, hE⟩ := hrel
    obtain ⟨wo, rfl⟩ : ∃ wo : World, wo = wr := ⟨_, rfl⟩
    by_cases hlt : k < l.length
    · obtain ⟨b, off, rfl, _, hbz, hc⟩ := (hrd.ext hE).2 (by omega)
      obtain ⟨x0, x1, x2, x3, x4⟩ := recs_cells hc k l[k] (List.getElem?_eq_getElem hlt)
      have hx := hok l[k] (List.getElem_mem hlt)
      rw [List.drop_eq_getElem_cons hlt, List.all_cons] at hrest
      have hr7 : recOk7 l[k] = (decide (l[k].typ ≠ 41) && (may l[k].name && rmay l[k].typ l[k].data)) := by unfold recOk7; rw [Bool.and_assoc]
      rw [hr7] at hrest
      generalize l[k] = r at *
      obtain ⟨nm, ty, cl, tt, da⟩ := r
      obtain ⟨hn1, hd1⟩ := hx
      dsimp only at *
      have HN := Lib.hid (fun V => name_may nm V (by unfold maxLen; omega))
      have HD := Lib.hid (fun V (hV : Ext wo V) => rdata_may ty da V (hg.ext (hE.trans hV)) hd1)
      have Hrest := Lib.hid hrest
      generalize may nm = bn at *
      generalize rmay ty da = bd at *
      clear hc hr7 hrest
      have hki : (k : Int) < (l.length : Int) := by omega
      have hk0 : (0 : Int) ≤ (k : Int) := by omega
      by_cases h41 : ty = 41
      · subst h41
        have hF : R = false := by rw [← Hrest.out]; rfl
        go_wp2_with fail
        go_ret
        exact ⟨by first | rfl | (rw [hF]; rfl), hE.trans (by (repeat (first | with_reducible exact Ext.refl _ | with_reducible assumption | with_reducible refine Ext.alloc ?_ _ | with_reducible refine Ext.drewN ?_ _ | with_reducible refine Ext.drew ?_ | (with_reducible refine Ext.setCell ?_ ?hp _; case hp => (simp <;> omega)))))⟩
      · have f41 : (ty == 41) = false := by rw [beq_eq_false_iff_ne]; exact h41
        have d41 : decide (ty ≠ 41) = true := by rw [decide_eq_true_eq]; exact h41
        rcases bn with _ | _
        · have hF : R = false := by rw [← Hrest.out, d41]; rfl
          go_wp2_with fail
          refine (HN.out _).mono ?_; rintro e w1 ⟨rfl, rfl⟩
          go_wp2_with fail
          go_ret
          exact ⟨by first | rfl | (rw [hF]; rfl), hE.trans (by (repeat (first | with_reducible exact Ext.refl _ | with_reducible assumption | with_reducible refine Ext.alloc ?_ _ | with_reducible refine Ext.drewN ?_ _ | with_reducible refine Ext.drew ?_ | (with_reducible refine Ext.setCell ?_ ?hp _; case hp => (simp <;> omega)))))⟩
        · go_wp2_with fail
          refine (HN.out _).mono ?_; rintro e w1 ⟨rfl, rfl⟩
          go_wp2_with fail
          refine (HD.out _ ((Ext.refl wo).alloc _)).mono ?_; rintro e w2 ⟨rfl, hE2⟩
          have hE02 : Ext wo w2 := ((Ext.refl wo).alloc _).trans hE2
          rcases bd with _ | _
          · have hF : R = false := by rw [← Hrest.out, d41]; rfl
            go_wp2_with fail
            go_ret
            exact ⟨by first | rfl | (rw [hF]; rfl), hE.trans hE02⟩
          · have HF := Lib.hid (show (l.drop (k + 1)).all recOk7 = R by rw [← Hrest.out, d41]; simp)
            go_wp2_with fail
            go_roundw
            case rel => exact ⟨k + 1, by omega, rfl, by go_num, HF.out, hE.trans hE02⟩
            case measure => simp [intOf]; omega
    · have e1 : l.drop k = [] := List.drop_of_length_le (by omega)
      rw [e1] at hrest
      have hF : R = true := by rw [← hrest]; rfl
      have hge : ¬ ((k : Int) < (l.length : Int)) := by omega
      clear hrest e1
      go_wp2_with fail
      go_ret
      exact ⟨by first | rfl | (rw [hF]; rfl), hE⟩
set_option maxHeartbeats 4000000 in
theorem wire_counts (h : HdD) (qA aA uA xA : Option Addr) (qn an un xn qc ac uc xc : Nat) (he : Bool) (e : EdD) (o : Value) (w : World) (hx : xn ≤ 1152921504606846976) :
    Calls Tryd.prog 21 #[msg7V h (.slice qA qn qc) (.slice aA an ac) (.slice uA un uc) (.slice xA xn xc) he e o] w fun r w' =>
      r = .returned (.agg #[.int .i64 (qn : Int), .int .i64 (an : Int), .int .i64 (un : Int), .int .i64 ((xn + if he then 1 else 0 : Nat) : Int)]) ∧ Ext w w' := by
  rcases he with _ | _
  all_goals
    go_enter Tryd.func21, Tryd.ntmps21
    go_wp2_with fail
    refine bodyPost_ret (results_cell_row rfl _ _ (w.heap.size + 1) _ _ _ _ rfl (heap_alloc2_new w _ _) Tryd.underlying65 rfl (by kernel_rfl)) rfl ⟨rfl, ((Ext.refl w).alloc _).alloc _⟩
theorem opt_equal0 (lo : Nat) (v : Value) (l : List OpD) (w : World) (hv : Opts w lo v l) :
    Calls Tryd.prog 31 #[v, .slice none 0 0] w fun x w' => x = .returned (.bool l.isEmpty) ∧ w = w' := by
  obtain ⟨A, c, rfl, h1, h2, _⟩ := hv
  rcases l with _ | ⟨o, l⟩
  · go_enter Tryd.func31, Tryd.ntmps31
    go_wp2_with fail
    go_loopw [4, 5, 13] (fun s4 _ s13 wr => s4 = .bool false ∧ s13 = .int .i64 0 ∧ w = wr) (fun _ _ _ _ => 0)
    case atStart => exact ⟨rfl, rfl, rfl⟩
    case round =>
      obtain ⟨rfl, rfl, rfl⟩ := hrel
      go_wp2_with fail
      go_ret
      exact ⟨rfl, rfl⟩
  · have hn : (((o :: l).length : Int) == 0) = false := len_ne (by simp)
    obtain ⟨N, hN⟩ : ∃ N, N = (o :: l).length := ⟨_, rfl⟩
    rw [← hN] at hn h1
    rw [← hN]
    clear hN
    go_enter Tryd.func31, Tryd.ntmps31
    go_wp2_with fail
    go_ret
    exact ⟨rfl, rfl⟩
theorem edns_same0 (e : EdD) (v : Value) (w : World) (hv : Opts w 0 v e.opts) :
    Calls Tryd.prog 20 #[edV e v, .agg #[.int .u16 0, .int .u8 0, .int .u8 0, .int .u16 0, .slice none 0 0]] w fun x w' => x = .returned (.bool (edZero e)) ∧ Ext w w' := by
  obtain ⟨sz, ex, ve, fl, l⟩ := e
  dsimp only at hv
  unfold edZero
  dsimp only
  have HQ := Lib.hid (fun V (hV : Ext w V) => opt_equal0 0 v l V (hv.ext hV))
  obtain ⟨A, c, rfl, h1, h2, _⟩ := hv
  have hb : (decide (sz = 0 ∧ ex = 0 ∧ ve = 0 ∧ fl = 0) && l.isEmpty) = (decide (sz = 0) && (decide (ex = 0) && (decide (ve = 0) && (decide (fl = 0) && l.isEmpty)))) := by
    by_cases a : sz = 0 <;> by_cases b : ex = 0 <;> by_cases c : ve = 0 <;> by_cases d : fl = 0 <;> simp [a, b, c, d]
  rw [hb]
  clear hb h1 h2
  by_cases hs : sz = 0
  rotate_left
  · have f : (sz == 0) = false := beq_eq_false_iff_ne.2 hs
    rw [decide_eq_false hs]
    go_enter Tryd.func20, Tryd.ntmps20
    go_wp2_with fail
    go_ret
    exact ⟨rfl, by (repeat (first | with_reducible exact Ext.refl _ | with_reducible assumption | with_reducible refine Ext.alloc ?_ _ | with_reducible refine Ext.drewN ?_ _ | with_reducible refine Ext.drew ?_ | (with_reducible refine Ext.setCell ?_ ?hp _; case hp => (simp <;> omega))))⟩
  subst hs
  by_cases hs : ex = 0
  rotate_left
  · have f : (ex == 0) = false := beq_eq_false_iff_ne.2 hs
    rw [decide_eq_false hs, decide_eq_true rfl]
    go_enter Tryd.func20, Tryd.ntmps20
    go_wp2_with fail
    go_ret
    exact ⟨rfl, by (repeat (first | with_reducible exact Ext.refl _ | with_reducible assumption | with_reducible refine Ext.alloc ?_ _ | with_reducible refine Ext.drewN ?_ _ | with_reducible refine Ext.drew ?_ | (with_reducible refine Ext.setCell ?_ ?hp _; case hp => (simp <;> omega))))⟩
  subst hs
  by_cases hs : ve = 0
  rotate_left
  · have f : (ve == 0) = false := beq_eq_false_iff_ne.2 hs
    rw [decide_eq_false hs, decide_eq_true rfl]
    go_enter Tryd.func20, Tryd.ntmps20
    go_wp2_with fail
    go_ret
    exact ⟨rfl, by (repeat (first | with_reducible exact Ext.refl _ | with_reducible assumption | with_reducible refine Ext.alloc ?_ _ | with_reducible refine Ext.drewN ?_ _ | with_reducible refine Ext.drew ?_ | (with_reducible refine Ext.setCell ?_ ?hp _; case hp => (simp <;> omega))))⟩
  subst hs
  by_cases hs : fl = 0
  rotate_left
  · have f : (fl == 0) = false := beq_eq_false_iff_ne.2 hs
    rw [decide_eq_false hs, decide_eq_true rfl]
    go_enter Tryd.func20, Tryd.ntmps20
    go_wp2_with fail
    go_ret
    exact ⟨rfl, by (repeat (first | with_reducible exact Ext.refl _ | with_reducible assumption | with_reducible refine Ext.alloc ?_ _ | with_reducible refine Ext.drewN ?_ _ | with_reducible refine Ext.drew ?_ | (with_reducible refine Ext.setCell ?_ ?hp _; case hp => (simp <;> omega))))⟩
  subst hs
  go_enter Tryd.func20, Tryd.ntmps20
  go_wp2_with fail
  refine (HQ.out _ (by (repeat (first | with_reducible exact Ext.refl _ | with_reducible assumption | with_reducible refine Ext.alloc ?_ _ | with_reducible refine Ext.drewN ?_ _ | with_reducible refine Ext.drew ?_ | (with_reducible refine Ext.setCell ?_ ?hp _; case hp => (simp <;> omega)))))).mono ?_; rintro e w1 ⟨rfl, rfl⟩
  go_wp2_with fail
  go_ret
  exact ⟨by simp, by (repeat (first | with_reducible exact Ext.refl _ | with_reducible assumption | with_reducible refine Ext.alloc ?_ _ | with_reducible refine Ext.drewN ?_ _ | with_reducible refine Ext.drew ?_ | (with_reducible refine Ext.setCell ?_ ?hp _; case hp => (simp <;> omega))))⟩
end Go.Proofs.YtjmfpillnbnofaaDoor
namespace Go.Proofs.YtjmfpillnbnofaaDoor
set_option linter.unusedSimpArgs false
set_option linter.unusedVariables false
open Go.RowKit
set_option maxRecDepth 100000

section
variable {P : Program} {ops : Array Oper} {Q : Exit → Act → World → Prop}
/-- A struct within a block, loaded at once. -/
theorem wpList_load_part {rest : List Oper} {o : Oper} {a : Act} {w : World} (hwn : Region.wanted o (yielded ops a.tmps) = true) (ty : TypeId) (x : Operand) (ho : o.op = .load ty x)
    (b off : Nat) (hx : a.eval x = .pointer (some ⟨b, off, none⟩)) (l : List Value) (hl : ∀ j v, l[j]? = some v → w.cell? ⟨b, off + j, none⟩ = some v) (d : TypeDesc)
    (hu : P.underlying ty = some d) (hd : (match d with | .struct _ | .array _ _ => true | _ => false) = true) (hi : (P.info? ty).map (·.size) = some l.length)
    (h : wpList P ops Q rest (a.put o.dst (.agg l.toArray)) w) : wpList P ops Q (o :: rest) a w := by
  have hload : (loadVar ty ⟨b, off, none⟩).run P w = .ok (.agg l.toArray) w := by
    have hlc : (loadCells ⟨b, off, none⟩ l.length).run P w = .ok l.toArray w :=
      run_loadCells_list (P := P) w ⟨b, off, none⟩ l (fun j v hv => by rw [add_none]; exact hl j v hv)
    cases hq : P.info? ty with
    | none => simp [hq] at hi
    | some i =>
      have hs : i.size = l.length := by simpa [hq] using hi
      have hagg : (isAgg ty).run P w = .ok true w := by
        unfold isAgg
        rw [Sem.run_bind, run_underlying hu w]
        cases d <;> simp_all
      simp [loadVar, Sem.run_bind, hagg, sizeOf, typeInfo, hq, hs, hlc]
  refine wpList_step fun K hK => ?_
  rw [if_pos hwn]
  unfold Oper.wp execOp
  simp only [ho, hx, Instr.loadAt, Instr.sureAddr, Sem.run_bind, Sem.run_pure, Result.andThen_ok, hload]
  exact hK _ _ h
end
theorem row_part {w : World} {b : Nat} {cs : Array Value} {t : TypeId} {fr : Nat × Nat} (h : w.heap[b]? = some (.cells cs t fr)) (off n : Nat) : ∀ j v, ((cs.toList.drop off).take n)[j]? = some v → w.cell? ⟨b, off + j, none⟩ = some v := fun j v hj => by
  rw [List.getElem?_take] at hj
  split at hj
  · rw [List.getElem?_drop] at hj
    rw [cell_of_row w b _ cs t fr h]
    simpa using hj
  · cases hj
structure Msg7 (w : World) (m : MsgD) (q a u x o : Value) : Prop where
  qs : Qus w 0 q m.qs
  ans : Recs w 0 a m.ans
  auth : Recs w 0 u m.auth
  extra : Recs w 0 x m.extra
  opts : Opts w 0 o m.ed.opts
  qok : ∀ q ∈ m.qs, q.name.length ≤ 1048576
  aok : ∀ r ∈ m.ans, Rec7Ok r
  uok : ∀ r ∈ m.auth, Rec7Ok r
  xok : ∀ r ∈ m.extra, Rec7Ok r
  xl : m.extra.length ≤ 1152921504606846976
theorem Msg7.ext {w w' : World} {m : MsgD} {q a u x o : Value} (h : Msg7 w m q a u x o) (hE : Ext w w') : Msg7 w' m q a u x o :=
  ⟨h.qs.ext hE, h.ans.ext hE, h.auth.ext hE, h.extra.ext hE, h.opts.ext hE, h.qok, h.aok, h.uok, h.xok, h.xl⟩
def cntTo (a b c d : Nat) : Nat → Prop
  | 0 => True
  | 1 => a ≤ 65535
  | 2 => a ≤ 65535 ∧ b ≤ 65535
  | 3 => a ≤ 65535 ∧ b ≤ 65535 ∧ c ≤ 65535
  | _ => a ≤ 65535 ∧ b ≤ 65535 ∧ c ≤ 65535 ∧ d ≤ 65535
set_option maxHeartbeats 4000000 in
theorem wire_may (m : MsgD) (q a u x o : Value) (w : World) (hg : Laid w) (hb : BitsAt w) (ho : 0 ≤ m.hd.op) (hc : 0 ≤ m.hd.code) (h : Msg7 w m q a u x o) :
    Calls Tryd.prog 13 #[msg7V m.hd q a u x m.he m.ed o] w fun e w' => e = .returned (.bool (mayM m)) ∧ Ext w w' := by
  obtain ⟨⟨qA, qc, rfl, hq1, hq2, hqr⟩, ⟨aA, ac, rfl, ha1, ha2, har⟩, ⟨uA, uc, rfl, hu1, hu2, hur⟩, ⟨xA, xc, rfl, hx1, hx2, hxr⟩, hop, hqo, hao, huo, hxo, hxl⟩ := h
  obtain ⟨hd, qs, ans, auth, extra, he, ed⟩ := m
  dsimp only at *
  obtain ⟨X0, hX0⟩ : ∃ X0, X0 = w.alloc (.cells #[.int .u16 hd.id, .bool hd.qr, .int .u8 hd.op, .bool hd.aa, .bool hd.tc, .bool hd.rd, .bool hd.ra, .bool hd.z, .bool hd.ad, .bool hd.cd, .int .u8 hd.code, .slice qA qs.length qc, .slice aA ans.length ac, .slice uA auth.length uc, .slice xA extra.length xc, .bool he, .int .u16 ed.size, .int .u8 ed.ext, .int .u8 ed.ver, .int .u16 ed.flags, o] 55) := ⟨_, rfl⟩
  have hw0 : Ext w X0 := by rw [hX0]; exact (Ext.refl _).alloc _
  have r0 : X0.heap[w.heap.size]? = some (.cells #[.int .u16 hd.id, .bool hd.qr, .int .u8 hd.op, .bool hd.aa, .bool hd.tc, .bool hd.rd, .bool hd.ra, .bool hd.z, .bool hd.ad, .bool hd.cd, .int .u8 hd.code, .slice qA qs.length qc, .slice aA ans.length ac, .slice uA auth.length uc, .slice xA extra.length xc, .bool he, .int .u16 ed.size, .int .u8 ed.ext, .int .u8 ed.ver, .int .u16 ed.flags, o] 55) := by rw [hX0]; exact heap_alloc_new _ _
  have z0 := (Array.getElem?_eq_some_iff.1 r0).1
  have K0 := Lib.hid (fun V (hV : Ext X0 V) => (hV.block _ z0).trans r0)
  have HF := Lib.hid (fun V (hV : Ext w V) => head_flags hd V (hb.ext hV) ho hc)
  obtain ⟨N4, hN4⟩ : ∃ N4, N4 = extra.length + if he then 1 else 0 := ⟨_, rfl⟩
  have hN4l : N4 ≤ 1152921504606846977 := by rw [hN4]; split <;> omega
  have HC := Lib.hid (fun V => wire_counts hd qA aA uA xA qs.length ans.length auth.length extra.length qc ac uc xc he ed o V hxl)
  rw [← hN4] at HC
  have H3 := Lib.hid (show decide (qs.length ≤ 65535 ∧ ans.length ≤ 65535 ∧ auth.length ≤ 65535 ∧ extra.length + (if he = true then 1 else 0) ≤ 65535) = decide (qs.length ≤ 65535 ∧ ans.length ≤ 65535 ∧ auth.length ≤ 65535 ∧ N4 ≤ 65535) by rw [hN4])
  have HM := Lib.hid (show mayM ⟨hd, qs, ans, auth, extra, he, ed⟩ = (hdOk hd && ((he || edZero ed) && (decide (qs.length ≤ 65535 ∧ ans.length ≤ 65535 ∧ auth.length ≤ 65535 ∧ extra.length + (if he = true then 1 else 0) ≤ 65535) && (qs.all (fun q => may q.name) && (ans.all recOk7 && (auth.all recOk7 && extra.all recOk7)))))) by unfold mayM; simp only [Bool.and_assoc])
  have HQ := Lib.hid (fun V (hV : Ext w V) => edns_same0 ed o V (hop.ext hV))
  have HVa := Lib.hid (fun V (hV : Ext w V) => wire_valid 0 (.slice aA ans.length ac) ans V (hg.ext hV) ⟨aA, ac, rfl, ha1, ha2, har.ext hV⟩ hao)
  have HVu := Lib.hid (fun V (hV : Ext w V) => wire_valid 0 (.slice uA auth.length uc) auth V (hg.ext hV) ⟨uA, uc, rfl, hu1, hu2, hur.ext hV⟩ huo)
  have HVx := Lib.hid (fun V (hV : Ext w V) => wire_valid 0 (.slice xA extra.length xc) extra V (hg.ext hV) ⟨xA, xc, rfl, hx1, hx2, hxr.ext hV⟩ hxo)
  clear r0 hN4 hb ho hc hop hao huo hxo hxl ha1 ha2 har hu1 hu2 hur hx1 hx2 hxr
  go_enter Tryd.func13, Tryd.ntmps13
  go_upto_region 1 with fail
  rw [← hX0]
  clear hX0
  go_wp2_with (first
    | (refine wpList_load_part (by rfl) 25 (.tmp 10) rfl w.heap.size 0 rfl [.int .u16 hd.id, .bool hd.qr, .int .u8 hd.op, .bool hd.aa, .bool hd.tc, .bool hd.rd, .bool hd.ra, .bool hd.z, .bool hd.ad, .bool hd.cd, .int .u8 hd.code] (row_part (K0.out X0 (Ext.refl _)) 0 11) _ Tryd.underlying25 rfl (by kernel_rfl) ?_)
    | fail)
  refine (HF.out _ hw0).mono ?_; rintro e w1 ⟨h1, hE1⟩
  have hw1 : Ext w w1 := hw0.trans hE1
  by_cases hok : hdOk hd = true
  rotate_left
  · rw [if_neg hok] at h1
    subst h1
    have hF : mayM ⟨hd, qs, ans, auth, extra, he, ed⟩ = false := by rw [HM.out, Bool.eq_false_iff.2 hok]; rfl
    have HFd := Lib.hid hF
    clear hF
    go_wp2_with fail
    go_ret
    exact ⟨by rw [HFd.out]; rfl, hw1⟩
  rw [if_pos hok] at h1
  subst h1
  have r1 := K0.out _ hE1
  have p15 : w1.cell? ⟨w.heap.size, 15, none⟩ = some (.bool he) := cell_of_row w1 _ 15 _ _ _ r1
  by_cases hhe : he = true
  rotate_left
  · have hhf : he = false := Bool.eq_false_iff.2 hhe
    rw [hhf] at p15
    by_cases hz : edZero ed = true
    rotate_left
    · have hzb : edZero ed = false := Bool.eq_false_iff.2 hz
      have hF : mayM ⟨hd, qs, ans, auth, extra, he, ed⟩ = false := by rw [HM.out, hhf, hzb]; simp
      have HFd := Lib.hid hF
      clear hF hz hhf hhe
      go_wp2_with (first
        | (refine wpList_load_part (by rfl) 53 (.tmp 21) rfl w.heap.size 16 rfl [.int .u16 ed.size, .int .u8 ed.ext, .int .u8 ed.ver, .int .u16 ed.flags, o] (row_part r1 16 5) _ Tryd.underlying53 rfl (by kernel_rfl) ?_)
        | fail)
      refine (HQ.out _ hw1).mono ?_; rintro e w2 ⟨rfl, hE2⟩
      rw [hzb]
      go_wp2_with fail
      go_ret
      exact ⟨by rw [HFd.out]; rfl, hw1.trans hE2⟩
    have HHE := Lib.hid (show (he || edZero ed) = true by rw [hhf, hz]; rfl)
    clear hhe hhf
    go_wp2_with (first
      | (refine wpList_load_part (by rfl) 53 (.tmp 21) rfl w.heap.size 16 rfl [.int .u16 ed.size, .int .u8 ed.ext, .int .u8 ed.ver, .int .u16 ed.flags, o] (row_part r1 16 5) _ Tryd.underlying53 rfl (by kernel_rfl) ?_)
      | fail)
    refine (HQ.out _ hw1).mono ?_; rintro e wz ⟨rfl, hE2⟩
    rw [hz]
    have hwz : Ext w wz := hw1.trans hE2
    have hwz0 : Ext X0 wz := hE1.trans hE2
    have rz := K0.out _ hwz0
    clear hz r1 p15 HQ hE2
    go_wp2_with (first
      | (refine wpList_load_row (by rfl) 55 (.tmp 1) rfl w.heap.size rfl 55 _ _ _ rz Tryd.underlying55 rfl (by kernel_rfl) ?_)
      | fail)
    refine (HC.out _).mono ?_; rintro e w3 ⟨rfl, hE3⟩
    go_wp2_with fail
    go_loopw [2, 6, 29] (fun s2 _ s29 wr => ∃ k : Nat, k ≤ 4 ∧ s2 = .bool false ∧ s29 = .int .i64 k ∧ cntTo qs.length ans.length auth.length N4 k ∧ Ext w3 wr) (fun _ _ s29 _ => 4 - (intOf s29).toNat)
    case atStart => exact ⟨0, by omega, rfl, rfl, trivial, Ext.refl _⟩
    case round =>
      obtain ⟨k, hk, rfl, rfl, hcn, hEo⟩ := hrel
      obtain ⟨wo, rfl⟩ : ∃ wo : World, wo = wr := ⟨_, rfl⟩
      rcases Nat.lt_or_ge k 4 with hk8 | hk8
      · rcases (by omega : k = 0 ∨ k = 1 ∨ k = 2 ∨ k = 3) with rfl | rfl | rfl | rfl
        · have hc1 : ((0 : Nat) : Int) = 0 := rfl
          have hix : ∀ V : World, (Instr.index 65 (.agg #[.int .i64 (qs.length : Int), .int .i64 (ans.length : Int), .int .i64 (auth.length : Int), .int .i64 (N4 : Int)]) (.int .i64 0)).run Tryd.prog V = .ok (.int .i64 (qs.length : Int)) V := fun _ => by kernel_rfl
          rcases Nat.lt_or_ge 65535 qs.length with hb | hb
          · have hlt : (65535 : Int) < (qs.length : Int) := by omega
            have hF : mayM ⟨hd, qs, ans, auth, extra, he, ed⟩ = false := by
              rw [HM.out, H3.out]
              have hd0 : decide (qs.length ≤ 65535 ∧ ans.length ≤ 65535 ∧ auth.length ≤ 65535 ∧ N4 ≤ 65535) = false := by rw [decide_eq_false_iff_not]; omega
              rw [hd0]; simp
            have HFd := Lib.hid hF
            clear hF hb
            go_wp2_with fail
            go_ret
            exact ⟨by rw [HFd.out]; rfl, hwz.trans (hE3.trans hEo)⟩
          · have hlt : ¬ ((65535 : Int) < (qs.length : Int)) := by omega
            have HK := Lib.hid (show cntTo qs.length ans.length auth.length N4 1 from hb)
            clear hb hcn
            go_wp2_with fail
            go_roundw
            case rel => exact ⟨1, by omega, rfl, by go_num, HK.out, hEo⟩
            case measure => simp [intOf]
        · have hc1 : ((1 : Nat) : Int) = 1 := rfl
          have hix : ∀ V : World, (Instr.index 65 (.agg #[.int .i64 (qs.length : Int), .int .i64 (ans.length : Int), .int .i64 (auth.length : Int), .int .i64 (N4 : Int)]) (.int .i64 1)).run Tryd.prog V = .ok (.int .i64 (ans.length : Int)) V := fun _ => by kernel_rfl
          rcases Nat.lt_or_ge 65535 ans.length with hb | hb
          · have hlt : (65535 : Int) < (ans.length : Int) := by omega
            have hF : mayM ⟨hd, qs, ans, auth, extra, he, ed⟩ = false := by
              rw [HM.out, H3.out]
              have hd0 : decide (qs.length ≤ 65535 ∧ ans.length ≤ 65535 ∧ auth.length ≤ 65535 ∧ N4 ≤ 65535) = false := by rw [decide_eq_false_iff_not]; omega
              rw [hd0]; simp
            have HFd := Lib.hid hF
            clear hF hb
            go_wp2_with fail
            go_ret
            exact ⟨by rw [HFd.out]; rfl, hwz.trans (hE3.trans hEo)⟩
          · have hlt : ¬ ((65535 : Int) < (ans.length : Int)) := by omega
            have HK := Lib.hid (show cntTo qs.length ans.length auth.length N4 2 from ⟨hcn, hb⟩)
            clear hb hcn
            go_wp2_with fail
            go_roundw
            case rel => exact ⟨2, by omega, rfl, by go_num, HK.out, hEo⟩
            case measure => simp [intOf]
        · have hc1 : ((2 : Nat) : Int) = 2 := rfl
          have hix : ∀ V : World, (Instr.index 65 (.agg #[.int .i64 (qs.length : Int), .int .i64 (ans.length : Int), .int .i64 (auth.length : Int), .int .i64 (N4 : Int)]) (.int .i64 2)).run Tryd.prog V = .ok (.int .i64 (auth.length : Int)) V := fun _ => by kernel_rfl
          rcases Nat.lt_or_ge 65535 auth.length with hb | hb
          · have hlt : (65535 : Int) < (auth.length : Int) := by omega
            have hF : mayM ⟨hd, qs, ans, auth, extra, he, ed⟩ = false := by
              rw [HM.out, H3.out]
              have hd0 : decide (qs.length ≤ 65535 ∧ ans.length ≤ 65535 ∧ auth.length ≤ 65535 ∧ N4 ≤ 65535) = false := by rw [decide_eq_false_iff_not]; omega
              rw [hd0]; simp
            have HFd := Lib.hid hF
            clear hF hb
            go_wp2_with fail
            go_ret
            exact ⟨by rw [HFd.out]; rfl, hwz.trans (hE3.trans hEo)⟩
          · have hlt : ¬ ((65535 : Int) < (auth.length : Int)) := by omega
            have HK := Lib.hid (show cntTo qs.length ans.length auth.length N4 3 from ⟨hcn.1, hcn.2, hb⟩)
            clear hb hcn
            go_wp2_with fail
            go_roundw
            case rel => exact ⟨3, by omega, rfl, by go_num, HK.out, hEo⟩
            case measure => simp [intOf]
        · have hc1 : ((3 : Nat) : Int) = 3 := rfl
          have hix : ∀ V : World, (Instr.index 65 (.agg #[.int .i64 (qs.length : Int), .int .i64 (ans.length : Int), .int .i64 (auth.length : Int), .int .i64 (N4 : Int)]) (.int .i64 3)).run Tryd.prog V = .ok (.int .i64 (N4 : Int)) V := fun _ => by kernel_rfl
          rcases Nat.lt_or_ge 65535 N4 with hb | hb
          · have hlt : (65535 : Int) < (N4 : Int) := by omega
            have hF : mayM ⟨hd, qs, ans, auth, extra, he, ed⟩ = false := by
              rw [HM.out, H3.out]
              have hd0 : decide (qs.length ≤ 65535 ∧ ans.length ≤ 65535 ∧ auth.length ≤ 65535 ∧ N4 ≤ 65535) = false := by rw [decide_eq_false_iff_not]; omega
              rw [hd0]; simp
            have HFd := Lib.hid hF
            clear hF hb
            go_wp2_with fail
            go_ret
            exact ⟨by rw [HFd.out]; rfl, hwz.trans (hE3.trans hEo)⟩
          · have hlt : ¬ ((65535 : Int) < (N4 : Int)) := by omega
            have HK := Lib.hid (show cntTo qs.length ans.length auth.length N4 4 from ⟨hcn.1, hcn.2.1, hcn.2.2, hb⟩)
            clear hb hcn
            go_wp2_with fail
            go_roundw
            case rel => exact ⟨4, by omega, rfl, by go_num, HK.out, hEo⟩
            case measure => simp [intOf]
      · obtain rfl : k = 4 := by omega
        have hc1 : ((4 : Nat) : Int) = 4 := rfl
        have hcn4 : qs.length ≤ 65535 ∧ ans.length ≤ 65535 ∧ auth.length ≤ 65535 ∧ N4 ≤ 65535 := hcn
        have HM2 := Lib.hid (show mayM ⟨hd, qs, ans, auth, extra, he, ed⟩ = (qs.all (fun q => may q.name) && (ans.all recOk7 && (auth.all recOk7 && extra.all recOk7))) by rw [HM.out, H3.out, hok, HHE.out, decide_eq_true hcn4]; simp)
        have hq9 : qs.length ≤ 65535 := hcn4.1
        clear hcn hcn4 HM H3 HC
        have hwo : Ext w wo := hwz.trans (hE3.trans hEo)
        have ro := K0.out _ (hwz0.trans (hE3.trans hEo))
        have p11 : wo.cell? ⟨w.heap.size, 11, none⟩ = some (.slice qA qs.length qc) := cell_of_row wo _ 11 _ _ _ ro
        have hwo0 : Ext X0 wo := hwz0.trans (hE3.trans hEo)
        clear hEo hE3 ro rz hwz hwz0 hE1 hw1
        obtain ⟨R, hR⟩ : ∃ R, R = qs.all (fun q => may q.name) := ⟨_, rfl⟩
        rw [← hR] at HM2
        have HR := Lib.hid hR
        clear hR
        go_wp2_with fail
        (try simp only [hc1])
        clear hc1 hk8 hk
        go_loopw [2, 8, 38] (fun s2 _ s38 wr => ∃ k : Nat, k ≤ qs.length ∧ s2 = .bool false ∧ s38 = .int .i64 k ∧ (qs.drop k).all (fun q => may q.name) = R ∧ Ext wo wr) (fun _ _ s38 _ => qs.length - (intOf s38).toNat)
        case atStart => exact ⟨0, Nat.zero_le _, rfl, rfl, by rw [HR.out, List.drop_zero], Ext.refl _⟩
        case round =>
          obtain ⟨k, hk, rfl, rfl, hrest, hE⟩ := hrel
          obtain ⟨wp, rfl⟩ : ∃ wp : World, wp = wr := ⟨_, rfl⟩
          by_cases hlt : k < qs.length
          · obtain ⟨b, off, rfl, _, hbz, hc⟩ := (hqr.ext (hwo.trans hE)).2 (by omega)
            obtain ⟨x0, x1, x2⟩ := qus_cells hc k qs[k] (List.getElem?_eq_getElem hlt)
            have hx := hqo qs[k] (List.getElem_mem hlt)
            rw [List.drop_eq_getElem_cons hlt, List.all_cons] at hrest
            generalize qs[k] = q at *
            obtain ⟨nm, ty, cl⟩ := q
            dsimp only at *
            have HN := Lib.hid (fun V => name_may nm V (by unfold maxLen; omega))
            have Hrest := Lib.hid hrest
            generalize may nm = bn at *
            clear hc hrest
            have hki : (k : Int) < (qs.length : Int) := by omega
            have hk0 : (0 : Int) ≤ (k : Int) := by omega
            rcases bn with _ | _
            · have hF : R = false := by rw [← Hrest.out]; rfl
              have HFd := Lib.hid (show mayM ⟨hd, qs, ans, auth, extra, he, ed⟩ = false by rw [HM2.out, hF]; rfl)
              clear hF
              go_wp2_with fail
              refine (HN.out _).mono ?_; rintro e w4 ⟨rfl, rfl⟩
              go_wp2_with fail
              go_ret
              exact ⟨by rw [HFd.out]; rfl, hwo.trans (hE.trans (by (repeat (first | with_reducible exact Ext.refl _ | with_reducible assumption | with_reducible refine Ext.alloc ?_ _ | with_reducible refine Ext.drewN ?_ _ | with_reducible refine Ext.drew ?_ | (with_reducible refine Ext.setCell ?_ ?hp _; case hp => (simp <;> omega))))))⟩
            · have HF := Lib.hid (show (qs.drop (k + 1)).all (fun q => may q.name) = R by rw [← Hrest.out]; rfl)
              go_wp2_with fail
              refine (HN.out _).mono ?_; rintro e w4 ⟨rfl, rfl⟩
              go_wp2_with fail
              go_roundw
              case rel => exact ⟨k + 1, by omega, rfl, by go_num, HF.out, hE.trans (by (repeat (first | with_reducible exact Ext.refl _ | with_reducible assumption | with_reducible refine Ext.alloc ?_ _ | with_reducible refine Ext.drewN ?_ _ | with_reducible refine Ext.drew ?_ | (with_reducible refine Ext.setCell ?_ ?hp _; case hp => (simp <;> omega)))))⟩
              case measure => simp [intOf]; omega
          · have e1 : qs.drop k = [] := List.drop_of_length_le (by omega)
            rw [e1] at hrest
            have hF : R = true := by rw [← hrest]; rfl
            have HM3 := Lib.hid (show mayM ⟨hd, qs, ans, auth, extra, he, ed⟩ = (ans.all recOk7 && (auth.all recOk7 && extra.all recOk7)) by rw [HM2.out, hF]; rfl)
            have hge : ¬ ((k : Int) < (qs.length : Int)) := by omega
            clear hrest e1 HM2 HR p11
            have hp0 : Ext X0 wp := hwo0.trans hE
            have hpw : Ext w wp := hwo.trans hE
            have rp := K0.out _ hp0
            have p12 : wp.cell? ⟨w.heap.size, 12, none⟩ = some (.slice aA ans.length ac) := cell_of_row wp _ 12 _ _ _ rp
            clear rp
            generalize ans.all recOk7 = ba at *
            generalize auth.all recOk7 = bu at *
            generalize extra.all recOk7 = bx at *
            rcases ba with _ | _
            · go_wp2_with fail
              refine (HVa.out _ hpw).mono ?_; rintro e w5 ⟨rfl, hE5⟩
              go_wp2_with fail
              go_ret
              exact ⟨by rw [HM3.out]; rfl, hpw.trans hE5⟩
            · go_wp2_with fail
              refine (HVa.out _ hpw).mono ?_; rintro e w5 ⟨rfl, hE5⟩
              have p13 : w5.cell? ⟨w.heap.size, 13, none⟩ = some (.slice uA auth.length uc) := cell_of_row w5 _ 13 _ _ _ (K0.out _ (hp0.trans hE5))
              rcases bu with _ | _
              · go_wp2_with fail
                refine (HVu.out _ (hpw.trans hE5)).mono ?_; rintro e w6 ⟨rfl, hE6⟩
                go_wp2_with fail
                go_ret
                exact ⟨by rw [HM3.out]; rfl, hpw.trans (hE5.trans hE6)⟩
              · go_wp2_with fail
                refine (HVu.out _ (hpw.trans hE5)).mono ?_; rintro e w6 ⟨rfl, hE6⟩
                have p14 : w6.cell? ⟨w.heap.size, 14, none⟩ = some (.slice xA extra.length xc) := cell_of_row w6 _ 14 _ _ _ (K0.out _ (hp0.trans (hE5.trans hE6)))
                go_wp2_with fail
                refine (HVx.out _ (hpw.trans (hE5.trans hE6))).mono ?_; rintro e w7 ⟨rfl, hE7⟩
                go_wp2_with fail
                go_ret
                exact ⟨by rw [HM3.out]; cases bx <;> rfl, hpw.trans (hE5.trans (hE6.trans hE7))⟩

  have HHE := Lib.hid (show (he || edZero ed) = true by rw [hhe]; rfl)
  rw [hhe] at p15
  clear hhe
  obtain ⟨wz, hwzz⟩ : ∃ wz, wz = w1 := ⟨_, rfl⟩
  have hwz : Ext w wz := hwzz ▸ hw1
  have hwz0 : Ext X0 wz := hwzz ▸ hE1
  have rz := K0.out _ hwz0
  rw [← hwzz] at p15 ⊢
  clear r1 HQ hwzz
  go_wp2_with (first
    | (refine wpList_load_row (by rfl) 55 (.tmp 1) rfl w.heap.size rfl 55 _ _ _ rz Tryd.underlying55 rfl (by kernel_rfl) ?_)
    | fail)
  refine (HC.out _).mono ?_; rintro e w3 ⟨rfl, hE3⟩
  go_wp2_with fail
  go_loopw [2, 6, 29] (fun s2 _ s29 wr => ∃ k : Nat, k ≤ 4 ∧ s2 = .bool false ∧ s29 = .int .i64 k ∧ cntTo qs.length ans.length auth.length N4 k ∧ Ext w3 wr) (fun _ _ s29 _ => 4 - (intOf s29).toNat)
  case atStart => exact ⟨0, by omega, rfl, rfl, trivial, Ext.refl _⟩
  case round =>
    obtain ⟨k, hk, rfl, rfl, hcn, hEo⟩ := hrel
    obtain ⟨wo, rfl⟩ : ∃ wo : World, wo = wr := ⟨_, rfl⟩
    rcases Nat.lt_or_ge k 4 with hk8 | hk8
    · rcases (by omega : k = 0 ∨ k = 1 ∨ k = 2 ∨ k = 3) with rfl | rfl | rfl | rfl
      · have hc1 : ((0 : Nat) : Int) = 0 := rfl
        have hix : ∀ V : World, (Instr.index 65 (.agg #[.int .i64 (qs.length : Int), .int .i64 (ans.length : Int), .int .i64 (auth.length : Int), .int .i64 (N4 : Int)]) (.int .i64 0)).run Tryd.prog V = .ok (.int .i64 (qs.length : Int)) V := fun _ => by kernel_rfl
        rcases Nat.lt_or_ge 65535 qs.length with hb | hb
        · have hlt : (65535 : Int) < (qs.length : Int) := by omega
          have hF : mayM ⟨hd, qs, ans, auth, extra, he, ed⟩ = false := by
            rw [HM.out, H3.out]
            have hd0 : decide (qs.length ≤ 65535 ∧ ans.length ≤ 65535 ∧ auth.length ≤ 65535 ∧ N4 ≤ 65535) = false := by rw [decide_eq_false_iff_not]; omega
            rw [hd0]; simp
          have HFd := Lib.hid hF
          clear hF hb
          go_wp2_with fail
          go_ret
          exact ⟨by rw [HFd.out]; rfl, hwz.trans (hE3.trans hEo)⟩
        · have hlt : ¬ ((65535 : Int) < (qs.length : Int)) := by omega
          have HK := Lib.hid (show cntTo qs.length ans.length auth.length N4 1 from hb)
          clear hb hcn
          go_wp2_with fail
          go_roundw
          case rel => exact ⟨1, by omega, rfl, by go_num, HK.out, hEo⟩
          case measure => simp [intOf]
      · have hc1 : ((1 : Nat) : Int) = 1 := rfl
        have hix : ∀ V : World, (Instr.index 65 (.agg #[.int .i64 (qs.length : Int), .int .i64 (ans.length : Int), .int .i64 (auth.length : Int), .int .i64 (N4 : Int)]) (.int .i64 1)).run Tryd.prog V = .ok (.int .i64 (ans.length : Int)) V := fun _ => by kernel_rfl
        rcases Nat.lt_or_ge 65535 ans.length with hb | hb
        · have hlt : (65535 : Int) < (ans.length : Int) := by omega
          have hF : mayM ⟨hd, qs, ans, auth, extra, he, ed⟩ = false := by
            rw [HM.out, H3.out]
            have hd0 : decide (qs.length ≤ 65535 ∧ ans.length ≤ 65535 ∧ auth.length ≤ 65535 ∧ N4 ≤ 65535) = false := by rw [decide_eq_false_iff_not]; omega
            rw [hd0]; simp
          have HFd := Lib.hid hF
          clear hF hb
          go_wp2_with fail
          go_ret
          exact ⟨by rw [HFd.out]; rfl, hwz.trans (hE3.trans hEo)⟩
        · have hlt : ¬ ((65535 : Int) < (ans.length : Int)) := by omega
          have HK := Lib.hid (show cntTo qs.length ans.length auth.length N4 2 from ⟨hcn, hb⟩)
          clear hb hcn
          go_wp2_with fail
          go_roundw
          case rel => exact ⟨2, by omega, rfl, by go_num, HK.out, hEo⟩
          case measure => simp [intOf]
      · have hc1 : ((2 : Nat) : Int) = 2 := rfl
        have hix : ∀ V : World, (Instr.index 65 (.agg #[.int .i64 (qs.length : Int), .int .i64 (ans.length : Int), .int .i64 (auth.length : Int), .int .i64 (N4 : Int)]) (.int .i64 2)).run Tryd.prog V = .ok (.int .i64 (auth.length : Int)) V := fun _ => by kernel_rfl
        rcases Nat.lt_or_ge 65535 auth.length with hb | hb
        · have hlt : (65535 : Int) < (auth.length : Int) := by omega
          have hF : mayM ⟨hd, qs, ans, auth, extra, he, ed⟩ = false := by
            rw [HM.out, H3.out]
            have hd0 : decide (qs.length ≤ 65535 ∧ ans.length ≤ 65535 ∧ auth.length ≤ 65535 ∧ N4 ≤ 65535) = false := by rw [decide_eq_false_iff_not]; omega
            rw [hd0]; simp
          have HFd := Lib.hid hF
          clear hF hb
          go_wp2_with fail
          go_ret
          exact ⟨by rw [HFd.out]; rfl, hwz.trans (hE3.trans hEo)⟩
        · have hlt : ¬ ((65535 : Int) < (auth.length : Int)) := by omega
          have HK := Lib.hid (show cntTo qs.length ans.length auth.length N4 3 from ⟨hcn.1, hcn.2, hb⟩)
          clear hb hcn
          go_wp2_with fail
          go_roundw
          case rel => exact ⟨3, by omega, rfl, by go_num, HK.out, hEo⟩
          case measure => simp [intOf]
      · have hc1 : ((3 : Nat) : Int) = 3 := rfl
        have hix : ∀ V : World, (Instr.index 65 (.agg #[.int .i64 (qs.length : Int), .int .i64 (ans.length : Int), .int .i64 (auth.length : Int), .int .i64 (N4 : Int)]) (.int .i64 3)).run Tryd.prog V = .ok (.int .i64 (N4 : Int)) V := fun _ => by kernel_rfl
        rcases Nat.lt_or_ge 65535 N4 with hb | hb
        · have hlt : (65535 : Int) < (N4 : Int) := by omega
          have hF : mayM ⟨hd, qs, ans, auth, extra, he, ed⟩ = false := by
            rw [HM.out, H3.out]
            have hd0 : decide (qs.length ≤ 65535 ∧ ans.length ≤ 65535 ∧ auth.length ≤ 65535 ∧ N4 ≤ 65535) = false := by rw [decide_eq_false_iff_not]; omega
            rw [hd0]; simp
          have HFd := Lib.hid hF
          clear hF hb
          go_wp2_with fail
          go_ret
          exact ⟨by rw [HFd.out]; rfl, hwz.trans (hE3.trans hEo)⟩
        · have hlt : ¬ ((65535 : Int) < (N4 : Int)) := by omega
          have HK := Lib.hid (show cntTo qs.length ans.length auth.length N4 4 from ⟨hcn.1, hcn.2.1, hcn.2.2, hb⟩)
          clear hb hcn
          go_wp2_with fail
          go_roundw
          case rel => exact ⟨4, by omega, rfl, by go_num, HK.out, hEo⟩
          case measure => simp [intOf]
    · obtain rfl : k = 4 := by omega
      have hc1 : ((4 : Nat) : Int) = 4 := rfl
      have hcn4 : qs.length ≤ 65535 ∧ ans.length ≤ 65535 ∧ auth.length ≤ 65535 ∧ N4 ≤ 65535 := hcn
      have HM2 := Lib.hid (show mayM ⟨hd, qs, ans, auth, extra, he, ed⟩ = (qs.all (fun q => may q.name) && (ans.all recOk7 && (auth.all recOk7 && extra.all recOk7))) by rw [HM.out, H3.out, hok, HHE.out, decide_eq_true hcn4]; simp)
      have hq9 : qs.length ≤ 65535 := hcn4.1
      clear hcn hcn4 HM H3 HC
      have hwo : Ext w wo := hwz.trans (hE3.trans hEo)
      have ro := K0.out _ (hwz0.trans (hE3.trans hEo))
      have p11 : wo.cell? ⟨w.heap.size, 11, none⟩ = some (.slice qA qs.length qc) := cell_of_row wo _ 11 _ _ _ ro
      have hwo0 : Ext X0 wo := hwz0.trans (hE3.trans hEo)
      clear hEo hE3 ro rz hwz hwz0 hE1 hw1
      obtain ⟨R, hR⟩ : ∃ R, R = qs.all (fun q => may q.name) := ⟨_, rfl⟩
      rw [← hR] at HM2
      have HR := Lib.hid hR
      clear hR
      go_wp2_with fail
      (try simp only [hc1])
      clear hc1 hk8 hk
      go_loopw [2, 8, 38] (fun s2 _ s38 wr => ∃ k : Nat, k ≤ qs.length ∧ s2 = .bool false ∧ s38 = .int .i64 k ∧ (qs.drop k).all (fun q => may q.name) = R ∧ Ext wo wr) (fun _ _ s38 _ => qs.length - (intOf s38).toNat)
      case atStart => exact ⟨0, Nat.zero_le _, rfl, rfl, by rw [HR.out, List.drop_zero], Ext.refl _⟩
      case round =>
        obtain ⟨k, hk, rfl, rfl, hrest, hE⟩ := hrel
        obtain ⟨wp, rfl⟩ : ∃ wp : World, wp = wr := ⟨_, rfl⟩
        by_cases hlt : k < qs.length
        · obtain ⟨b, off, rfl, _, hbz, hc⟩ := (hqr.ext (hwo.trans hE)).2 (by omega)
          obtain ⟨x0, x1, x2⟩ := qus_cells hc k qs[k] (List.getElem?_eq_getElem hlt)
          have hx := hqo qs[k] (List.getElem_mem hlt)
          rw [List.drop_eq_getElem_cons hlt, List.all_cons] at hrest
          generalize qs[k] = q at *
          obtain ⟨nm, ty, cl⟩ := q
          dsimp only at *
          have HN := Lib.hid (fun V => name_may nm V (by unfold maxLen; omega))
          have Hrest := Lib.hid hrest
          generalize may nm = bn at *
          clear hc hrest
          have hki : (k : Int) < (qs.length : Int) := by omega
          have hk0 : (0 : Int) ≤ (k : Int) := by omega
          rcases bn with _ | _
          · have hF : R = false := by rw [← Hrest.out]; rfl
            have HFd := Lib.hid (show mayM ⟨hd, qs, ans, auth, extra, he, ed⟩ = false by rw [HM2.out, hF]; rfl)
            clear hF
            go_wp2_with fail
            refine (HN.out _).mono ?_; rintro e w4 ⟨rfl, rfl⟩
            go_wp2_with fail
            go_ret
            exact ⟨by rw [HFd.out]; rfl, hwo.trans (hE.trans (by (repeat (first | with_reducible exact Ext.refl _ | with_reducible assumption | with_reducible refine Ext.alloc ?_ _ | with_reducible refine Ext.drewN ?_ _ | with_reducible refine Ext.drew ?_ | (with_reducible refine Ext.setCell ?_ ?hp _; case hp => (simp <;> omega))))))⟩
          · have HF := Lib.hid (show (qs.drop (k + 1)).all (fun q => may q.name) = R by rw [← Hrest.out]; rfl)
            go_wp2_with fail
            refine (HN.out _).mono ?_; rintro e w4 ⟨rfl, rfl⟩
            go_wp2_with fail
            go_roundw
            case rel => exact ⟨k + 1, by omega, rfl, by go_num, HF.out, hE.trans (by (repeat (first | with_reducible exact Ext.refl _ | with_reducible assumption | with_reducible refine Ext.alloc ?_ _ | with_reducible refine Ext.drewN ?_ _ | with_reducible refine Ext.drew ?_ | (with_reducible refine Ext.setCell ?_ ?hp _; case hp => (simp <;> omega)))))⟩
            case measure => simp [intOf]; omega
        · have e1 : qs.drop k = [] := List.drop_of_length_le (by omega)
          rw [e1] at hrest
          have hF : R = true := by rw [← hrest]; rfl
          have HM3 := Lib.hid (show mayM ⟨hd, qs, ans, auth, extra, he, ed⟩ = (ans.all recOk7 && (auth.all recOk7 && extra.all recOk7)) by rw [HM2.out, hF]; rfl)
          have hge : ¬ ((k : Int) < (qs.length : Int)) := by omega
          clear hrest e1 HM2 HR p11
          have hp0 : Ext X0 wp := hwo0.trans hE
          have hpw : Ext w wp := hwo.trans hE
          have rp := K0.out _ hp0
          have p12 : wp.cell? ⟨w.heap.size, 12, none⟩ = some (.slice aA ans.length ac) := cell_of_row wp _ 12 _ _ _ rp
          clear rp
          generalize ans.all recOk7 = ba at *
          generalize auth.all recOk7 = bu at *
          generalize extra.all recOk7 = bx at *
          rcases ba with _ | _
          · go_wp2_with fail
            refine (HVa.out _ hpw).mono ?_; rintro e w5 ⟨rfl, hE5⟩
            go_wp2_with fail
            go_ret
            exact ⟨by rw [HM3.out]; rfl, hpw.trans hE5⟩
          · go_wp2_with fail
            refine (HVa.out _ hpw).mono ?_; rintro e w5 ⟨rfl, hE5⟩
            have p13 : w5.cell? ⟨w.heap.size, 13, none⟩ = some (.slice uA auth.length uc) := cell_of_row w5 _ 13 _ _ _ (K0.out _ (hp0.trans hE5))
            rcases bu with _ | _
            · go_wp2_with fail
              refine (HVu.out _ (hpw.trans hE5)).mono ?_; rintro e w6 ⟨rfl, hE6⟩
              go_wp2_with fail
              go_ret
              exact ⟨by rw [HM3.out]; rfl, hpw.trans (hE5.trans hE6)⟩
            · go_wp2_with fail
              refine (HVu.out _ (hpw.trans hE5)).mono ?_; rintro e w6 ⟨rfl, hE6⟩
              have p14 : w6.cell? ⟨w.heap.size, 14, none⟩ = some (.slice xA extra.length xc) := cell_of_row w6 _ 14 _ _ _ (K0.out _ (hp0.trans (hE5.trans hE6)))
              go_wp2_with fail
              refine (HVx.out _ (hpw.trans (hE5.trans hE6))).mono ?_; rintro e w7 ⟨rfl, hE7⟩
              go_wp2_with fail
              go_ret
              exact ⟨by rw [HM3.out]; cases bx <;> rfl, hpw.trans (hE5.trans (hE6.trans hE7))⟩

end Go.Proofs.YtjmfpillnbnofaaDoor
namespace Go.Proofs.YtjmfpillnbnofaaDoor
set_option linter.unusedSimpArgs false
set_option linter.unusedVariables false
open Go.RowKit
set_option maxRecDepth 100000

section
variable {P : Program}
/-- A struct within a block is loaded so. -/
theorem exec_load_part {o : Oper} {a : Act} {w : World} (ty : TypeId) (x : Operand) (ho : o.op = .load ty x)
    (b off : Nat) (hx : a.eval x = .pointer (some ⟨b, off, none⟩)) (l : List Value) (hl : ∀ j v, l[j]? = some v → w.cell? ⟨b, off + j, none⟩ = some v) (d : TypeDesc)
    (hu : P.underlying ty = some d) (hd : (match d with | .struct _ | .array _ _ => true | _ => false) = true) (hi : (P.info? ty).map (·.size) = some l.length) :
    (execOp a.eval o).run P w = .ok (.value (.agg l.toArray)) w := by
  have hload : (loadVar ty ⟨b, off, none⟩).run P w = .ok (.agg l.toArray) w := by
    have hlc : (loadCells ⟨b, off, none⟩ l.length).run P w = .ok l.toArray w :=
      run_loadCells_list (P := P) w ⟨b, off, none⟩ l (fun j v hv => by rw [add_none]; exact hl j v hv)
    cases hq : P.info? ty with
    | none => simp [hq] at hi
    | some i =>
      have hs : i.size = l.length := by simpa [hq] using hi
      have hagg : (isAgg ty).run P w = .ok true w := by
        unfold isAgg
        rw [Sem.run_bind, run_underlying hu w]
        cases d <;> simp_all
      simp [loadVar, Sem.run_bind, hagg, sizeOf, typeInfo, hq, hs, hlc]
  unfold execOp
  simp only [ho, hx, Instr.loadAt, Instr.sureAddr, Sem.run_bind, Sem.run_pure, Result.andThen_ok, hload]
end
theorem row_all {w : World} {b : Nat} {cs : Array Value} {t : TypeId} {fr : Nat × Nat} (h : w.heap[b]? = some (.cells cs t fr)) : ∀ j v, cs.toList[j]? = some v → w.cell? ⟨b, 0 + j, none⟩ = some v := fun j v hj => by
  rw [cell_of_row w b _ cs t fr h, Nat.zero_add]
  simpa using hj
theorem put_defers (a : Act) (d : Option Tmp) (v : Value) : (a.put d v).defers = a.defers := by cases d <;> rfl
/-- A region's post, weakened at a panic to what hangs on no slot. -/
def PanicQ (R : Ending → World → Prop) (Q : Exit → Act → World → Prop) : Exit → Act → World → Prop
  | .panic c, a, w => a.defers = [] ∧ R (.panicked c) w
  | e, a, w => Q e a w
theorem PanicQ.normal {R : Ending → World → Prop} {Q : Exit → Act → World → Prop} {a : Act} {w : World} (h : Q .normal a w) : PanicQ R Q .normal a w := h
theorem wp_region_panicQ {P : Program} {id : Nat} {ops : Array Oper} {b : Bool} {R : Ending → World → Prop} {Q : Exit → Act → World → Prop} {a : Act} {w : World} (h : (Code.region id ops b).wp P (PanicQ R Q) a w)
    (hi : ∀ c a w, a.defers = [] → R (.panicked c) w → Q (.panic c) a w) : (Code.region id ops b).wp P Q a w :=
  Code.wp_mono (fun e a w h => by
    cases e <;> first | exact h | exact hi _ _ _ h.1 h.2) h
theorem qu_round {B : List UInt8} {T : Tab} {q : QD} {l : List QD} {R : List UInt8 × Tab} (h : (B ++ (seqW quW B.length (q :: l) T).1, (seqW quW B.length (q :: l) T).2) = R) :
    ∃ N : List UInt8 × Tab, N = putN true true B.length q.name T ∧
      (B ++ N.1 ++ (two q.typ.toNat ++ two q.cls.toNat) ++ (seqW quW (B ++ N.1 ++ (two q.typ.toNat ++ two q.cls.toNat)).length l N.2).1, (seqW quW (B ++ N.1 ++ (two q.typ.toNat ++ two q.cls.toNat)).length l N.2).2) = R := by
  refine ⟨_, rfl, ?_⟩
  rw [← h]
  simp only [seqW, quW, List.length_append, List.append_assoc, Nat.add_assoc]
theorem body_parts {m : MsgD} {R A1 A2 A3 : List UInt8 × Tab} (hR : R = (headW m ++ (seqW quW 12 m.qs []).1, (seqW quW 12 m.qs []).2)) (hl : (headW m).length = 12) (h1 : A1 = seqW recW R.1.length m.ans R.2) (h2 : A2 = seqW recW (R.1 ++ A1.1).length m.auth A1.2)
    (h3 : A3 = seqW recW (R.1 ++ A1.1 ++ A2.1).length m.extra A2.2) : (bodyW m).1 = R.1 ++ A1.1 ++ A2.1 ++ A3.1 ++ (if m.he then ednsW m.ed else []) := by
  have hRl : R.1.length = 12 + (seqW quW 12 m.qs []).1.length := by rw [hR]; simp only [List.length_append, hl]
  have hR2 : R.2 = (seqW quW 12 m.qs []).2 := by rw [hR]
  unfold bodyW
  dsimp only
  rw [seqW_append, seqW_append, ← hRl, ← hR2]
  rw [List.length_append] at h2
  rw [List.length_append, List.length_append, Nat.add_assoc] at h3
  have hR1 : R.1 = headW m ++ (seqW quW 12 m.qs []).1 := by rw [hR]
  rw [← hR1]
  simp only [List.length_append, ← h1, ← h2] at h3 ⊢
  simp only [← h1, ← h2, ← h3, List.append_assoc]
/-- What wire.write comes to: the message's bytes, or a fault. -/
def WritePost (m : MsgD) (w : World) (e : Ending) (w' : World) : Prop :=
  ((encErr m = 0 ∧ ∃ A c, e = .returned (.slice A (bodyW m).1.length c) ∧ Rd w' w.heap.size 1 A (bodyW m).1.length ((bodyW m).1.map U8)) ∨ (encErr m ≠ 0 ∧ e = faultE (encErr m))) ∧ Ext w w'
set_option maxHeartbeats 4000000 in
theorem wire_write (m : MsgD) (q a u x o : Value) (w : World) (hg : Laid w) (hb : BitsAt w) (hwf : m.wf) (h : Msg7 w m q a u x o) :
    Calls Tryd.prog 25 #[msg7V m.hd q a u x m.he m.ed o] w (WritePost m w) := by
  have HMay := Lib.hid (fun V (hV : Ext w V) => wire_may m q a u x o V (hg.ext hV) (hb.ext hV) hwf.op hwf.code (h.ext hV))
  have h7 := h
  obtain ⟨⟨qA, qc, rfl, hq1, hq2, hqr⟩, ⟨aA, ac, rfl, ha1, ha2, har⟩, ⟨uA, uc, rfl, hu1, hu2, hur⟩, ⟨xA, xc, rfl, hx1, hx2, hxr⟩, hop, hqo, hao, huo, hxo, hxl⟩ := h
  obtain ⟨hd, qs, ans, auth, extra, he, ed⟩ := m
  dsimp only at *
  obtain ⟨X0, hX0⟩ : ∃ X0, X0 = w.alloc (.cells #[.int .u16 hd.id, .bool hd.qr, .int .u8 hd.op, .bool hd.aa, .bool hd.tc, .bool hd.rd, .bool hd.ra, .bool hd.z, .bool hd.ad, .bool hd.cd, .int .u8 hd.code, .slice qA qs.length qc, .slice aA ans.length ac, .slice uA auth.length uc, .slice xA extra.length xc, .bool he, .int .u16 ed.size, .int .u8 ed.ext, .int .u8 ed.ver, .int .u16 ed.flags, o] 55) := ⟨_, rfl⟩
  have hw0 : Ext w X0 := by rw [hX0]; exact (Ext.refl _).alloc _
  have r0 : X0.heap[w.heap.size]? = some (.cells #[.int .u16 hd.id, .bool hd.qr, .int .u8 hd.op, .bool hd.aa, .bool hd.tc, .bool hd.rd, .bool hd.ra, .bool hd.z, .bool hd.ad, .bool hd.cd, .int .u8 hd.code, .slice qA qs.length qc, .slice aA ans.length ac, .slice uA auth.length uc, .slice xA extra.length xc, .bool he, .int .u16 ed.size, .int .u8 ed.ext, .int .u8 ed.ver, .int .u16 ed.flags, o] 55) := by rw [hX0]; exact heap_alloc_new _ _
  have z0 := (Array.getElem?_eq_some_iff.1 r0).1
  have K0 := Lib.hid (fun V (hV : Ext X0 V) => (hV.block _ z0).trans r0)
  have K1 := Lib.hid (fun V (hV : KeptY X0 V) => hV.2 _ _ _ _ (by decide) (by decide) (by decide) r0)
  have r0x := K0.out X0 (Ext.refl _)
  clear r0
  go_enter Tryd.func25, Tryd.ntmps25
  go_upto_region 1 with fail
  rw [← hX0]
  clear hX0
  by_cases hm : mayM ⟨hd, qs, ans, auth, extra, he, ed⟩ = true
  rotate_left
  · have hF : encErr ⟨hd, qs, ans, auth, extra, he, ed⟩ = 3 := by unfold encErr; rw [if_neg hm]
    have hmf : mayM ⟨hd, qs, ans, auth, extra, he, ed⟩ = false := Bool.eq_false_iff.2 hm
    have HFd := Lib.hid hF
    have HM3 := Lib.hid (fun V => wire_must 3 (by omega) V)
    clear hF hm
    go_wp2_with (first
      | (refine wpList_load_row (by rfl) 55 (.tmp 1) rfl w.heap.size rfl 55 _ _ _ r0x Tryd.underlying55 rfl (by kernel_rfl) ?_)
      | fail)
    refine (HMay.out _ hw0).mono ?_; rintro e w1 ⟨rfl, hE1⟩
    rw [hmf]
    go_wp2_with fail
    refine (HM3.out _).mono ?_; rintro e w2 ⟨rfl, rfl⟩
    go_wp2_with fail
    refine ⟨rfl, .inr ⟨by rw [HFd.out]; omega, by rw [HFd.out]⟩, hw0.trans hE1⟩
  go_wp2_with (first
    | (refine wpList_load_row (by rfl) 55 (.tmp 1) rfl w.heap.size rfl 55 _ _ _ r0x Tryd.underlying55 rfl (by kernel_rfl) ?_)
    | fail)
  refine (HMay.out _ hw0).mono ?_; rintro e w1 ⟨rfl, hE1⟩
  rw [hm]
  have hw1 : Ext w w1 := hw0.trans hE1
  have HMM := Lib.hid hm
  have hm2 := hm
  unfold mayM at hm2
  simp only [Bool.and_eq_true, decide_eq_true_eq] at hm2
  obtain ⟨⟨⟨⟨⟨⟨hok, hed⟩, hc0, hc1, hc2, hc3⟩, hmq⟩, hma⟩, hmu⟩, hmx⟩ := hm2
  obtain ⟨N4, hN4⟩ : ∃ N4, N4 = extra.length + if he then 1 else 0 := ⟨_, rfl⟩
  have HC := Lib.hid (fun V => wire_counts hd qA aA uA xA qs.length ans.length auth.length extra.length qc ac uc xc he ed o V hxl)
  rw [← hN4] at HC hc3
  have HN4 := Lib.hid hN4
  have HW := Lib.hid (fun V (hV : Ext w V) => head_write hd qs.length ans.length auth.length N4 V (hb.ext hV) hwf.op hwf.code hwf.id hok hc0 hc1 hc2 hc3)
  clear hm hN4 r0x HMay
  go_upto_region 3 with fail
  refine wp_region_noPanic ?_
  refine wp_region_tree (S := (fun V => V.heap[w.heap.size]? = some (.cells #[.int .u16 hd.id, .bool hd.qr, .int .u8 hd.op, .bool hd.aa, .bool hd.tc, .bool hd.rd, .bool hd.ra, .bool hd.z, .bool hd.ad, .bool hd.cd, .int .u8 hd.code, .slice qA qs.length qc, .slice aA ans.length ac, .slice uA auth.length uc, .slice xA extra.length xc, .bool he, .int .u16 ed.size, .int .u8 ed.ext, .int .u8 ed.ver, .int .u16 ed.flags, o] 55))) (.take 0 (.take 1 (.take 2 (.run 3 (.run 4 (.take 5 (.take 6 (.take 7 (.take 8 (.take 9 (.done))))))))))) (by kernel_rfl) (by kernel_rfl) (fun _ _ _ _ _ h => h) (K0.out _ (hE1.trans ((Ext.refl w1).drew))) ?_
  repeat ((with_reducible refine treeIs ?_); first
    | (refine treeTake (v := ?_) (by rfl) (by rfl) ?_ ?_; rotate_left; (focus (intro V hV; refine exec_load_part 25 (.tmp 17) ?_ w.heap.size 0 ?_ [.int .u16 hd.id, .bool hd.qr, .int .u8 hd.op, .bool hd.aa, .bool hd.tc, .bool hd.rd, .bool hd.ra, .bool hd.z, .bool hd.ad, .bool hd.cd, .int .u8 hd.code] (row_part hV 0 11) _ Tryd.underlying25 ?_ ?_; (focus rfl); (focus rfl); (focus rfl); (focus kernel_rfl))); (try simp only [Act.put, List.setIfInBounds_toArray, List.set_cons_zero, List.set_cons_succ]))
    | (refine treeTake (v := ?_) (by rfl) (by rfl) ?_ ?_; rotate_left; (focus (intro V hV; refine exec_load_part 55 (.tmp 1) ?_ w.heap.size 0 ?_ _ (row_all hV) _ Tryd.underlying55 ?_ ?_; (focus rfl); (focus rfl); (focus rfl); (focus kernel_rfl))); (try simp only [Act.put, List.setIfInBounds_toArray, List.set_cons_zero, List.set_cons_succ]))
    | (refine treeTake (v := ?_) (by rfl) (by rfl) ?_ ?_; rotate_left; (focus (intro V hV; (try dsimp only at hV); (go_simp <;> with_reducible rfl))); (try simp only [Act.put, List.setIfInBounds_toArray, List.set_cons_zero, List.set_cons_succ]))
    | (refine treeSkip (by rfl) (by rfl) ?_; (try simp only [Act.put, List.setIfInBounds_toArray, List.set_cons_zero, List.set_cons_succ])))
  refine treeRun (by rfl) (fun K hK => ?_)
  go_simp
  refine (HC.out _).mono ?_; rintro e w2 ⟨rfl, hE2⟩
  have h12 : Ext w1 w2 := Ext.trans ((Ext.refl w1).drew) hE2
  refine hK.out _ _ ?_ ?_
  · exact K0.out _ (hE1.trans h12)
  clear hK K
  (try simp only [Act.put, List.setIfInBounds_toArray, List.set_cons_zero, List.set_cons_succ])
  refine treeRun (by rfl) (fun K hK => ?_)
  go_simp
  refine (HW.out w2 (hw1.trans h12)).mono ?_; rintro e w3 ⟨rfl, hE3⟩
  have h13 : Ext w1 w3 := h12.trans hE3
  refine hK.out _ _ ?_ ?_
  · exact K0.out _ (hE1.trans h13)
  clear hK K
  (try simp only [Act.put, List.setIfInBounds_toArray, List.set_cons_zero, List.set_cons_succ])
  repeat ((with_reducible refine treeIs ?_); first
    | (refine treeTake (v := ?_) (by rfl) (by rfl) ?_ ?_; rotate_left; (focus (intro V hV; refine exec_load_part 25 (.tmp 17) ?_ w.heap.size 0 ?_ [.int .u16 hd.id, .bool hd.qr, .int .u8 hd.op, .bool hd.aa, .bool hd.tc, .bool hd.rd, .bool hd.ra, .bool hd.z, .bool hd.ad, .bool hd.cd, .int .u8 hd.code] (row_part hV 0 11) _ Tryd.underlying25 ?_ ?_; (focus rfl); (focus rfl); (focus rfl); (focus kernel_rfl))); (try simp only [Act.put, List.setIfInBounds_toArray, List.set_cons_zero, List.set_cons_succ]))
    | (refine treeTake (v := ?_) (by rfl) (by rfl) ?_ ?_; rotate_left; (focus (intro V hV; refine exec_load_part 55 (.tmp 1) ?_ w.heap.size 0 ?_ _ (row_all hV) _ Tryd.underlying55 ?_ ?_; (focus rfl); (focus rfl); (focus rfl); (focus kernel_rfl))); (try simp only [Act.put, List.setIfInBounds_toArray, List.set_cons_zero, List.set_cons_succ]))
    | (refine treeTake (v := ?_) (by rfl) (by rfl) ?_ ?_; rotate_left; (focus (intro V hV; (try dsimp only at hV); (go_simp <;> with_reducible rfl))); (try simp only [Act.put, List.setIfInBounds_toArray, List.set_cons_zero, List.set_cons_succ]))
    | (refine treeSkip (by rfl) (by rfl) ?_; (try simp only [Act.put, List.setIfInBounds_toArray, List.set_cons_zero, List.set_cons_succ])))
  refine treeDone ?_
  refine NoPanic.normal ?_
  go_wp2_with fail
  refine (wire_must0 w3).mono ?_; rintro e _ ⟨rfl, rfl⟩
  have hE13 : Ext X0 w3 := hE1.trans h13
  obtain ⟨H, hH⟩ : ∃ H, H = two hd.id.toNat ++ (two (flagsOf hd) ++ cntW qs.length ans.length auth.length N4 4) := ⟨_, rfl⟩
  rw [← hH]
  have HHd := Lib.hid (show H = headW ⟨hd, qs, ans, auth, extra, he, ed⟩ by rw [hH]; simp only [headW, cntW, HN4.out, List.append_assoc])
  have hHl : H.length = 12 := by rw [hH]; simp only [List.length_append, two_len, cntW]
  have HHl := Lib.hid hHl
  clear hH hHl HC HW h12 h13 hE2 hE3
  have hlo3 : w.heap.size ≤ w3.heap.size := (hw0.trans hE13).size
  obtain ⟨C, cap, hcv, hoz⟩ := ownZ_conv w3 w.heap.size H hlo3 (by rw [HHl.out]; omega)
  obtain ⟨W4, hW4⟩ : ∃ W, W = w3.drew.alloc (.cells C 5 (C.size, C.size + 1)) := ⟨_, rfl⟩
  rw [← hW4] at hcv hoz
  have hE4 : Ext w3 W4 := by rw [hW4]; exact ((Ext.refl _).drew).alloc _
  have hoz3 : OwnZ W4 w.heap.size (some ⟨w3.heap.size, 0, none⟩) H.length cap (H.map U8) := hoz
  clear hW4 hoz
  go_wp2_with fail
  refine (comp_new W4).mono ?_; rintro e w5 ⟨rfl, hw5⟩
  have hT5 : TabAt w5 w.heap.size W4.heap.size [] := by rw [hw5]; exact TabAt.new W4 _ (Nat.le_trans hlo3 hE4.size)
  have hE5 : Ext W4 w5 := by rw [hw5]; exact (Ext.refl _).alloc _
  clear hw5
  go_upto_region 6 with fail
  obtain ⟨W6, hW6⟩ : ∃ W6, W6 = w5.alloc (.cells #[.slice (some ⟨w3.heap.size, 0, none⟩) H.length cap, .pointer (some ⟨W4.heap.size, 0, none⟩)] 102) := ⟨_, rfl⟩
  have hE6 : Ext w5 W6 := by rw [hW6]; exact (Ext.refl _).alloc _
  have hWr6 : WrAt W6 w.heap.size w5.heap.size H [] := ⟨_, cap, W4.heap.size, by rw [hW6]; exact heap_alloc_new _ _, Nat.le_trans hlo3 (hE4.trans hE5).size, (hoz3.ext hE5).ext hE6, hT5.ext hE6⟩
  rw [← hW6]
  obtain ⟨g, hgg⟩ : ∃ g, g = w5.heap.size := ⟨_, rfl⟩
  rw [← hgg] at hWr6 ⊢
  have hX06 : Ext X0 W6 := hE13.trans (hE4.trans (hE5.trans hE6))
  have hK06 : KeptY X0 W6 := KeptY.ext hX06
  have hw6 : Ext w W6 := hw0.trans hX06
  have r6 := K1.out _ hK06
  have p11 : W6.cell? ⟨w.heap.size, 11, none⟩ = some (.slice qA qs.length qc) := cell_of_row W6 _ 11 _ _ _ r6
  clear hW6 hgg hcv hoz3 hT5 hE4 hE5 hE6 hE13 r6
  obtain ⟨R, hR⟩ : ∃ R, R = (H ++ (seqW quW H.length qs []).1, (seqW quW H.length qs []).2) := ⟨_, rfl⟩
  have HR := Lib.hid hR
  have HF5 := Lib.hid (show 65535 < R.1.length → encErr ⟨hd, qs, ans, auth, extra, he, ed⟩ = 5 from fun h => by
    have h2 : R.1.length ≤ (bodyW ⟨hd, qs, ans, auth, extra, he, ed⟩).1.length := by
      rw [hR, HHl.out, HHd.out]; unfold bodyW; simp only [List.length_append]; omega
    unfold encErr; rw [if_pos HMM.out, if_pos (by omega)])
  clear hR
  go_wp2_with fail
  go_loopw [7, 33] (fun _ s33 wr => ∃ (k : Nat) (B : List UInt8) (T : Tab), s33 = .int .i64 k ∧ k ≤ qs.length ∧ WrAt wr w.heap.size g B T ∧ B.length ≤ 65535 ∧ (B ++ (seqW quW B.length (qs.drop k) T).1, (seqW quW B.length (qs.drop k) T).2) = R ∧ Ext w wr ∧ KeptY X0 wr) (fun _ s33 _ => qs.length - (intOf s33).toNat)
  case atStart => exact ⟨0, H, [], rfl, Nat.zero_le _, hWr6, by rw [HHl.out]; omega, by rw [HR.out, List.drop_zero], hw6, hK06⟩
  case round =>
    obtain ⟨k, B, T, rfl, hk, hW, hB, hR1, hE, hKy⟩ := hrel
    obtain ⟨wo, rfl⟩ : ∃ wo : World, wo = wr := ⟨_, rfl⟩
    clear p11
    by_cases hlt : k < qs.length
    · obtain ⟨b, off, rfl, _, hbz, hc⟩ := (hqr.ext hE).2 (by omega)
      obtain ⟨x0, x1, x2⟩ := qus_cells hc k qs[k] (List.getElem?_eq_getElem hlt)
      have hqw := hwf.qs qs[k] (List.getElem_mem hlt)
      have hqm : may qs[k].name = true := List.all_eq_true.1 hmq qs[k] (List.getElem_mem hlt)
      rw [List.drop_eq_getElem_cons hlt] at hR1
      generalize qs[k] = q at *
      obtain ⟨nm, ty, cl⟩ := q
      obtain ⟨hqt, hqc⟩ := hqw
      dsimp only at *
      obtain ⟨N, hN, hRe⟩ := qu_round hR1
      have HRe := Lib.hid hRe
      have Hln := Lib.hid (show (B ++ N.1).length ≤ R.1.length ∧ (B ++ N.1 ++ (two ty.toNat ++ two cl.toNat)).length ≤ R.1.length by
        rw [← hRe]; simp only [List.length_append]; omega)
      clear hc hRe hR1
      have hki : (k : Int) < (qs.length : Int) := by omega
      have hk0 : (0 : Int) ≤ (k : Int) := by omega
      go_upto_region 9 with fail
      obtain ⟨W, hWe⟩ : ∃ W, W = wo.alloc (.cells #[S nm, .int .u16 ty, .int .u16 cl] 27) := ⟨_, rfl⟩
      have hEW : Ext wo W := by rw [hWe]; exact (Ext.refl _).alloc _
      have hrow : W.heap[wo.heap.size]? = some (.cells #[S nm, .int .u16 ty, .int .u16 cl] 27) := by rw [hWe]; exact heap_alloc_new _ _
      rw [← hWe]
      clear hWe x0 x1 x2
      have HRow := Lib.hid (fun V (hV : KeptY W V) => hV.2 _ _ _ _ (by decide) (by decide) (by decide) hrow)
      have k0 : W.cell? ⟨wo.heap.size, 0, none⟩ = some (S nm) := by simp [World.cell?, hrow]
      have HN := Lib.hid (wr_name w.heap.size g B nm T W (hW.ext hEW) hB hqm)
      dsimp only at hN
      rw [← hN] at HN
      clear hrow hN
      go_wp2_with fail
      refine HN.out.mono ?_; rintro e w2 ⟨⟨l2, rfl, hW2, hK2⟩ | ⟨l2, rfl⟩, hB2⟩
      rotate_left
      · go_wp2_with fail
        exact ⟨rfl, .inr ⟨by rw [HF5.out (by have := Hln.out; (try dsimp only at l2); omega)]; omega, by rw [HF5.out (by have := Hln.out; (try dsimp only at l2); omega)]⟩, (hE.trans hEW).then hB2 (Nat.le_refl _)⟩
      have hEw2 : Ext w w2 := (hE.trans hEW).then hB2 (Nat.le_refl _)
      have hK02 : KeptY X0 w2 := (hKy.trans (KeptY.ext hEW)).trans hK2
      have HS10 := Lib.hid (show ∀ V, KeptY w2 V → V.cell? ⟨wo.heap.size, 1, none⟩ = some (.int .u16 ty) ∧ V.cell? ⟨wo.heap.size, 2, none⟩ = some (.int .u16 cl) from fun V hV => by
        have h1 := HRow.out V (hK2.trans hV)
        exact ⟨by simp [World.cell?, h1], by simp [World.cell?, h1]⟩)
      have HP1 := Lib.hid (fun V => cur_put2 0 none 0 [] ty V (Rd.nil _ _ _ _) (by simp) hqt)
      have HP2 := Lib.hid (fun (A : Option Addr) (c lo' : Nat) (V : World) (hr : Rd V lo' 1 A (two ty.toNat).length ((two ty.toNat).map U8)) => cur_put2 lo' A c (two ty.toNat) cl V hr (by rw [two_len]; omega) hqc)
      (try dsimp only at l2 hW2)
      clear k0 HN
      go_upto_region 10 with fail
      refine wp_region_panicQ (R := WritePost ⟨hd, qs, ans, auth, extra, he, ed⟩ w) ?_ (fun c a w h1 h2 => ⟨h1, h2⟩)
      refine wp_region_tree (S := (fun V => V.cell? ⟨wo.heap.size, 1, none⟩ = some (.int .u16 ty) ∧ V.cell? ⟨wo.heap.size, 2, none⟩ = some (.int .u16 cl))) (.take 0 (.take 1 (.take 3 (.take 4 (.run 2 (.run 5 (.run 6 (.done)))))))) (by kernel_rfl) (by kernel_rfl) (fun o v c a w h => ⟨(put_defers a o.dst v).symm.trans h.1, h.2⟩) (HS10.out _ (KeptY.ext ((Ext.refl w2).drew))) ?_
      repeat ((with_reducible refine treeIs ?_); first
        | (refine treeTake (v := ?_) (by rfl) (by rfl) ?_ ?_; rotate_left; (focus (intro V hV; (try dsimp only at hV); (go_simp <;> with_reducible rfl))); (try simp only [Act.put, List.setIfInBounds_toArray, List.set_cons_zero, List.set_cons_succ]))
        | (refine treeSkip (by rfl) (by rfl) ?_; (try simp only [Act.put, List.setIfInBounds_toArray, List.set_cons_zero, List.set_cons_succ])))
      refine treeRun (by rfl) (fun K hK => ?_)
      go_simp
      refine (HP1.out _).mono ?_; rintro e w9 ⟨A9, c9, rfl, ho9, hE9⟩
      have h29 : Ext w2 w9 := Ext.trans ((Ext.refl w2).drew) hE9
      have ho9' := ho9.rd
      simp only [List.nil_append] at ho9' ⊢
      refine hK.out _ _ ?_ ?_
      · exact HS10.out _ (KeptY.ext h29)
      clear hK K
      (try simp only [Act.put, List.setIfInBounds_toArray, List.set_cons_zero, List.set_cons_succ])
      refine treeRun (by rfl) (fun K hK => ?_)
      go_simp
      refine (HP2.out _ _ _ _ ho9').mono ?_; rintro e w10 ⟨A10, c10, rfl, ho10, hE10⟩
      have h210 : Ext w2 w10 := h29.trans hE10
      refine hK.out _ _ ?_ ?_
      · exact HS10.out _ (KeptY.ext h210)
      clear hK K
      (try simp only [Act.put, List.setIfInBounds_toArray, List.set_cons_zero, List.set_cons_succ])
      refine treeRun (by rfl) (fun K hK => ?_)
      go_simp
      refine (wr_add w.heap.size g w9.heap.size (B ++ N.1) (two ty.toNat ++ two cl.toNat) N.2 A10 c10 w10 (hW2.ext h210) ho10.rd l2).mono ?_; rintro e w11 h11
      have h12 := h11.after h210 (by have := hW2.lo; omega)
      obtain ⟨⟨l11, rfl, hW11, hK11⟩ | ⟨l11, rfl⟩, hB11⟩ := h12
      rotate_left
      · exact ⟨rfl, .inr ⟨by rw [HF5.out (by have := Hln.out; (try dsimp only at l11); omega)]; omega, by rw [HF5.out (by have := Hln.out; (try dsimp only at l11); omega)]⟩, hEw2.then hB11 (Nat.le_refl _)⟩
      refine hK.out _ _ ?_ ?_
      · exact HS10.out _ hK11
      clear hK K
      (try simp only [Act.put, List.setIfInBounds_toArray, List.set_cons_zero, List.set_cons_succ])
      refine treeDone ?_
      refine PanicQ.normal ?_
      go_wp2_with fail
      go_roundw
      case rel => exact ⟨k + 1, _, _, by go_num, by omega, hW11, l11, HRe.out, hEw2.then hB11 (Nat.le_refl _), hK02.trans hK11⟩
      case measure => simp [intOf]; omega
    · have e1 : qs.drop k = [] := List.drop_of_length_le (by omega)
      rw [e1] at hR1
      have hRB : R = (B, T) := by rw [← hR1]; simp [seqW]
      have hge : ¬ ((k : Int) < (qs.length : Int)) := by omega
      clear hR1 e1 hk
      obtain ⟨A1, hA1⟩ : ∃ A1, A1 = seqW recW B.length ans T := ⟨_, rfl⟩
      obtain ⟨A2, hA2⟩ : ∃ A2, A2 = seqW recW (B ++ A1.1).length auth A1.2 := ⟨_, rfl⟩
      obtain ⟨A3, hA3⟩ : ∃ A3, A3 = seqW recW (B ++ A1.1 ++ A2.1).length extra A2.2 := ⟨_, rfl⟩
      have HBd := Lib.hid (show (bodyW ⟨hd, qs, ans, auth, extra, he, ed⟩).1 = B ++ A1.1 ++ A2.1 ++ A3.1 ++ (if he then ednsW ed else []) by
        have h1 : R.1 = B := by rw [hRB]
        have h2 : R.2 = T := by rw [hRB]
        have := body_parts (m := ⟨hd, qs, ans, auth, extra, he, ed⟩) (R := R) (A1 := A1) (A2 := A2) (A3 := A3) (by rw [HR.out, HHl.out, HHd.out]) (by rw [← HHd.out, HHl.out]) (by rw [h1, h2]; exact hA1) (by rw [h1]; exact hA2) (by rw [h1]; exact hA3)
        rw [this, h1])
      have HF5 := Lib.hid (show ∀ n, n ≤ (bodyW ⟨hd, qs, ans, auth, extra, he, ed⟩).1.length → 65535 < n → encErr ⟨hd, qs, ans, auth, extra, he, ed⟩ = 5 from fun n h1 h2 => by
        unfold encErr; rw [if_pos HMM.out, if_pos (by omega)])
      have HF0 := Lib.hid (show (bodyW ⟨hd, qs, ans, auth, extra, he, ed⟩).1.length ≤ 65535 → encErr ⟨hd, qs, ans, auth, extra, he, ed⟩ = 0 from fun h => by
        unfold encErr; rw [if_pos HMM.out, if_neg (by omega)])
      have HV1 := Lib.hid (wr_records w w.heap.size g B T (.slice aA ans.length ac) ans wo hg hW hB ⟨aA, ac, rfl, ha1, ha2, har⟩ hE (Nat.le_refl _) (fun r hr => ⟨List.all_eq_true.1 hma r hr, hwf.ans r hr, (hao r hr).2⟩))
      have HV2 := Lib.hid (fun (V : World) (hV : Ext w V) (h : WrAt V w.heap.size g (B ++ A1.1) A1.2) (hl : (B ++ A1.1).length ≤ 65535) => wr_records w w.heap.size g (B ++ A1.1) A1.2 (.slice uA auth.length uc) auth V hg h hl ⟨uA, uc, rfl, hu1, hu2, hur⟩ hV (Nat.le_refl _) (fun r hr => ⟨List.all_eq_true.1 hmu r hr, hwf.auth r hr, (huo r hr).2⟩))
      have HV3 := Lib.hid (fun (V : World) (hV : Ext w V) (h : WrAt V w.heap.size g (B ++ A1.1 ++ A2.1) A2.2) (hl : (B ++ A1.1 ++ A2.1).length ≤ 65535) => wr_records w w.heap.size g (B ++ A1.1 ++ A2.1) A2.2 (.slice xA extra.length xc) extra V hg h hl ⟨xA, xc, rfl, hx1, hx2, hxr⟩ hV (Nat.le_refl _) (fun r hr => ⟨List.all_eq_true.1 hmx r hr, hwf.extra r hr, (hxo r hr).2⟩))
      rw [← hA1] at HV1
      rw [← hA2] at HV2
      rw [← hA3] at HV3
      have ro := K1.out _ hKy
      have p12 : wo.cell? ⟨w.heap.size, 12, none⟩ = some (.slice aA ans.length ac) := cell_of_row wo _ 12 _ _ _ ro
      clear hA1 hA2 hA3 hRB HR ro
      go_wp2_with fail
      refine HV1.out.mono ?_; rintro e w2 ⟨⟨l2, rfl, hW2, hK2⟩ | ⟨l2, rfl⟩, hB2⟩
      rotate_left
      · go_wp2_with fail
        exact ⟨rfl, .inr ⟨by rw [HF5.out _ (by rw [HBd.out]; simp only [List.length_append]; omega) l2]; omega, by rw [HF5.out _ (by rw [HBd.out]; simp only [List.length_append]; omega) l2]⟩, hE.then hB2 (Nat.le_refl _)⟩
      have hEw2 : Ext w w2 := hE.then hB2 (Nat.le_refl _)
      have hK02 : KeptY X0 w2 := hKy.trans hK2
      dsimp only at l2 hW2
      have p13 : w2.cell? ⟨w.heap.size, 13, none⟩ = some (.slice uA auth.length uc) := cell_of_row w2 _ 13 _ _ _ (K1.out _ hK02)
      go_wp2_with fail
      refine (HV2.out w2 hEw2 hW2 l2).mono ?_; rintro e w3' ⟨⟨l3, rfl, hW3, hK3⟩ | ⟨l3, rfl⟩, hB3⟩
      rotate_left
      · go_wp2_with fail
        exact ⟨rfl, .inr ⟨by rw [HF5.out _ (by rw [HBd.out]; simp only [List.length_append]; omega) l3]; omega, by rw [HF5.out _ (by rw [HBd.out]; simp only [List.length_append]; omega) l3]⟩, hEw2.then hB3 (Nat.le_refl _)⟩
      have hEw3 : Ext w w3' := hEw2.then hB3 (Nat.le_refl _)
      have hK03 : KeptY X0 w3' := hK02.trans hK3
      dsimp only at l3 hW3
      have p14 : w3'.cell? ⟨w.heap.size, 14, none⟩ = some (.slice xA extra.length xc) := cell_of_row w3' _ 14 _ _ _ (K1.out _ hK03)
      go_wp2_with fail
      refine (HV3.out w3' hEw3 hW3 l3).mono ?_; rintro e w4 ⟨⟨l4, rfl, hW4, hK4⟩ | ⟨l4, rfl⟩, hB4⟩
      rotate_left
      · go_wp2_with fail
        exact ⟨rfl, .inr ⟨by rw [HF5.out _ (by rw [HBd.out]; simp only [List.length_append]; omega) l4]; omega, by rw [HF5.out _ (by rw [HBd.out]; simp only [List.length_append]; omega) l4]⟩, hEw3.then hB4 (Nat.le_refl _)⟩
      have hEw4 : Ext w w4 := hEw3.then hB4 (Nat.le_refl _)
      have hK04 : KeptY X0 w4 := hK03.trans hK4
      dsimp only at l4 hW4
      obtain ⟨D, hD⟩ : ∃ D, D = B ++ A1.1 ++ A2.1 ++ A3.1 := ⟨_, rfl⟩
      rw [← hD] at HBd l4 hW4
      have r4 := K1.out _ hK04
      have p15 : w4.cell? ⟨w.heap.size, 15, none⟩ = some (.bool he) := cell_of_row w4 _ 15 _ _ _ r4
      clear hD HV1 HV2 HV3 p12 p13 p14
      by_cases hhe : he = true
      rotate_left
      · have hhf : he = false := Bool.eq_false_iff.2 hhe
        rw [hhf] at p15
        have HBn := Lib.hid (show (bodyW ⟨hd, qs, ans, auth, extra, he, ed⟩).1 = D by rw [HBd.out, hhf]; simp)
        have hW5 := hW4
        obtain ⟨A, c, tp, hh, hlo, ho, ht⟩ := hW5
        have q0 : w4.cell? ⟨g, 0, none⟩ = some (.slice A D.length c) := cell_of_row w4 _ 0 _ _ _ hh
        clear hhe hhf r4 ht hh
        go_wp2_with fail
        go_ret
        exact ⟨.inl ⟨HF0.out (by rw [HBn.out]; exact l4), A, c, by rw [HBn.out]; rfl, by rw [HBn.out]; exact ho.rd⟩, hEw4⟩
      rw [hhe] at p15
      have HBn := Lib.hid (show (bodyW ⟨hd, qs, ans, auth, extra, he, ed⟩).1 = D ++ [0] ++ (two 41 ++ two ed.size.toNat ++ four (optTtl ed)) ++ two (optW ed).length ++ optW ed by rw [HBd.out, if_pos hhe]; simp only [ednsW, List.append_assoc])
      have HEd := Lib.hid (edns_write ed o w4 (hop.ext hEw4) hwf.ext hwf.ver hwf.flags hwf.opts)
      clear hhe HBd
      go_upto_region 16 with fail
      go_wp2_with (first
        | (refine wpList_load_part (by rfl) 53 (.tmp 60) rfl w.heap.size 16 rfl [.int .u16 ed.size, .int .u8 ed.ext, .int .u8 ed.ver, .int .u16 ed.flags, o] (row_part r4 16 5) _ Tryd.underlying53 rfl (by kernel_rfl) ?_)
        | fail)
      refine HEd.out.mono ?_; rintro e w5 ⟨h5, hE5⟩
      have hEw5 : Ext w w5 := hEw4.trans hE5
      by_cases hol : 65535 < (optW ed).length
      · rw [if_pos hol] at h5
        subst h5
        have HM5 := Lib.hid (wire_must 5 (by omega) w5)
        have HF := Lib.hid (HF5.out _ (show (optW ed).length ≤ _ by rw [HBn.out]; simp only [List.length_append]; omega) hol)
        clear hol r4 p15
        go_wp2_with fail
        refine HM5.out.mono ?_; rintro e _ ⟨rfl, rfl⟩
        go_wp2_with fail
        exact ⟨rfl, .inr ⟨by rw [HF.out]; omega, by rw [HF.out]⟩, hEw5⟩
      rw [if_neg hol] at h5
      subst h5
      have Hol := Lib.hid hol
      have HM0 := Lib.hid (wire_must0 w5)
      have hW5 := hW4.ext hE5
      obtain ⟨T4, hT4⟩ : ∃ T4, T4 = A3.2 := ⟨_, rfl⟩
      rw [← hT4] at hW5
      have HN0 := Lib.hid (wr_name w.heap.size g D [0] T4 w5 hW5 l4 (by decide))
      rw [putN_zero] at HN0
      obtain ⟨OW, hOW⟩ : ∃ OW, OW = optW ed := ⟨_, rfl⟩
      rw [← hOW] at HBn Hol ⊢
      have hol2 : OW.length ≤ 65535 := by have := Hol.out; omega
      have Hl2 := Lib.hid hol2
      clear hT4 hol hol2 hOW r4 p15 hW4
      go_wp2_with fail
      refine HM0.out.mono ?_; rintro e _ ⟨rfl, rfl⟩
      go_wp2_with fail
      refine HN0.out.mono ?_; rintro e w6 ⟨⟨l6, rfl, hW6, hK6⟩ | ⟨l6, rfl⟩, hB6⟩
      rotate_left
      · go_wp2_with fail
        exact ⟨rfl, .inr ⟨by rw [HF5.out _ (by rw [HBn.out]; simp only [List.length_append, List.length_cons, List.length_nil]; omega) l6]; omega, by rw [HF5.out _ (by rw [HBn.out]; simp only [List.length_append, List.length_cons, List.length_nil]; omega) l6]⟩, hEw5.then hB6 (Nat.le_refl _)⟩
      have hEw6 : Ext w w6 := hEw5.then hB6 (Nat.le_refl _)
      dsimp only at l6 hW6
      have hot : 0 ≤ ((optTtl ed : Nat) : Int) ∧ ((optTtl ed : Nat) : Int) ≤ 4294967295 := by
        have h1 := hwf.ext; have h2 := hwf.ver; have h3 := hwf.flags
        unfold optTtl; dsimp only at h1 h2 h3; omega
      have HFx := Lib.hid (wr_fixed w.heap.size g (D ++ [0]) T4 41 ed.size ((optTtl ed : Nat) : Int) w6 hW6 l6 (by omega) hwf.size hot)
      rw [Int.toNat_natCast, show (41 : Int).toNat = 41 from rfl] at HFx
      obtain ⟨FX, hFX⟩ : ∃ FX, FX = two 41 ++ two ed.size.toNat ++ four (optTtl ed) := ⟨_, rfl⟩
      rw [← hFX] at HFx HBn
      clear hFX hot
      go_wp2_with fail
      refine HFx.out.mono ?_; rintro e w7 ⟨⟨l7, rfl, hW7, hK7⟩ | ⟨l7, rfl⟩, hB7⟩
      rotate_left
      · go_wp2_with fail
        exact ⟨rfl, .inr ⟨by rw [HF5.out _ (by rw [HBn.out]; simp only [List.length_append, List.length_cons, List.length_nil]; omega) l7]; omega, by rw [HF5.out _ (by rw [HBn.out]; simp only [List.length_append, List.length_cons, List.length_nil]; omega) l7]⟩, hEw6.then hB7 (Nat.le_refl _)⟩
      have hEw7 : Ext w w7 := hEw6.then hB7 (Nat.le_refl _)
      dsimp only at l7 hW7
      have hs1 : IntKind.u16.wrap (OW.length : Int) = (OW.length : Int) := by have := Hl2.out; show (OW.length : Int) % 65536 = _; omega
      have hb7 : OW.length ≤ 140737488355328 := by have := Hl2.out; omega
      have HP1 := Lib.hid (cur_put2 0 none 0 [] (OW.length : Int) w7 (Rd.nil _ _ _ _) (by simp) (by have := Hl2.out; omega))
      rw [List.nil_append, Int.toNat_natCast] at HP1
      go_wp2_with fail
      refine HP1.out.mono ?_; rintro e w8 ⟨A8, c8, rfl, ho8, hE8⟩
      have HA8 := Lib.hid (wr_add w.heap.size g w7.heap.size (D ++ [0] ++ FX) (two OW.length) T4 A8 c8 w8 (hW7.ext hE8) ho8.rd l7)
      go_wp2_with fail
      refine HA8.out.mono ?_; rintro e w9 ⟨⟨l9, rfl, hW9, hK9⟩ | ⟨l9, rfl⟩, hB9⟩
      rotate_left
      · go_wp2_with fail
        exact ⟨rfl, .inr ⟨by rw [HF5.out _ (by rw [HBn.out]; simp only [List.length_append, List.length_cons, List.length_nil]; omega) l9]; omega, by rw [HF5.out _ (by rw [HBn.out]; simp only [List.length_append, List.length_cons, List.length_nil]; omega) l9]⟩, (hEw7.trans hE8).then hB9 (Nat.le_refl _)⟩
      have hEw9 : Ext w w9 := (hEw7.trans hE8).then hB9 (Nat.le_refl _)
      dsimp only at l9 hW9
      obtain ⟨C, cap, hcv, hoz⟩ := ownZ_conv w9 w.heap.size OW hEw9.size (by have := Hl2.out; omega)
      obtain ⟨W10, hW10⟩ : ∃ W, W = w9.drew.alloc (.cells C 5 (C.size, C.size + 1)) := ⟨_, rfl⟩
      rw [← hW10] at hcv hoz
      have hE10 : Ext w9 W10 := by rw [hW10]; exact ((Ext.refl _).drew).alloc _
      have HA10 := Lib.hid (wr_add w.heap.size g w.heap.size (D ++ [0] ++ FX ++ two OW.length) OW T4 (some ⟨w9.heap.size, 0, none⟩) cap W10 (hW9.ext hE10) hoz.rd l9)
      clear hW10 hoz
      go_wp2_with fail
      refine HA10.out.mono ?_; rintro e w11 ⟨⟨l11, rfl, hW11, hK11⟩ | ⟨l11, rfl⟩, hB11⟩
      rotate_left
      · go_wp2_with fail
        exact ⟨rfl, .inr ⟨by rw [HF5.out _ (by rw [HBn.out]; omega) l11]; omega, by rw [HF5.out _ (by rw [HBn.out]; omega) l11]⟩, (hEw9.trans hE10).then hB11 (Nat.le_refl _)⟩
      have hEw11 : Ext w w11 := (hEw9.trans hE10).then hB11 (Nat.le_refl _)
      dsimp only at l11 hW11
      obtain ⟨Z, hZ⟩ : ∃ Z, Z = D ++ [0] ++ FX ++ two OW.length ++ OW := ⟨_, rfl⟩
      rw [← hZ] at HBn l11 hW11
      obtain ⟨A, c, tp, hh, hlo, ho, ht⟩ := hW11
      have q0 : w11.cell? ⟨g, 0, none⟩ = some (.slice A Z.length c) := cell_of_row w11 _ 0 _ _ _ hh
      clear hh ht hcv hZ
      go_wp2_with fail
      go_ret
      exact ⟨.inl ⟨HF0.out (by rw [HBn.out]; exact l11), A, c, by rw [HBn.out]; rfl, by rw [HBn.out]; exact ho.rd⟩, hEw11⟩
end Go.Proofs.YtjmfpillnbnofaaDoor
namespace Go.Proofs.YtjmfpillnbnofaaDoor
set_option linter.unusedSimpArgs false
set_option linter.unusedVariables false
open Go.RowKit
set_option maxRecDepth 100000

theorem ta_nil (V : World) : (Instr.typeAssert .nilIface 20 83 true).run Tryd.prog V = .ok (.tuple #[.agg #[.int .i64 0], .bool false]) V := by
  first
  | kernel_rfl
  | (simp [Instr.typeAssert, go_sem]; done)
theorem ta_fault (k : Nat) (V : World) : (Instr.typeAssert (faultV k) 20 83 true).run Tryd.prog V = .ok (.tuple #[.agg #[.int .i64 k], .bool true]) V := by
  first
  | kernel_rfl
  | (simp [Instr.typeAssert, go_sem]; done)
set_option maxHeartbeats 1000000 in
/-- The deferred closure of a frame that returns. -/
theorem enc_idle (p q : Addr) (w : World) :
    CallsD Tryd.prog 24 #[.pointer (some p), .pointer (some q)] .returning w fun e u' w' => e = .returned (.tuple #[]) ∧ u' = .returning ∧ Ext w w' := by
  have hta := ta_nil
  refine callsD_of_wpS Tryd.func24 rfl fun c₀ cs hu => ?_
  apply wpS_seq
  apply wpS_region
  simp [wpOpsS, go_sem, recoverD, hu, hta, Tryd.ntmps24, Exit.thenS]
  apply wpS_seq
  apply wpS_region
  simp [wpOpsS, go_sem, Exit.thenS, Array.replicate]
  refine wpS_cond (t := false) (by simp [Act.eval, Array.replicate]) ?_
  simp only [Bool.false_eq_true, if_false]
  refine wpS_of_wp (wp_skip ?_)
  have hE : Ext w (w.alloc (.cells #[.int .i64 0] 83)) := (Ext.refl _).alloc _
  cases c₀
  simp_all [bodyPostS, results, Tryd.results24]
set_option maxHeartbeats 1000000 in
/-- The deferred closure of a frame that panics with a fault: the panic is met, the results are no bytes and the fault's number. -/
theorem enc_caught (p q k : Nat) (x y : Value) (older : List PanicEntry) (w : World) (hp : w.cell? ⟨p, 0, none⟩ = some x) (hq : w.cell? ⟨q, 0, none⟩ = some y) (fp : w.frozen? ⟨p, 0, none⟩ = false) (fq : w.frozen? ⟨q, 0, none⟩ = false) (hpq : p ≠ q) (hlp : p < w.heap.size) (hlq : q < w.heap.size) :
    CallsD Tryd.prog 24 #[.pointer (some ⟨p, 0, none⟩), .pointer (some ⟨q, 0, none⟩)] (.panicking ({ v := faultV k, recovered := false } :: older)) w fun e u' w' =>
      e = .returned (.tuple #[]) ∧ u' = .panicking ({ v := faultV k, recovered := true } :: older) ∧ ∃ V, Ext w V ∧ w' = (V.setCell ⟨p, 0, none⟩ (S [])).setCell ⟨q, 0, none⟩ (.int .i64 k) := by
  have hta := ta_fault k
  refine callsD_of_wpS Tryd.func24 rfl fun c₀ cs hu => ?_
  apply wpS_seq
  apply wpS_region
  simp [wpOpsS, go_sem, recoverD, hu, hta, Tryd.ntmps24, Exit.thenS]
  apply wpS_seq
  apply wpS_region
  simp [wpOpsS, go_sem, Exit.thenS, Array.replicate]
  refine wpS_cond (t := true) (by simp [Act.eval, Array.replicate]) ?_
  simp only [if_true]
  refine wpS_of_wp ?_
  obtain ⟨V, hV⟩ : ∃ V, V = w.alloc (.cells #[.int .i64 (k : Int)] 83) := ⟨_, rfl⟩
  have hE : Ext w V := by rw [hV]; exact (Ext.refl _).alloc _
  have hz : V.cell? ⟨w.heap.size, 0, none⟩ = some (.int .i64 (k : Int)) := by rw [hV]; simp
  have hp1 : V.cell? ⟨p, 0, none⟩ = some x := (hE.cell (p := ⟨p, 0, none⟩) hlp).trans hp
  have hq1 : V.cell? ⟨q, 0, none⟩ = some y := (hE.cell (p := ⟨q, 0, none⟩) hlq).trans hq
  have fp1 : V.frozen? ⟨p, 0, none⟩ = false := (hE.frozen (p := ⟨p, 0, none⟩) hlp).trans fp
  have fq1 : V.frozen? ⟨q, 0, none⟩ = false := (hE.frozen (p := ⟨q, 0, none⟩) hlq).trans fq
  have np : ¬ p = w.heap.size := by omega
  have np' : ¬ w.heap.size = p := by omega
  have nq : ¬ q = p := fun h => hpq h.symm
  rw [← hV]
  clear hV hp hq fp fq
  go_region
  refine ⟨rfl, _, rfl, .tuple #[], ?_, rfl, rfl, V.drew, hE.drew, rfl⟩
  simp [results, Tryd.results24]
theorem set_pair {V : World} {p : Nat} {a b : Value} {t t2 : TypeId} {m m2 : Nat × Nat} (h1 : V.heap[p]? = some (.cells #[a] t m)) (h2 : V.heap[p + 1]? = some (.cells #[b] t2 m2)) (x y : Value) :
    ((V.setCell ⟨p, 0, none⟩ x).setCell ⟨p + 1, 0, none⟩ y).cell? ⟨p, 0, none⟩ = some x ∧ ((V.setCell ⟨p, 0, none⟩ x).setCell ⟨p + 1, 0, none⟩ y).cell? ⟨p + 1, 0, none⟩ = some y := by
  have e1 := (Below.heap_setCell (V.setCell ⟨p, 0, none⟩ x) ⟨p + 1, 0, none⟩ y p (by dsimp only; omega)).trans (row_set h1 0 x)
  have e2 := row_set ((Below.heap_setCell V ⟨p, 0, none⟩ x (p + 1) (by dsimp only; omega)).trans h2) 0 y
  exact ⟨by simp [World.cell?, e1], by simp [World.cell?, e2]⟩
/-- What wire.Encode answers. -/
def EncPost (m : MsgD) (w : World) (e : Ending) (w' : World) : Prop := e = .returned (.tuple #[S (encOf m), .int .i64 (encErr m : Nat)]) ∧ Ext w w'
set_option maxHeartbeats 4000000 in
theorem wire_encode (m : MsgD) (q a u x o : Value) (w : World) (hg : Laid w) (hb : BitsAt w) (hwf : m.wf) (h : Msg7 w m q a u x o) :
    Calls Tryd.prog 14 #[msg7V m.hd q a u x m.he m.ed o] w (EncPost m w) := by
  obtain ⟨X0, hX0⟩ : ∃ X0, X0 = w.alloc (.cells #[.int .u16 m.hd.id, .bool m.hd.qr, .int .u8 m.hd.op, .bool m.hd.aa, .bool m.hd.tc, .bool m.hd.rd, .bool m.hd.ra, .bool m.hd.z, .bool m.hd.ad, .bool m.hd.cd, .int .u8 m.hd.code, q, a, u, x, .bool m.he, .int .u16 m.ed.size, .int .u8 m.ed.ext, .int .u8 m.ed.ver, .int .u16 m.ed.flags, o] 55) := ⟨_, rfl⟩
  have hmf : ∀ (fn : Fn) (first cap : Array Value) (w : World), (Instr.makeFunc fn first cap).run Tryd.prog w = .ok (.func fn first cap) w := fun _ _ _ _ => rfl
  have HW := Lib.hid (fun V (hV : Ext w V) => wire_write m q a u x o V (hg.ext hV) (hb.ext hV) hwf (h.ext hV))
  go_enter_defers Tryd.func14, Tryd.ntmps14
  go_upto_region 1 with fail
  rw [← hX0]
  have hw0 : Ext w X0 := by rw [hX0]; exact (Ext.refl _).alloc _
  have hs0 : X0.heap.size = w.heap.size + 1 := by rw [hX0]; simp
  have r0 : X0.heap[w.heap.size]? = some (.cells #[.int .u16 m.hd.id, .bool m.hd.qr, .int .u8 m.hd.op, .bool m.hd.aa, .bool m.hd.tc, .bool m.hd.rd, .bool m.hd.ra, .bool m.hd.z, .bool m.hd.ad, .bool m.hd.cd, .int .u8 m.hd.code, q, a, u, x, .bool m.he, .int .u16 m.ed.size, .int .u8 m.ed.ext, .int .u8 m.ed.ver, .int .u16 m.ed.flags, o] 55) := by rw [hX0]; exact heap_alloc_new _ _
  clear hX0
  obtain ⟨X2, hX2⟩ : ∃ X2, X2 = (X0.alloc (.cells #[.string ⟨#[]⟩] 9)).alloc (.cells #[.int .i64 0] 59) := ⟨_, rfl⟩
  rw [← hX2]
  obtain ⟨p, hp⟩ : ∃ p, p = w.heap.size + 1 := ⟨_, rfl⟩
  have hE02 : Ext X0 X2 := by rw [hX2]; exact ((Ext.refl _).alloc _).alloc _
  have rp : X2.heap[p]? = some (.cells #[.string ⟨#[]⟩] 9) := by
    rw [hX2, hp, ← hs0]
    have h1 : ((X0.alloc (.cells #[.string ⟨#[]⟩] 9))).heap[X0.heap.size]? = some (.cells #[.string ⟨#[]⟩] 9) := heap_alloc_new _ _
    rw [heap_alloc_old _ _ (Array.getElem?_eq_some_iff.1 h1).1]; exact h1
  have rq : X2.heap[p + 1]? = some (.cells #[.int .i64 0] 59) := by
    rw [hX2, hp, ← hs0]
    have h1 := heap_alloc_new (X0.alloc (.cells #[.string ⟨#[]⟩] 9)) (.cells #[.int .i64 0] 59)
    have h2 : (X0.alloc (.cells #[.string ⟨#[]⟩] 9)).heap.size = X0.heap.size + 1 := by simp
    rw [h2] at h1; exact h1
  have r2 := (hE02.block _ (Array.getElem?_eq_some_iff.1 r0).1).trans r0
  have hw2 : Ext w X2 := hw0.trans hE02
  have hpw : w.heap.size < p := by omega
  rw [← hp]
  clear hX2 hs0 hp r0
  go_wp2_with (first
    | (refine wpList_load_row (by rfl) 55 (.tmp 1) rfl w.heap.size rfl 55 _ _ _ r2 Tryd.underlying55 rfl (by kernel_rfl) ?_)
    | fail)
  refine (HW.out X2 hw2).mono ?_; rintro e w1 ⟨⟨he0, A, c, rfl, hr⟩ | ⟨he0, rfl⟩, hE1⟩
  · have hcv := conv_str c hr
    have rp1 := (hE1.block _ (Array.getElem?_eq_some_iff.1 rp).1).trans rp
    have rq1 := (hE1.block _ (Array.getElem?_eq_some_iff.1 rq).1).trans rq
    have c1 : w1.cell? ⟨p, 0, none⟩ = some (.string ⟨#[]⟩) := by simp [World.cell?, rp1]
    have c2 : w1.cell? ⟨p + 1, 0, none⟩ = some (.int .i64 0) := by simp [World.cell?, rq1]
    have f1 : w1.frozen? ⟨p, 0, none⟩ = false := by simp [World.frozen?, rp1]
    have f2 : w1.frozen? ⟨p + 1, 0, none⟩ = false := by simp [World.frozen?, rq1]
    have hsz := (Array.getElem?_eq_some_iff.1 rq1).1
    have hEy : Ext w ((w1.setCell ⟨p, 0, none⟩ (S (bodyW m).1)).setCell ⟨p + 1, 0, none⟩ (.int .i64 0)) := by
      refine Ext.setCell (Ext.setCell (hw2.trans hE1) ?_ _) ?_ _ <;> (dsimp only; omega)
    obtain ⟨y1, y2⟩ := set_pair rp1 rq1 (S (bodyW m).1) (.int .i64 0)
    have HE0 := Lib.hid (show encOf m = (bodyW m).1 by unfold encOf; rw [if_pos he0])
    have HE1 := Lib.hid he0
    clear he0
    go_wp2_with fail
    obtain ⟨Y, hY⟩ : ∃ Y, Y = (w1.setCell ⟨p, 0, none⟩ (S (bodyW m).1)).setCell ⟨p + 1, 0, none⟩ (.int .i64 0) := ⟨_, rfl⟩
    rw [← hY] at hEy y1 y2 ⊢
    clear hY
    refine leaves_cons (f := 24) (args := #[.pointer (some ⟨p, 0, none⟩), .pointer (some ⟨p + 1, 0, none⟩)]) (by simp) (by simp [go_sem]) ?_
    refine (enc_idle ⟨p, 0, none⟩ ⟨p + 1, 0, none⟩ Y).mono ?_
    rintro e u' w'' ⟨rfl, rfl, hE2⟩
    have z1 := (hE2.cell (spot_of y1).2).trans y1
    have z2 := (hE2.cell (spot_of y2).2).trans y2
    have hfin : EncPost m w (.returned (.tuple #[S (bodyW m).1, .int .i64 0])) w'' := ⟨by rw [HE0.out, HE1.out]; rfl, hEy.trans hE2⟩
    simp [Leaves, settle, results, Tryd.results14, go_sem, z1, z2]
    exact hfin
  · have rp1 := (hE1.block _ (Array.getElem?_eq_some_iff.1 rp).1).trans rp
    have rq1 := (hE1.block _ (Array.getElem?_eq_some_iff.1 rq).1).trans rq
    have c1 : w1.cell? ⟨p, 0, none⟩ = some (.string ⟨#[]⟩) := by simp [World.cell?, rp1]
    have c2 : w1.cell? ⟨p + 1, 0, none⟩ = some (.int .i64 0) := by simp [World.cell?, rq1]
    have f1 : w1.frozen? ⟨p, 0, none⟩ = false := by simp [World.frozen?, rp1]
    have f2 : w1.frozen? ⟨p + 1, 0, none⟩ = false := by simp [World.frozen?, rq1]
    have hp1 := (Array.getElem?_eq_some_iff.1 rp1).1
    have hq1 := (Array.getElem?_eq_some_iff.1 rq1).1
    have HE0 := Lib.hid (show encOf m = [] by unfold encOf; rw [if_neg he0])
    obtain ⟨k, hk⟩ : ∃ k, k = encErr m := ⟨_, rfl⟩
    rw [← hk]
    have HK := Lib.hid hk
    clear he0 hk
    go_wp2_with fail
    refine leaves_cons (f := 24) (args := #[.pointer (some ⟨p, 0, none⟩), .pointer (some ⟨p + 1, 0, none⟩)]) (by simp) (by simp [go_sem]) ?_
    refine (enc_caught p (p + 1) k _ _ [] w1 c1 c2 f1 f2 (by omega) hp1 hq1).mono ?_
    rintro e u' w'' ⟨rfl, rfl, V, hV, rfl⟩
    have hEy : Ext w ((V.setCell ⟨p, 0, none⟩ (S [])).setCell ⟨p + 1, 0, none⟩ (.int .i64 k)) := by
      refine Ext.setCell (Ext.setCell (hw2.trans (hE1.trans hV)) ?_ _) ?_ _ <;> (dsimp only; omega)
    obtain ⟨z1, z2⟩ := set_pair ((hV.block _ hp1).trans rp1) ((hV.block _ hq1).trans rq1) (S []) (.int .i64 (k : Int))
    obtain ⟨Y, hY⟩ : ∃ Y, Y = (V.setCell ⟨p, 0, none⟩ (S [])).setCell ⟨p + 1, 0, none⟩ (.int .i64 k) := ⟨_, rfl⟩
    rw [← hY] at hEy z1 z2 ⊢
    have hfin : EncPost m w (.returned (.tuple #[S [], .int .i64 k])) Y := ⟨by rw [HE0.out, HK.out]; first | done | rfl, hEy⟩
    simp [Leaves, settle, results, Tryd.results14, go_sem, z1, z2]
    exact hfin
end Go.Proofs.YtjmfpillnbnofaaDoor
namespace Go.Proofs.YtjmfpillnbnofaaDoor
set_option linter.unusedSimpArgs false
set_option linter.unusedVariables false
open Go.RowKit
set_option maxRecDepth 100000

/-- What wire.Size answers. -/
def SizPost (m : MsgD) (w : World) (e : Ending) (w' : World) : Prop := e = .returned (.tuple #[.int .i64 ((encOf m).length : Nat), .int .i64 (encErr m : Nat)]) ∧ Ext w w'
end Go.Proofs.YtjmfpillnbnofaaDoor
