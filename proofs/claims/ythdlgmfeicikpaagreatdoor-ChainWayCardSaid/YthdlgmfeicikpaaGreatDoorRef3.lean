/- The walk of hustingsref01.Compare. -/
import Derived.Test.YthdlgmfeicikpaaGreatDoorRef2
import Derived.Deep.RegionHeld3
import Derived.Deep.RegionWith
namespace Go.Proofs.YthdlgmfeicikpaaGreatDoor
set_option linter.unusedSimpArgs false
set_option linter.unusedVariables false
open Go.RowKit
set_option maxRecDepth 100000

abbrev bl (a b : List UInt8) : Bool := Op.bytesLess a b
/-- Labels compared, the last first (lists turned about). -/
def cmpRev : List (List UInt8) → List (List UInt8) → Int
  | [], [] => 0
  | [], _ :: _ => -1
  | _ :: _, [] => 1
  | a :: x, b :: y => if bl a b then -1 else if bl b a then 1 else cmpRev x y
/-- The order of two names. -/
def cmpN (a b : List UInt8) : Int :=
  match labelsOf a, labelsOf b with
  | some x, some y => cmpRev (x.map low).reverse (y.map low).reverse
  | _, _ => 0

theorem cmpRev_cons (a b : List UInt8) (x y : List (List UInt8)) : cmpRev (a :: x) (b :: y) = if bl a b then -1 else if bl b a then 1 else cmpRev x y := rfl
theorem bl_irr (a : List UInt8) : bl a a = false := by
  induction a with
  | nil => rfl
  | cons x a ih => simp only [bl, Op.bytesLess] at *; simp [ih]
theorem bl_asym (a b : List UInt8) (h : bl a b = true) : bl b a = false ∧ a ≠ b := by
  induction a generalizing b with
  | nil => cases b <;> simp_all [bl, Op.bytesLess]
  | cons x a ih =>
    cases b with
    | nil => simp [bl, Op.bytesLess] at h
    | cons y b =>
      simp only [bl, Op.bytesLess, Bool.or_eq_true, decide_eq_true_eq, Bool.and_eq_true, beq_iff_eq] at h
      rcases h with h | ⟨rfl, h⟩
      · have h1 : ¬ y < x := UInt8.lt_asymm h
        have h2 : y ≠ x := fun e => by subst e; exact (UInt8.lt_irrefl _) h
        refine ⟨?_, fun e => h2 (by injection e with e; exact e.symm)⟩
        simp [bl, Op.bytesLess, h1, h2]
      · obtain ⟨h1, h2⟩ := ih b h
        refine ⟨?_, fun e => h2 (by injection e)⟩
        simp [bl, Op.bytesLess] at h1 ⊢
        exact h1
theorem bl_total (a b : List UInt8) (h1 : bl a b = false) (h2 : bl b a = false) : a = b := by
  induction a generalizing b with
  | nil => cases b <;> simp_all [bl, Op.bytesLess]
  | cons x a ih =>
    cases b with
    | nil => simp [bl, Op.bytesLess] at h2
    | cons y b =>
      simp only [bl, Op.bytesLess, Bool.or_eq_false_iff, decide_eq_false_iff_not, Bool.and_eq_false_iff] at h1 h2
      have hxy : x = y := UInt8.le_antisymm (UInt8.not_lt.1 h2.1) (UInt8.not_lt.1 h1.1)
      subst hxy
      rw [ih b (by simpa using h1.2) (by simpa using h2.2)]

/-- What is left to compare, k labels from the end done. -/
theorem rev_drop (x : List (List UInt8)) (k : Nat) (h : k < x.length) : (x.map low).reverse.drop k = low (x[x.length - 1 - k]) :: (x.map low).reverse.drop (k + 1) := by
  rw [List.drop_eq_getElem_cons (by simp; exact h)]
  congr 1
  rw [List.getElem_reverse]
  simp

set_option maxHeartbeats 4000000 in
theorem ref_compare (a b : List UInt8) (w : World) (ha : a.length ≤ 1048576) (hb : b.length ≤ 1048576) :
    Calls Tryz.prog 77 #[S a, S b] w fun e w' => e = .returned (.int .i64 (cmpN a b)) ∧ Ext w w' := by
  have HA := Lib.hid (fun W => ref_labels a W ha)
  have HB := Lib.hid (fun W => ref_labels b W hb)
  have hN : cmpN a b = match labelsOf a, labelsOf b with | some x, some y => cmpRev (x.map low).reverse (y.map low).reverse | _, _ => 0 := rfl
  obtain ⟨R, hR⟩ : ∃ R, R = cmpN a b := ⟨_, rfl⟩
  rw [← hR]
  rw [← hR] at hN
  clear hR
  rcases hx : labelsOf a with _ | x
  · rw [hx] at HA hN
    have HN := Lib.hid (show R = 0 from hN)
    clear hN hx
    go_enter Tryz.func77, Tryz.ntmps77
    go_wp2_with fail
    refine (HA.out w).mono ?_; rintro e w1 ⟨v1, rfl, ho1, hE1⟩
    go_wp2_with fail
    refine (HB.out w1).mono ?_; rintro e w2 ⟨v2, rfl, ho2, hE2⟩
    simp only [Option.isSome_none, Option.isSome_some]
    go_wp2_with fail
    go_ret
    exact ⟨by rw [HN.out]; rfl, hE1.trans hE2⟩
  rcases hy : labelsOf b with _ | y
  · rw [hy] at HB hN
    rw [hx] at HA hN
    have HN := Lib.hid (show R = 0 from hN)
    clear hN hx hy
    go_enter Tryz.func77, Tryz.ntmps77
    go_wp2_with fail
    refine (HA.out w).mono ?_; rintro e w1 ⟨v1, rfl, ho1, hE1⟩
    go_wp2_with fail
    refine (HB.out w1).mono ?_; rintro e w2 ⟨v2, rfl, ho2, hE2⟩
    simp only [Option.isSome_none, Option.isSome_some]
    go_wp2_with fail
    go_ret
    exact ⟨by rw [HN.out]; rfl, hE1.trans hE2⟩
  have hxl := labels_len hx
  have hyl := labels_len hy
  have hxb := (labels_bytes hx).2.2
  have hyb := (labels_bytes hy).2.2
  rw [hy] at HB hN
  rw [hx] at HA hN
  have HN := Lib.hid (show R = cmpRev (x.map low).reverse (y.map low).reverse from hN)
  clear hN hx hy
  go_enter Tryz.func77, Tryz.ntmps77
  go_wp2_with fail
  refine (HA.out w).mono ?_; rintro e w1 ⟨v1, rfl, ho1, hE1⟩
  go_wp2_with fail
  refine (HB.out w1).mono ?_; rintro e w2 ⟨v2, rfl, ho2, hE2⟩
  dsimp only [Option.isSome, Option.getD] at ho1 ho2 ⊢
  obtain ⟨A1, c1, rfl, ho1'⟩ := ho1.ext hE2
  obtain ⟨A2, c2, rfl, ho2'⟩ := ho2
  have hr1 := ho1'.rd
  have hr2 := ho2'.rd
  clear ho1 ho1' ho2'
  go_wp2_with fail
  go_loopw [9] (fun i wr => ∃ k : Nat, k ≤ x.length ∧ k ≤ y.length ∧ i = .int .i64 ((k : Int) + 1) ∧ R = cmpRev ((x.map low).reverse.drop k) ((y.map low).reverse.drop k) ∧ Ext w2 wr) (fun i _ => x.length + 1 - (intOf i).toNat)
  case atStart => exact ⟨0, by omega, by omega, rfl, by rw [HN.out]; rfl, Ext.refl _⟩
  case round =>
    obtain ⟨k, hk1, hk2, rfl, hrel, hE⟩ := hrel
    obtain ⟨wo, rfl⟩ : ∃ wo : World, wo = wr := ⟨_, rfl⟩
    have HR := Lib.hid hrel
    clear hrel HN
    by_cases hl1 : k < x.length
    · by_cases hl2 : k < y.length
      · obtain ⟨bx, ox, rfl, _, hbx, hcx⟩ := hr1.2 (by omega)
        obtain ⟨by_, oy, rfl, _, hby, hcy⟩ := hr2.2 (by omega)
        have cx := hcx (x.length - 1 - k) (S x[x.length - 1 - k]) (by simp)
        have cy := hcy (y.length - 1 - k) (S y[y.length - 1 - k]) (by simp)
        rw [← hE.cell (p := ⟨bx, _, none⟩) hbx] at cx
        rw [← hE.cell (p := ⟨by_, _, none⟩) hby] at cy
        have Hd1 := Lib.hid (rev_drop x k hl1)
        have Hd2 := Lib.hid (rev_drop y k hl2)
        have hsx := (hxb x[x.length - 1 - k] (List.getElem_mem _)).2
        have hsy := (hyb y[y.length - 1 - k] (List.getElem_mem _)).2
        generalize x[x.length - 1 - k] = s at *
        generalize y[y.length - 1 - k] = t at *
        have hbx2 : bx < wo.heap.size := Nat.lt_of_lt_of_le hbx hE.size
        have hby2 : by_ < wo.heap.size := Nat.lt_of_lt_of_le hby hE.size
        rw [show x.length - 1 - k = x.length - (k + 1) by omega] at cx
        rw [show y.length - 1 - k = y.length - (k + 1) by omega] at cy
        clear hcx hcy hr1 hr2
        go_wp2_with fail
        have p1 : IntKind.i64.wrap ((x.length : Int) - ((k : Int) + 1)) = (x.length : Int) - ((k : Int) + 1) := IntWalk.i64_in _ (by omega)
        have p2 : (0 : Int) ≤ (x.length : Int) - ((k : Int) + 1) := by omega
        have p3 : (x.length : Int) - ((k : Int) + 1) < (x.length : Int) := by omega
        have p4 : ((x.length : Int) - ((k : Int) + 1)).toNat = x.length - (k + 1) := by omega
        have q1 : IntKind.i64.wrap ((y.length : Int) - ((k : Int) + 1)) = (y.length : Int) - ((k : Int) + 1) := IntWalk.i64_in _ (by omega)
        have q2 : (0 : Int) ≤ (y.length : Int) - ((k : Int) + 1) := by omega
        have q3 : (y.length : Int) - ((k : Int) + 1) < (y.length : Int) := by omega
        have q4 : ((y.length : Int) - ((k : Int) + 1)).toNat = y.length - (k + 1) := by omega
        have ss : s.length ≤ 1048576 := by omega
        have tt : t.length ≤ 1048576 := by omega
        go_region_held3 (fun W => W.cell? ⟨bx, ox + (x.length - (k + 1)), none⟩ = some (S s) ∧ W.cell? ⟨by_, oy + (y.length - (k + 1)), none⟩ = some (S t)) (first | exact ⟨cx, cy⟩ | exact ⟨(hE3.cell (p := ⟨bx, _, none⟩) hbx2).trans cx, (hE3.cell (p := ⟨by_, _, none⟩) hby2).trans cy⟩ | exact ⟨(hE4.cell (p := ⟨bx, _, none⟩) (Nat.lt_of_lt_of_le hbx2 hE3.size)).trans ((hE3.cell (p := ⟨bx, _, none⟩) hbx2).trans cx), (hE4.cell (p := ⟨by_, _, none⟩) (Nat.lt_of_lt_of_le hby2 hE3.size)).trans ((hE3.cell (p := ⟨by_, _, none⟩) hby2).trans cy)⟩) (first | (go_at_call_of 75 (S s); refine (ref_low s _ ss).mono ?_; rintro e w3 ⟨rfl, hE3⟩) | (go_at_call_of 75 (S t); refine (ref_low t _ tt).mono ?_; rintro e w4 ⟨rfl, hE4⟩))
        have hE34 : Ext w2 w4 := hE.trans ((Ext.of_drewN 1 hE3).trans hE4)
        clear p1 p2 p3 p4 q1 q2 q3 q4
        rw [Hd1.out, Hd2.out] at HR
        generalize low s = ls at *
        generalize low t = lt at *
        by_cases h1 : Op.bytesLess ls lt = true
        · have HF := Lib.hid (show R = -1 by rw [HR.out, cmpRev_cons, if_pos h1])
          go_wp2_with fail
          go_ret
          exact ⟨by rw [HF.out]; rfl, (hE1.trans hE2).trans hE34⟩
        · have h1' : Op.bytesLess ls lt = false := by simpa using h1
          clear h1
          by_cases h2 : Op.bytesLess lt ls = true
          · have HF := Lib.hid (show R = 1 by rw [HR.out, cmpRev_cons, if_neg (by simp [bl, h1']), if_pos h2])
            have h3 : (ls == lt) = false := by rw [beq_eq_false_iff_ne]; exact fun e => (bl_asym _ _ h2).2 e.symm
            clear h2
            go_wp2_with fail
            go_ret
            exact ⟨by rw [HF.out]; rfl, (hE1.trans hE2).trans hE34⟩
          · have h2' : Op.bytesLess lt ls = false := by simpa using h2
            have HF := Lib.hid (show R = cmpRev ((x.map low).reverse.drop (k + 1)) ((y.map low).reverse.drop (k + 1)) by rw [HR.out, cmpRev_cons, if_neg (by simp [bl, h1']), if_neg h2])
            have h3 : (ls == lt) = true := by rw [beq_iff_eq]; exact bl_total _ _ h1' h2'
            clear h2 h2'
            go_wp2_with fail
            go_roundw
            case rel => exact ⟨k + 1, by omega, by omega, by go_num, HF.out, hE34⟩
            case measure => simp [intOf]; omega
      · have hl3 : (y.length : Int) < (k : Int) + 1 := by omega
        have hl4 : k = y.length := by omega
        have HF := Lib.hid (show R = 1 by
          rw [HR.out, show (y.map low).reverse.drop k = [] from List.drop_of_length_le (by simp; omega), rev_drop x k hl1]; rfl)
        clear hl4 HR
        go_wp2_with fail
        go_ret
        exact ⟨by rw [HF.out]; rfl, (hE1.trans hE2).trans hE⟩
    · have hl3 : (x.length : Int) < (k : Int) + 1 := by omega
      by_cases hl2 : k < y.length
      · have HF := Lib.hid (show R = -1 by
          rw [HR.out, show (x.map low).reverse.drop k = [] from List.drop_of_length_le (by simp; omega), rev_drop y k hl2]; rfl)
        clear HR
        have hl5 : x.length < y.length := by omega
        go_wp2_with fail
        go_ret
        exact ⟨by rw [HF.out]; rfl, (hE1.trans hE2).trans hE⟩
      · have HF := Lib.hid (show R = 0 by
          rw [HR.out, show (x.map low).reverse.drop k = [] from List.drop_of_length_le (by simp; omega), show (y.map low).reverse.drop k = [] from List.drop_of_length_le (by simp; omega)]; rfl)
        clear HR
        have hl5 : ¬ x.length < y.length := by omega
        have hl6 : ¬ y.length < x.length := by omega
        go_wp2_with fail
        go_ret
        exact ⟨by rw [HF.out]; rfl, (hE1.trans hE2).trans hE⟩
end Go.Proofs.YthdlgmfeicikpaaGreatDoor
