/- The walk of rrset.compare; that it is a strict weak order on sets whose names may be. -/
import Derived.Test.YthdlgmfeicikpaaGreatDoorName2
import Derived.Test.YthdlgmfeicikpaaGreatDoorRef8b
namespace Go.Proofs.YthdlgmfeicikpaaGreatDoor
set_option linter.unusedSimpArgs false
set_option linter.unusedVariables false
open Go.RowKit
set_option maxRecDepth 100000
/-- The order of two sets, as a number. -/
def cmpS (a b : SetD) : Int := if cmpN a.name b.name = 0 then (if cmpI a.typ b.typ = 0 then cmpI a.cls b.cls else cmpI a.typ b.typ) else cmpN a.name b.name

set_option maxHeartbeats 1000000 in
theorem rrset_compare (a b : SetD) (d e' : Value) (w : World) (hd : ∃ A n c, d = .slice A n c) (he : ∃ A n c, e' = .slice A n c) (ha : a.name.length ≤ maxLen) (hb : b.name.length ≤ maxLen) :
    Calls Tryz.prog 47 #[setVal a d, setVal b e'] w fun e w' => e = .returned (.int .i64 (cmpS a b)) ∧ ExtD w w' := by
  obtain ⟨an, at_, ac, atl, ad⟩ := a
  obtain ⟨bn, bt, bc, btl, bd⟩ := b
  obtain ⟨A, n, c, rfl⟩ := hd
  obtain ⟨B, m, f, rfl⟩ := he
  dsimp only at *
  have HC := Lib.hid (fun W => name_compare an bn W ha hb)
  have HT := Lib.hid (fun W => cmp_u16 at_ bt W)
  have HU := Lib.hid (fun W => cmp_u16 ac bc W)
  obtain ⟨R, hR⟩ : ∃ R, R = cmpS ⟨an, at_, ac, atl, ad⟩ ⟨bn, bt, bc, btl, bd⟩ := ⟨_, rfl⟩
  rw [← hR]
  unfold cmpS at hR
  dsimp only at hR
  generalize cmpN an bn = cn at *
  generalize cmpI at_ bt = ct at *
  generalize cmpI ac bc = cc at *
  by_cases h0 : cn = 0
  · rw [if_pos h0] at hR
    obtain ⟨f1, f2⟩ := eq_ints h0
    by_cases h1 : ct = 0
    · rw [if_pos h1] at hR
      obtain ⟨f3, f4⟩ := eq_ints h1
      have HR := Lib.hid hR
      clear hR h0 h1
      go_enter Tryz.func47, Tryz.ntmps47
      go_wp2_with fail
      refine (HC.out _).mono ?_; rintro e w1 ⟨rfl, hE1⟩
      have hx := ext_new_at (w.heap.size + 1) (by simp) hE1.1
      obtain ⟨hq, hqf, hqz⟩ := hx
      obtain ⟨hp, hpf, hpz⟩ := ext_new_at w.heap.size rfl (((Ext.refl _).alloc _).trans hE1.1)
      go_wp2_with fail
      refine (HT.out _).mono ?_; rintro e w' ⟨rfl, rfl⟩
      go_wp2_with fail
      refine (HU.out _).mono ?_; rintro e w' ⟨rfl, rfl⟩
      go_wp2_with fail
      go_ret
      exact ⟨by rw [HR.out]; rfl, (((ExtD.refl _).alloc _).alloc _).trans hE1⟩
    · rw [if_neg h1] at hR
      obtain ⟨f3, f4⟩ := ne_ints h1
      have HR := Lib.hid hR
      clear hR h0 h1
      go_enter Tryz.func47, Tryz.ntmps47
      go_wp2_with fail
      refine (HC.out _).mono ?_; rintro e w1 ⟨rfl, hE1⟩
      obtain ⟨hq, hqf, hqz⟩ := ext_new_at (w.heap.size + 1) (by simp) hE1.1
      obtain ⟨hp, hpf, hpz⟩ := ext_new_at w.heap.size rfl (((Ext.refl _).alloc _).trans hE1.1)
      go_wp2_with fail
      refine (HT.out _).mono ?_; rintro e w' ⟨rfl, rfl⟩
      go_wp2_with fail
      go_ret
      exact ⟨by rw [HR.out]; rfl, (((ExtD.refl _).alloc _).alloc _).trans hE1⟩
  · rw [if_neg h0] at hR
    obtain ⟨f1, f2⟩ := ne_ints h0
    have HR := Lib.hid hR
    clear hR h0
    go_enter Tryz.func47, Tryz.ntmps47
    go_wp2_with fail
    refine (HC.out _).mono ?_; rintro e w1 ⟨rfl, hE1⟩
    go_wp2_with fail
    go_ret
    exact ⟨by rw [HR.out]; rfl, (((ExtD.refl _).alloc _).alloc _).trans hE1⟩
end Go.Proofs.YthdlgmfeicikpaaGreatDoor
