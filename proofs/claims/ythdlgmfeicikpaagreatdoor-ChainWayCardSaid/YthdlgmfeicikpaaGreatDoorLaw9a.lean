/- The walks of hustingslaw09: letter, of, alias, address, told, large. -/
import Derived.Test.YthdlgmfeicikpaaGreatDoorGrp2
import Derived.Test.YthdlgmfeicikpaaGreatDoorChain1
namespace Go.Proofs.YthdlgmfeicikpaaGreatDoor
set_option linter.unusedSimpArgs false
set_option linter.unusedVariables false
open Go.RowKit
set_option maxRecDepth 100000

def letterL (c : UInt8) : List UInt8 := if c = 0 then [0] else [1, c, 0]
def aliasR (c d : UInt8) : RecD := ⟨letterL c, 5, 1, 0, letterL d⟩
def addrR (c : UInt8) : RecD := ⟨letterL c, 1, 1, 0, [10, 0, 0, 1]⟩

theorem law_letter (c : UInt8) (x : Int) (w : World) (hx : x = c.toNat) :
    Calls Tryz.prog 63 #[.int .u8 x] w fun e w' => e = .returned (S (letterL c)) ∧ Ext w w' := by
  by_cases h0 : c = 0
  · subst h0
    obtain rfl : x = 0 := hx
    go_enter Tryz.func63, Tryz.ntmps63
    go_wp2
    go_ret
    exact ⟨rfl, Ext.refl _⟩
  · have hne : c.toNat ≠ 0 := fun h => h0 (UInt8.toNat_inj.1 (by simpa using h))
    have f1 : (x == 0) = false := by rw [beq_eq_false_iff_ne]; omega
    have hL : letterL c = [1, c, 0] := if_neg h0
    rw [hL]
    have hconv := conv_str (w := w.alloc (.cells #[.int .u8 1, .int .u8 x, .int .u8 0] 5)) (lo := w.heap.size) (n := 3) (A := some ⟨w.heap.size, 0, none⟩) 3 (l := [1, c, 0]) (by
      refine ⟨rfl, fun _ => ⟨w.heap.size, 0, rfl, Nat.le_refl _, by simp, fun j u hu => ?_⟩⟩
      subst hx
      rcases j with _ | _ | _ | j
      · simp at hu; subst hu; simp
      · simp at hu; subst hu; simp
      · simp at hu; subst hu; simp
      · simp at hu)
    clear hx h0 hne hL
    go_enter Tryz.func63, Tryz.ntmps63
    go_wp2
    go_ret
    exact ⟨rfl, (Ext.refl _).alloc _⟩

theorem law_of (c : UInt8) (x k : Int) (w : World) (hx : x = c.toNat) :
    Calls Tryz.prog 60 #[.int .u8 x, .int .u16 k] w fun e w' => e = .returned (.agg #[S (letterL c), .int .u16 k, .int .u16 1]) ∧ Ext w w' := by
  have HL := Lib.hid (fun W => law_letter c x W hx)
  clear hx
  go_enter Tryz.func60, Tryz.ntmps60
  go_wp2_with fail
  refine (HL.out _).mono ?_; rintro e w1 ⟨rfl, hE1⟩
  obtain ⟨hq, hqf, hqz⟩ := ext_new hE1
  go_wp2_with fail
  refine bodyPost_ret (v := .agg #[S (letterL c), .int .u16 k, .int .u16 1]) ?_ rfl ⟨rfl, ?_⟩
  · simp [results, Tryz.results60, go_sem, hq, hqf, hqz]
  · have hEw : Ext w w1 := ((Ext.refl _).alloc _).trans hE1
    (repeat (first | with_reducible exact Ext.refl _ | with_reducible assumption | with_reducible refine Ext.alloc ?_ _ | with_reducible refine Ext.drewN ?_ _ | with_reducible refine Ext.drew ?_ | (with_reducible refine Ext.setCell ?_ ?hp _; case hp => (simp <;> omega))))

theorem law_alias (c d : UInt8) (x y : Int) (w : World) (hx : x = c.toNat) (hy : y = d.toNat) :
    Calls Tryz.prog 61 #[.int .u8 x, .int .u8 y] w fun e w' => e = .returned (recVal (aliasR c d)) ∧ Ext w w' := by
  have HL := Lib.hid (fun W => law_letter c x W hx)
  have HM := Lib.hid (fun W => law_letter d y W hy)
  clear hx hy
  go_enter Tryz.func61, Tryz.ntmps61
  go_wp2_with fail
  refine (HL.out _).mono ?_; rintro e w1 ⟨rfl, hE1⟩
  go_wp2_with fail
  refine (HM.out _).mono ?_; rintro e w2 ⟨rfl, hE2⟩
  obtain ⟨hq, hqf, hqz⟩ := ext_new (hE1.trans hE2)
  have hEw : Ext w w2 := ((Ext.refl _).alloc _).trans (hE1.trans hE2)
  clear hE1 hE2
  go_wp2_with fail
  refine bodyPost_ret (v := recVal (aliasR c d)) ?_ rfl ⟨rfl, ?_⟩
  · simp [results, Tryz.results61, go_sem, hq, hqf, hqz, aliasR]
  · (repeat (first | with_reducible exact Ext.refl _ | with_reducible assumption | with_reducible refine Ext.alloc ?_ _ | with_reducible refine Ext.drewN ?_ _ | with_reducible refine Ext.drew ?_ | (with_reducible refine Ext.setCell ?_ ?hp _; case hp => (simp <;> omega))))

theorem law_address (c : UInt8) (x : Int) (w : World) (hx : x = c.toNat) :
    Calls Tryz.prog 62 #[.int .u8 x] w fun e w' => e = .returned (recVal (addrR c)) ∧ Ext w w' := by
  have HL := Lib.hid (fun W => law_letter c x W hx)
  clear hx
  go_enter Tryz.func62, Tryz.ntmps62
  go_wp2_with fail
  refine (HL.out _).mono ?_; rintro e w2 ⟨rfl, hE2⟩
  obtain ⟨hq, hqf, hqz⟩ := ext_new hE2
  have hEw : Ext w w2 := ((Ext.refl _).alloc _).trans hE2
  clear hE2
  go_wp2_with fail
  refine bodyPost_ret (v := recVal (addrR c)) ?_ rfl ⟨rfl, ?_⟩
  · simp [results, Tryz.results62, go_sem, hq, hqf, hqz, addrR]
  · (repeat (first | with_reducible exact Ext.refl _ | with_reducible assumption | with_reducible refine Ext.alloc ?_ _ | with_reducible refine Ext.drewN ?_ _ | with_reducible refine Ext.drew ?_ | (with_reducible refine Ext.setCell ?_ ?hp _; case hp => (simp <;> omega))))
end Go.Proofs.YthdlgmfeicikpaaGreatDoor
