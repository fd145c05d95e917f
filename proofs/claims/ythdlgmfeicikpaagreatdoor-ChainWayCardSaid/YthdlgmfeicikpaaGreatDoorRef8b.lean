/- The walks of hustingsref08: Before, Find, Same, SameAll. -/
import Derived.Test.YthdlgmfeicikpaaGreatDoorRef8a
namespace Go.Proofs.YthdlgmfeicikpaaGreatDoor
set_option linter.unusedSimpArgs false
set_option linter.unusedVariables false
open Go.RowKit
set_option maxRecDepth 100000

/-- Is a set ahead of another? -/
def beforeS (a b : SetD) : Bool := if cmpN a.name b.name = 0 then (if a.typ = b.typ then decide (a.cls < b.cls) else decide (a.typ < b.typ)) else decide (cmpN a.name b.name < 0)
theorem ne_ints {x y : Int} (h : x ≠ y) : (x == y) = false ∧ (x != y) = true := by
  have : (x == y) = false := by rw [beq_eq_false_iff_ne]; exact h
  exact ⟨this, by rw [bne, this]; rfl⟩
theorem eq_ints {x y : Int} (h : x = y) : (x == y) = true ∧ (x != y) = false := by
  have : (x == y) = true := by rw [beq_iff_eq]; exact h
  exact ⟨this, by rw [bne, this]; rfl⟩

theorem ext_new_at {w w' : World} {cs : Array Value} {t : TypeId} (g : Nat) (hg : g = w.heap.size) (hE : Ext (w.alloc (.cells cs t)) w') : (∀ j, w'.cell? ⟨g, j, none⟩ = cs[j]?) ∧ (∀ j, w'.frozen? ⟨g, j, none⟩ = false) ∧ g < w'.heap.size := by
  subst hg; exact ext_new hE

set_option maxHeartbeats 1000000 in
theorem ref_before (a b : SetD) (d e' : Value) (lo lo' : Nat) (w : World) (hd : Strs w lo d a.data) (he : Strs w lo' e' b.data) (ha : a.name.length ≤ 1048576) (hb : b.name.length ≤ 1048576) :
    Calls Tryz.prog 58 #[setVal a d, setVal b e'] w fun e w' => e = .returned (.bool (beforeS a b)) ∧ Ext w w' := by
  obtain ⟨an, at_, ac, atl, ad⟩ := a
  obtain ⟨bn, bt, bc, btl, bd⟩ := b
  dsimp only at *
  obtain ⟨dA, dc, rfl⟩ := hd.shape
  obtain ⟨eA, ec, rfl⟩ := he.shape
  clear hd he
  have HC := Lib.hid (fun W => ref_compare an bn W ha hb)
  obtain ⟨R, hR⟩ : ∃ R, R = beforeS ⟨an, at_, ac, atl, ad⟩ ⟨bn, bt, bc, btl, bd⟩ := ⟨_, rfl⟩
  rw [← hR]
  unfold beforeS at hR
  dsimp only at hR
  generalize cmpN an bn = c at *
  by_cases h0 : c = 0
  · rw [if_pos h0] at hR
    subst h0
    by_cases h1 : at_ = bt
    · rw [if_pos h1] at hR
      have HR := Lib.hid hR
      obtain ⟨f1, f2⟩ := eq_ints h1
      subst h1
      clear hR
      go_enter Tryz.func58, Tryz.ntmps58
      go_wp2_with fail
      refine (HC.out _).mono ?_; rintro e w1 ⟨rfl, hE1⟩
      obtain ⟨hq, hqf, hqz⟩ := ext_new_at (w.heap.size + 1) (by simp) hE1
      obtain ⟨hp, hpf, hpz⟩ := ext_new_at w.heap.size rfl (((Ext.refl _).alloc _).trans hE1)
      go_wp2_with fail
      go_ret
      exact ⟨ret_bool HR.out.symm, (((Ext.refl _).alloc _).alloc _).trans hE1⟩
    · rw [if_neg h1] at hR
      have HR := Lib.hid hR
      obtain ⟨f1, f2⟩ := ne_ints h1
      clear hR h1
      go_enter Tryz.func58, Tryz.ntmps58
      go_wp2_with fail
      refine (HC.out _).mono ?_; rintro e w1 ⟨rfl, hE1⟩
      obtain ⟨hq, hqf, hqz⟩ := ext_new_at (w.heap.size + 1) (by simp) hE1
      obtain ⟨hp, hpf, hpz⟩ := ext_new_at w.heap.size rfl (((Ext.refl _).alloc _).trans hE1)
      go_wp2_with fail
      go_ret
      exact ⟨ret_bool HR.out.symm, (((Ext.refl _).alloc _).alloc _).trans hE1⟩
  · rw [if_neg h0] at hR
    have HR := Lib.hid hR
    obtain ⟨f1, f2⟩ := ne_ints h0
    clear hR h0
    go_enter Tryz.func58, Tryz.ntmps58
    go_wp2_with fail
    refine (HC.out _).mono ?_; rintro e w1 ⟨rfl, hE1⟩
    go_wp2_with fail
    go_ret
    exact ⟨ret_bool HR.out.symm, (((Ext.refl _).alloc _).alloc _).trans hE1⟩

def FindRPost (lo : Nat) (r : Option SetD) (w0 w : World) (e : Ending) (w' : World) : Prop :=
  ∃ d, e = .returned (.tuple #[setVal (r.getD SetD.zero) d, .bool r.isSome]) ∧ Strs w0 lo d (r.getD SetD.zero).data ∧ Ext w w'

set_option maxHeartbeats 2000000 in
theorem ref_find (lo : Nat) (v : Value) (l : List SetD) (n : List UInt8) (kind cls : Int) (w0 w : World) (h : Sets w0 lo v l) (hE0 : Ext w0 w) (hbd : SetsBd l) (hn : n.length ≤ 1048576) :
    Calls Tryz.prog 18 #[v, S n, .int .u16 kind, .int .u16 cls] w (FindRPost lo (findS l n kind cls) w0 w) := by
  obtain ⟨ps, A, c, hl, rfl, h1, h2, hrd0, hst⟩ := h
  have hrd := hrd0.ext hE0
  clear hrd0
  unfold maxLen at h2
  have hlen : ps.length = l.length := by rw [← hl]; simp
  obtain ⟨R, hR⟩ : ∃ R, R = findS l n kind cls := ⟨_, rfl⟩
  rw [← hR]
  have HR := Lib.hid hR
  have Hl := Lib.hid hl
  have Hlen := Lib.hid hlen
  clear hR hl hlen
  go_enter Tryz.func18, Tryz.ntmps18
  go_wp2
  go_loopw [10] (fun i wr => ∃ k : Nat, k ≤ ps.length ∧ i = .int .i64 k ∧ (l.take k).find? (hitS n kind cls) = none ∧ Ext (w.alloc (.cells #[S [], .int .u16 0, .int .u16 0, .int .u32 0, .slice none 0 0] 27)) wr) (fun i _ => ps.length - (intOf i).toNat)
  case atStart => exact ⟨0, by omega, rfl, rfl, Ext.refl _⟩
  case round =>
    obtain ⟨k, hk, rfl, hno, hE⟩ := hrel
    obtain ⟨wo, rfl⟩ : ∃ wo : World, wo = wr := ⟨_, rfl⟩
    have Hno := Lib.hid hno
    clear hno
    have hEw : Ext w wo := ((Ext.refl w).alloc _).trans hE
    by_cases hlt : k < ps.length
    · have hlt' : k < l.length := by rw [← Hlen.out]; exact hlt
      have hp : ps[k]? = some ps[k] := List.getElem?_eq_getElem hlt
      have hpl : l[k] = ps[k].1 := by simp [← Hl.out]
      have hfs := find_step (hitS n kind cls) l k hlt' Hno.out
      rw [hpl] at hfs
      have hbs := hbd l[k] (List.getElem_mem hlt')
      rw [hpl] at hbs
      have hstr := hst ps[k] (List.getElem_mem hlt)
      generalize ps[k] = p at *
      obtain ⟨b, off, rfl, _, hbz, hc⟩ := hrd.2 (by omega)
      have hcs := sets_cells hc k p hp
      have hbz2 : b < wo.heap.size := Nat.lt_of_lt_of_le hbz hEw.size
      have Hfs := Lib.hid hfs
      clear hc hp hrd hfs hpl hst
      obtain ⟨⟨nm, ty, cl, tt, da⟩, d⟩ := p
      dsimp only at *
      obtain ⟨dA, dc, rfl⟩ := hstr.shape
      obtain ⟨c0, c1, c2, c3, c4⟩ := hcs
      rw [← hEw.cell (p := ⟨b, _, none⟩) hbz] at c0
      by_cases hsm : sameN nm n = true
      · have HN2 := fun W => ref_same nm n W hbs.1 hn
        rw [hsm] at HN2
        have HN := Lib.hid HN2
        clear HN2
        by_cases hty : ty = kind
        · subst hty
          by_cases hcl : cl = cls
          · subst hcl
            have HF := Lib.hid (HR.out.trans (Hfs.out.1 (by simp [hitS, hsm])))
            go_wp2_with fail
            refine (HN.out _).mono ?_; rintro e w2 ⟨rfl, hE2⟩
            have hE2w := hEw.trans hE2
            rw [← hE2w.cell (p := ⟨b, _, none⟩) hbz] at c1 c2 c3 c4
            have c0' := (hE2.cell (p := ⟨b, _, none⟩) hbz2).trans c0
            obtain ⟨hq, hqf, hqz⟩ := ext_new (hE.trans hE2)
            have hbz3 : b < w2.heap.size := Nat.lt_of_lt_of_le hbz2 hE2.size
            have hbne : b < w.heap.size := hbz
            clear c0
            go_wp2_with fail
            refine bodyPost_ret (v := .tuple #[setVal ⟨nm, ty, cl, tt, da⟩ (.slice dA da.length dc), .bool true]) ?_ rfl ?_
            · simp [results, Tryz.results18, go_sem, hq, hqf, hqz]
            · refine ⟨_, by rw [HF.out]; rfl, ?_, ?_⟩
              · rw [HF.out]
                exact hstr
              · (repeat (first | with_reducible exact Ext.refl _ | with_reducible assumption | with_reducible refine Ext.alloc ?_ _ | with_reducible refine Ext.drewN ?_ _ | with_reducible refine Ext.drew ?_ | (with_reducible refine Ext.setCell ?_ ?hp _; case hp => (simp <;> omega))))
          · have HF := Lib.hid (Hfs.out.2 (by simp [hitS, hcl]))
            have f1 : (cl == cls) = false := by rw [beq_eq_false_iff_ne]; exact hcl
            clear hcl
            go_wp2_with fail
            refine (HN.out _).mono ?_; rintro e w2 ⟨rfl, hE2⟩
            have hE2w := hEw.trans hE2
            rw [← hE2w.cell (p := ⟨b, _, none⟩) hbz] at c1 c2
            go_wp2_with fail
            go_roundw
            case rel => exact ⟨k + 1, by omega, by go_num, HF.out, hE.trans hE2⟩
            case measure => simp [intOf]; omega
        · have HF := Lib.hid (Hfs.out.2 (by simp [hitS, hty]))
          have f1 : (ty == kind) = false := by rw [beq_eq_false_iff_ne]; exact hty
          clear hty
          go_wp2_with fail
          refine (HN.out _).mono ?_; rintro e w2 ⟨rfl, hE2⟩
          have hE2w := hEw.trans hE2
          rw [← hE2w.cell (p := ⟨b, _, none⟩) hbz] at c1
          go_wp2_with fail
          go_roundw
          case rel => exact ⟨k + 1, by omega, by go_num, HF.out, hE.trans hE2⟩
          case measure => simp [intOf]; omega
      · have hsm' : sameN nm n = false := by simpa using hsm
        have HN2 := fun W => ref_same nm n W hbs.1 hn
        rw [hsm'] at HN2
        have HN := Lib.hid HN2
        have HF := Lib.hid (Hfs.out.2 (by simp [hitS, hsm']))
        clear HN2 hsm
        go_wp2_with fail
        refine (HN.out _).mono ?_; rintro e w2 ⟨rfl, hE2⟩
        go_wp2_with fail
        go_roundw
        case rel => exact ⟨k + 1, by omega, by go_num, HF.out, hE.trans hE2⟩
        case measure => simp [intOf]; omega
    · have HF : Hid (R = none) := by
        have := Hno.out
        rw [List.take_of_length_le (by rw [← Hlen.out]; omega)] at this
        rw [HR.out]; exact this
      obtain ⟨hq, hqf, hqz⟩ := ext_new hE
      go_wp2_with fail
      refine bodyPost_ret (v := .tuple #[setVal SetD.zero (.slice none 0 0), .bool false]) (by simp [results, Tryz.results18, go_sem, hq, hqf, hqz, SetD.zero]) rfl ?_
      refine ⟨_, by rw [HF.out]; rfl, ?_, ?_⟩
      · rw [HF.out]; exact ⟨none, 0, rfl, by simp [SetD.zero], by unfold maxLen; omega, Rd.nil _ _ _ _⟩
      · (repeat (first | with_reducible exact Ext.refl _ | with_reducible assumption | with_reducible refine Ext.alloc ?_ _ | with_reducible refine Ext.drewN ?_ _ | with_reducible refine Ext.drew ?_ | (with_reducible refine Ext.setCell ?_ ?hp _; case hp => (simp <;> omega))))
end Go.Proofs.YthdlgmfeicikpaaGreatDoor
