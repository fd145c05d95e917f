/- The walks of rrset.Find and chain.target. -/
import Derived.Test.YthdlgmfeicikpaaGreatDoorSets1
import Derived.Test.YthdlgmfeicikpaaGreatDoorName1
namespace Go.Proofs.YthdlgmfeicikpaaGreatDoor
set_option linter.unusedSimpArgs false
set_option linter.unusedVariables false
open Go.RowKit
set_option maxRecDepth 100000

def hitS (n : List UInt8) (kind cls : Int) (s : SetD) : Bool := s.typ == kind && s.cls == cls && sameN s.name n
/-- The first set of a list by name, type and class. -/
def findS (l : List SetD) (n : List UInt8) (kind cls : Int) : Option SetD := l.find? (hitS n kind cls)

def FindPost (r : Option SetD) (w : World) (e : Ending) (w' : World) : Prop :=
  ∃ d, e = .returned (.tuple #[setVal (r.getD SetD.zero) d, .bool r.isSome]) ∧ OStrs w' w.heap.size d (r.getD SetD.zero).data ∧ Ext w w'

/-- The cells of set k. -/
theorem sets_cells {w : World} {b off : Nat} {ps : List (SetD × Value)} (hc : ∀ j u, (ps.flatMap setCells)[j]? = some u → w.cell? ⟨b, off + j, none⟩ = some u) (k : Nat) (p : SetD × Value) (hp : ps[k]? = some p) :
    w.cell? ⟨b, off + k * 5, none⟩ = some (S p.1.name) ∧ w.cell? ⟨b, off + k * 5 + 1, none⟩ = some (.int .u16 p.1.typ) ∧ w.cell? ⟨b, off + k * 5 + 2, none⟩ = some (.int .u16 p.1.cls) ∧ w.cell? ⟨b, off + k * 5 + 3, none⟩ = some (.int .u32 p.1.ttl) ∧ w.cell? ⟨b, off + k * 5 + 4, none⟩ = some p.2 := by
  refine ⟨?_, ?_, ?_, ?_, ?_⟩
  · exact hc (k * 5 + 0) _ (flat_get setCells 5 (fun _ => rfl) ps k 0 p hp (by omega))
  · rw [Nat.add_assoc]; exact hc (k * 5 + 1) _ (flat_get setCells 5 (fun _ => rfl) ps k 1 p hp (by omega))
  · rw [Nat.add_assoc]; exact hc (k * 5 + 2) _ (flat_get setCells 5 (fun _ => rfl) ps k 2 p hp (by omega))
  · rw [Nat.add_assoc]; exact hc (k * 5 + 3) _ (flat_get setCells 5 (fun _ => rfl) ps k 3 p hp (by omega))
  · rw [Nat.add_assoc]; exact hc (k * 5 + 4) _ (flat_get setCells 5 (fun _ => rfl) ps k 4 p hp (by omega))

theorem Strs.shape {w : World} {lo : Nat} {v : Value} {l : List (List UInt8)} (h : Strs w lo v l) : ∃ A c, v = .slice A l.length c := by
  obtain ⟨A, c, e, _⟩ := h; exact ⟨A, c, e⟩
theorem find_step {α : Type} (f : α → Bool) (l : List α) (k : Nat) (h : k < l.length) (hn : (l.take k).find? f = none) : (f l[k] = true → l.find? f = some l[k]) ∧ (f l[k] = false → (l.take (k + 1)).find? f = none) := by
  constructor
  · intro ht
    conv => lhs; rw [← List.take_append_drop k l]
    rw [List.find?_append, hn, List.drop_eq_getElem_cons h, List.find?_cons_of_pos ht]; rfl
  · intro hf
    rw [take_snoc l k h, List.find?_append, hn]
    simp [hf]

/-- What bounds a list of sets. -/
def SetsBd (l : List SetD) : Prop := ∀ s ∈ l, s.name.length ≤ 1048576 ∧ s.data.length ≤ 65536 ∧ ∀ d ∈ s.data, d.length ≤ 1048576

set_option maxHeartbeats 2000000 in
theorem rrset_find (lo : Nat) (v : Value) (l : List SetD) (n : List UInt8) (kind cls : Int) (w : World) (h : Sets w lo v l) (hbd : SetsBd l) (hn : n.length ≤ 1048576) :
    Calls Tryz.prog 17 #[v, S n, .int .u16 kind, .int .u16 cls] w (FindPost (findS l n kind cls) w) := by
  obtain ⟨ps, A, c, hl, rfl, h1, h2, hrd, hst⟩ := h
  have hn' : n.length ≤ maxLen := by unfold maxLen; omega
  unfold maxLen at h2
  have hlen : ps.length = l.length := by rw [← hl]; simp
  obtain ⟨R, hR⟩ : ∃ R, R = findS l n kind cls := ⟨_, rfl⟩
  rw [← hR]
  have HR := Lib.hid hR
  have Hl := Lib.hid hl
  have Hlen := Lib.hid hlen
  clear hR hl hlen
  go_enter Tryz.func17, Tryz.ntmps17
  go_wp2
  go_loopw [14] (fun i wr => ∃ k : Nat, k ≤ ps.length ∧ i = .int .i64 k ∧ (l.take k).find? (hitS n kind cls) = none ∧ Ext (w.alloc (.cells #[S [], .int .u16 0, .int .u16 0, .int .u32 0, .slice none 0 0] 27)) wr) (fun i _ => ps.length - (intOf i).toNat)
  case atStart => exact ⟨0, by omega, rfl, rfl, Ext.refl _⟩
  case round =>
    obtain ⟨k, hk, rfl, hno, hE⟩ := hrel
    obtain ⟨wo, rfl⟩ : ∃ wo : World, wo = wr := ⟨_, rfl⟩
    have Hno := Lib.hid hno
    clear hno
    obtain ⟨hq, hqf, hqz⟩ := ext_new hE
    have hEw : Ext w wo := ((Ext.refl w).alloc _).trans hE
    by_cases hlt : k < ps.length
    · have hlt' : k < l.length := by rw [← Hlen.out]; exact hlt
      have hp : ps[k]? = some ps[k] := List.getElem?_eq_getElem hlt
      have hpl : l[k] = ps[k].1 := by simp [← Hl.out]
      have hfs := find_step (hitS n kind cls) l k hlt' Hno.out
      rw [hpl] at hfs
      have hbs := hbd l[k] (List.getElem_mem hlt')
      rw [hpl] at hbs
      have hstr := hst ps[k] (List.getElem_mem hlt)
      generalize ps[k] = p at *
      obtain ⟨b, off, rfl, _, hbz, hc⟩ := hrd.2 (by omega)
      obtain ⟨c0, c1, c2, c3, c4⟩ := sets_cells hc k p hp
      rw [← hEw.cell (p := ⟨b, _, none⟩) hbz] at c0 c1 c2 c3 c4
      have hbz2 : b < wo.heap.size := Nat.lt_of_lt_of_le hbz hEw.size
      have Hfs := Lib.hid hfs
      have hnm : p.1.name.length ≤ maxLen := by unfold maxLen; omega
      clear hc hp hrd hfs hpl hst
      obtain ⟨⟨nm, ty, cl, tt, da⟩, d⟩ := p
      dsimp only at *
      obtain ⟨dA, dc, rfl⟩ := hstr.shape
      by_cases hty : ty = kind
      · subst hty
        by_cases hcl : cl = cls
        · subst hcl
          have Hhit := Lib.hid (show hitS n ty cl ⟨nm, ty, cl, tt, da⟩ = sameN nm n by simp [hitS])
          by_cases hsm : sameN nm n = true
          · have HF := Lib.hid (HR.out.trans (Hfs.out.1 (by rw [Hhit.out]; exact hsm)))
            go_wp2_with fail
            refine (name_same nm n _ hnm hn').mono ?_; rintro e w2 ⟨rfl, hE2⟩
            rw [hsm]
            obtain ⟨hr, hrf, hrz⟩ := ext_new hE2
            go_wp2_with fail
            refine (sl_clone lo _ da w2 ((hstr.ext hEw).ext ((((Ext.refl _).alloc _).trans hE2))) hbs.2.1).mono ?_; rintro e w3 ⟨v3, rfl, ho3, hE3⟩
            obtain ⟨A5, c5, rfl, ho5⟩ := ho3
            have hEb := hE2.trans hE3
            have hEr := (hE.alloc (.cells #[S nm, .int .u16 ty, .int .u16 cl, .int .u32 tt, .slice dA da.length dc] 27)).trans hEb
            obtain ⟨hb3, hbf3, hbz3⟩ := ext_new hEb
            obtain ⟨hr3, hrf3, hrz3⟩ := ext_new hEr
            clear hr hrf hrz hq hqf hqz
            have hne : w.heap.size < wo.heap.size := Nat.lt_of_lt_of_le (by simp) hE.size
            go_wp2_with fail
            refine bodyPost_ret (v := .tuple #[setVal ⟨nm, ty, cl, tt, da⟩ (.slice A5 da.length c5), .bool true]) ?_ rfl ?_
            · simp [results, Tryz.results17, go_sem, hr3, hrf3, hrz3]
            · refine ⟨_, by rw [HF.out]; rfl, ?_, ?_⟩
              · rw [HF.out]
                refine ⟨A5, c5, rfl, Own.lower (lo := w2.heap.size) ?_ (by have := hE2.size; simp at this; omega)⟩
                have hz2 : wo.heap.size < w2.heap.size := by have := hE2.size; simp at this; omega
                repeat (with_reducible refine Own.set_other ?_ ?hp _; case hp => (simp <;> omega))
                exact ho5
              · have hEw3 : Ext w w3 := ((Ext.refl w).alloc _).trans hEr
                (repeat (first | with_reducible exact Ext.refl _ | with_reducible assumption | with_reducible refine Ext.alloc ?_ _ | with_reducible refine Ext.drewN ?_ _ | with_reducible refine Ext.drew ?_ | (with_reducible refine Ext.setCell ?_ ?hp _; case hp => (simp <;> omega))))
          · have HF := Lib.hid (Hfs.out.2 (by rw [Hhit.out]; simpa using hsm))
            have hsm' : sameN nm n = false := by simpa using hsm
            clear hsm
            go_wp2_with fail
            refine (name_same nm n _ hnm hn').mono ?_; rintro e w2 ⟨rfl, hE2⟩
            rw [hsm']
            go_wp2_with fail
            go_roundw
            case rel => exact ⟨k + 1, by omega, by go_num, HF.out, (hE.alloc _).trans hE2⟩
            case measure => simp [intOf]; omega
        · have HF := Lib.hid (Hfs.out.2 (by simp [hitS, hcl]))
          have f1 : (cl == cls) = false := by rw [beq_eq_false_iff_ne]; exact hcl
          clear hcl
          go_wp2_with fail
          go_roundw
          case rel => exact ⟨k + 1, by omega, by go_num, HF.out, hE.alloc _⟩
          case measure => simp [intOf]; omega
      · have HF := Lib.hid (Hfs.out.2 (by simp [hitS, hty]))
        have f1 : (ty == kind) = false := by rw [beq_eq_false_iff_ne]; exact hty
        clear hty
        go_wp2_with fail
        go_roundw
        case rel => exact ⟨k + 1, by omega, by go_num, HF.out, hE.alloc _⟩
        case measure => simp [intOf]; omega
    · have HF : Hid (R = none) := by
        have := Hno.out
        rw [List.take_of_length_le (by rw [← Hlen.out]; omega)] at this
        rw [HR.out]; exact this
      go_wp2_with fail
      refine bodyPost_ret (v := .tuple #[setVal SetD.zero (.slice none 0 0), .bool false]) (by simp [results, Tryz.results17, go_sem, hq, hqf, hqz, SetD.zero]) rfl ?_
      refine ⟨_, by rw [HF.out]; rfl, ?_, ?_⟩
      · rw [HF.out]; exact ⟨none, 0, rfl, Own.nil _ _ _ _⟩
      · (repeat (first | with_reducible exact Ext.refl _ | with_reducible assumption | with_reducible refine Ext.alloc ?_ _ | with_reducible refine Ext.drewN ?_ _ | with_reducible refine Ext.drew ?_ | (with_reducible refine Ext.setCell ?_ ?hp _; case hp => (simp <;> omega))))
end Go.Proofs.YthdlgmfeicikpaaGreatDoor
