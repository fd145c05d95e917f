/- The walk of hustingslaw09.large. -/
import Derived.Test.YthdlgmfeicikpaaGreatDoorGrp2
import Derived.Test.YthdlgmfeicikpaaGreatDoorOpen
namespace Go.Proofs.YthdlgmfeicikpaaGreatDoor
set_option linter.unusedSimpArgs false
set_option linter.unusedVariables false
open Go.RowKit
set_option maxRecDepth 100000

def wght (r : RecD) : Nat := 12 + min 4000 r.name.length + min 4000 r.data.length
def wsum (l : List RecD) : Nat := (l.map wght).sum
def largeB (l : List RecD) : Bool := decide (4000 ≤ wsum l)
theorem wsum_snoc (l : List RecD) (x : RecD) : wsum (l ++ [x]) = wsum l + wght x := by simp [wsum]
theorem wsum_take (l : List RecD) (k : Nat) : wsum (l.take k) ≤ wsum l := by
  have h : wsum (l.take k ++ l.drop k) = wsum (l.take k) + wsum (l.drop k) := by simp only [wsum, List.map_append, List.sum_append]
  rw [List.take_append_drop] at h
  omega
theorem wsum_mem {l : List RecD} {x : RecD} (h : x ∈ l) : wght x ≤ wsum l := by
  induction l with
  | nil => simp at h
  | cons a l ih =>
    simp only [wsum, List.map_cons, List.sum_cons]
    rcases List.mem_cons.1 h with rfl | h
    · omega
    · have := ih h; unfold wsum at this; omega
theorem wsum_len (l : List RecD) : 12 * l.length ≤ wsum l := by
  induction l with
  | nil => simp
  | cons a l ih =>
    simp only [wsum, List.map_cons, List.sum_cons, List.length_cons] at *
    unfold wght at *
    omega
theorem recsBd_of {l : List RecD} (h : largeB l = false) : RecsBd l := by
  have h1 : ¬ 4000 ≤ wsum l := of_decide_eq_false h
  have h2 := wsum_len l
  refine ⟨by omega, fun r hr => ?_⟩
  have h3 := wsum_mem hr
  unfold wght at h3
  omega
theorem int_eq {k : IntKind} {a b : Int} (h : a = b) : Value.int k a = Value.int k b := by rw [h]

set_option maxHeartbeats 2000000 in
theorem law_large (lo : Nat) (v : Value) (l : List RecD) (w : World) (h : Recs w lo v l) (hok : ∀ r ∈ l, RecOk r) :
    Calls Tryz.prog 36 #[v] w fun e w' => e = .returned (.bool (largeB l)) ∧ Ext w w' := by
  obtain ⟨A, c, rfl, h1, h2, hrd⟩ := h
  unfold maxLen at h2
  obtain ⟨B, hB⟩ : ∃ B, B = largeB l := ⟨_, rfl⟩
  rw [← hB]
  have HB := Lib.hid hB
  clear hB
  go_enter Tryz.func36, Tryz.ntmps36
  go_wp2_with fail
  go_loopw [3, 4] (fun n i wr => ∃ k q : Nat, k ≤ l.length ∧ i = .int .i64 k ∧ n = .int .i64 (wsum (l.take k)) ∧ wsum (l.take k) ≤ 12012 ∧ wr = w.drewN q) (fun _ i _ => l.length - (intOf i).toNat)
  case atStart => exact ⟨0, 0, by omega, rfl, rfl, by simp [wsum], rfl⟩
  case round =>
    obtain ⟨k, q, hk, rfl, rfl, hs, rfl⟩ := hrel
    have hst := wsum_take l k
    by_cases hlt : k < l.length
    · obtain ⟨b, off, rfl, _, hbz, hc⟩ := hrd.2 (by omega)
      have hcs := recs_cells hc k l[k] (List.getElem?_eq_getElem hlt)
      have hx := hok l[k] (List.getElem_mem hlt)
      have HT := Lib.hid (show wsum (l.take (k + 1)) = wsum (l.take k) + wght l[k] by rw [take_snoc l k hlt, wsum_snoc])
      generalize l[k] = x at *
      generalize wsum (l.take k) = s at *
      obtain ⟨nm, ty, cl, tt, da⟩ := x
      obtain ⟨x0, x1, x2, x3, x4⟩ := hcs
      unfold RecOk maxLen at hx
      dsimp only at *
      obtain ⟨hn1, hd1, _⟩ := hx
      have hki : (k : Int) < (l.length : Int) := by omega
      have hk0 : (0 : Int) ≤ (k : Int) := by omega
      clear hc
      by_cases hs4 : s < 4000
      · have hsi : (s : Int) < 4000 := by omega
        go_wp2_with fail
        go_quiet (fail)
        go_wp2_with fail
        go_roundw
        case rel => exact ⟨k + 1, _, by omega, by go_num, by rw [HT.out]; unfold wght; dsimp only; exact int_eq (by omega), by rw [HT.out]; unfold wght; dsimp only; omega, rfl⟩
        case measure => simp [intOf]; omega
      · have hsi : decide ((s : Int) < 4000) = false := by simp; omega
        have HF : Hid (B = true) := by show B = true; rw [HB.out]; unfold largeB; simp; omega
        have hge : (4000 : Int) ≤ (s : Int) := by omega
        go_wp2_with fail
        go_ret
        exact ⟨ret_bool HF.out.symm, (Ext.refl w).drewN q⟩
    · have e1 : l.take k = l := List.take_of_length_le (by omega)
      rw [e1] at *
      have HF : Hid (B = decide ((4000 : Int) ≤ (wsum l : Int))) := by show B = _; rw [HB.out]; unfold largeB; simp; omega
      go_wp2_with fail
      go_ret
      exact ⟨ret_bool HF.out.symm, (Ext.refl w).drewN q⟩
end Go.Proofs.YthdlgmfeicikpaaGreatDoor
