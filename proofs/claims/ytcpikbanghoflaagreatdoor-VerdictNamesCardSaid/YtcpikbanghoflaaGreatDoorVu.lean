/- Contracts of functions and plain lemmas that the proofs of this seat share (joined texts). No condition. -/
import Derived.Test.YtcpikbanghoflaaGreatDoorVs
import Derived.Test.YtcpikbanghoflaaGreatDoorVj
import Derived.Test.YtcpikbanghoflaaGreatDoorVu0
import Derived.Test.YtcpikbanghoflaaGreatDoorVg
import Derived.Deep.DeepCutAuto
namespace Go.Proofs.YtcpikbanghoflaaGreatDoor
set_option linter.unusedSimpArgs false
set_option linter.unusedVariables false
open Go.RowKit
theorem find_in {l : List SetD} {n : List UInt8} {k c : Int} {s : SetD} (h : findS l n k c = some s) : s ∈ l := List.mem_of_find?_eq_some h
theorem best_in {l : List SetD} {n : List UInt8} {cls : Int} : ∀ {k : Nat} {b : Nat × SetD}, bestTo l n cls k = some b → b.2 ∈ l ∧ fitsB n cls b.2 = true
  | 0, b, h => by cases h
  | k + 1, b, h => by
    unfold bestTo at h
    rcases hk : l[k]? with _ | s
    · rw [hk] at h; exact best_in h
    · rw [hk] at h
      dsimp only at h
      rcases hb : bestTo l n cls k with _ | c
      · rw [hb] at h
        dsimp only at h
        split at h
        · injection h with h; subst h; exact ⟨List.mem_of_getElem? hk, ‹_›⟩
        · cases h
      · rw [hb] at h
        dsimp only at h
        split at h
        · rename_i hc
          rw [Bool.and_eq_true] at hc
          injection h with h; subst h; exact ⟨List.mem_of_getElem? hk, hc.1⟩
        · exact best_in (hb.trans h)
theorem soa_mem {l : List SetD} {n : List UInt8} {cls : Int} {s : SetD} (h : (soaFind l n cls).set = some s) : s ∈ l ∧ fitsB n cls s = true ∧ s.data.length = 1 := by
  unfold soaFind soaOf at h
  rcases hb : bestTo l n cls l.length with _ | ⟨j, x⟩
  · rw [hb] at h; cases h
  · rw [hb] at h
    dsimp only at h
    split at h
    · injection h with h; subst h; exact ⟨(best_in hb).1, (best_in hb).2, ‹_›⟩
    · cases h
structure FolIn (l : List SetD) (R : FolR) : Prop where
  path : ∀ s ∈ R.path, s ∈ l
  len : R.path.length ≤ 8
  fin : ∀ s ∈ R.fin, s ∈ l
  one : R.fin.length ≤ 1
theorem FolIn.bad (l : List SetD) (e : Nat) : FolIn l (FolR.bad e) := ⟨by simp [FolR.bad], by simp [FolR.bad], by simp [FolR.bad], by simp [FolR.bad]⟩
theorem FolIn.ok (l : List SetD) (here : List UInt8) (ty cls : Int) (path : List SetD) (h : ∀ s ∈ path, s ∈ l) (h8 : path.length ≤ 8) : FolIn l ⟨path, here, (findS l here ty cls).toList, 0⟩ :=
  ⟨h, h8, fun s hs => by
    rcases hf : findS l here ty cls with _ | x
    · rw [hf] at hs; cases hs
    · rw [hf] at hs
      rw [Option.toList_some, List.mem_singleton] at hs
      subst hs; exact find_in hf, by cases findS l here ty cls <;> simp⟩
theorem followF_in (l : List SetD) (ty cls : Int) : ∀ (n : Nat) (here : List UInt8) (seen : List (List UInt8)) (path : List SetD), (∀ s ∈ path, s ∈ l) → path.length ≤ 8 → FolIn l (followF l ty cls n here seen path)
  | 0, _, _, _, _, _ => FolIn.bad l 0
  | n + 1, here, seen, path, h, h8 => by
    simp only [followF]
    split
    · exact FolIn.ok l here ty cls path h h8
    · split
      · exact FolIn.ok l here ty cls path h h8
      · rename_i a hf
        split
        · exact FolIn.bad l 5
        · rename_i hp
          split
          · exact FolIn.bad l 3
          · split
            · exact FolIn.bad l 3
            · split
              · exact FolIn.bad l 8
              · refine followF_in l ty cls n _ _ _ (fun s hs => ?_) (by rw [List.length_append, List.length_singleton]; omega)
                rcases List.mem_append.1 hs with h' | h'
                · exact h s h'
                · rw [List.mem_singleton] at h'; subst h'; exact find_in hf
theorem follow_in (l : List SetD) (n : List UInt8) (ty cls : Int) : FolIn l (followOf n ty cls l) := by
  unfold followOf
  split
  · exact followF_in l ty cls 9 _ _ _ (by simp) (by simp)
  · exact FolIn.bad l 1
end Go.Proofs.YtcpikbanghoflaaGreatDoor
namespace Go.Proofs.YtcpikbanghoflaaGreatDoor
set_option linter.unusedSimpArgs false
set_option linter.unusedVariables false
open Go.RowKit
set_option maxRecDepth 100000
set_option maxHeartbeats 2000000 in
theorem ref11_same (lo lo' : Nat) (ca cb : Int) (u1 v1 u2 v2 : Value) (sa oa sb ob : List SetD) (w : World) (h1 : Sets w lo u1 sa) (h2 : Sets w lo v1 oa) (h3 : Sets w lo' u2 sb) (h4 : Sets w lo' v2 ob) :
    Calls Tryz.prog 9 #[.agg #[.int .u8 ca, u1, v1], .agg #[.int .u8 cb, u2, v2]] w fun e w' => e = .returned (.bool (verSame ca sa oa cb sb ob)) ∧ Ext w w' := by
  have HA := Lib.hid (fun W (hW : Ext w W) => ref_sameAll sa sb u1 u2 _ _ W (h1.ext hW) (h3.ext hW))
  have HB := Lib.hid (fun W (hW : Ext w W) => ref_sameAll oa ob v1 v2 _ _ W (h2.ext hW) (h4.ext hW))
  obtain ⟨p1, A1, c1, _, rfl, _⟩ := h1
  obtain ⟨p2, A2, c2, _, rfl, _⟩ := h2
  obtain ⟨p3, A3, c3, _, rfl, _⟩ := h3
  obtain ⟨p4, A4, c4, _, rfl, _⟩ := h4
  have HR : Hid (verSame ca sa oa cb sb ob = (decide (ca = cb) && (decide (sa = sb) && decide (oa = ob)))) := rfl
  generalize verSame ca sa oa cb sb ob = R at *
  generalize decide (sa = sb) = B1 at *
  generalize decide (oa = ob) = B2 at *
  have kc := fun (W : World) (a b : Array Value) => ext_new_at W.heap.size rfl ((Ext.refl (W.alloc (.cells a 44))).alloc (.cells b 44))
  have kd := fun (W : World) (a b : Array Value) => ext_new_at (W.heap.size + 1) (by simp) (Ext.refl ((W.alloc (.cells a 44)).alloc (.cells b 44)))
  obtain ⟨X, hX⟩ : ∃ X, X = (w.alloc (.cells #[.int .u8 ca, .slice A1 p1.length c1, .slice A2 p2.length c2] 44)).alloc (.cells #[.int .u8 cb, .slice A3 p3.length c3, .slice A4 p4.length c4] 44) := ⟨_, rfl⟩
  have hwX : Ext w X := by rw [hX]; exact ((Ext.refl _).alloc _).alloc _
  obtain ⟨ka, _, za⟩ := kc w #[.int .u8 ca, .slice A1 p1.length c1, .slice A2 p2.length c2] #[.int .u8 cb, .slice A3 p3.length c3, .slice A4 p4.length c4]
  obtain ⟨kb, _, zb⟩ := kd w #[.int .u8 ca, .slice A1 p1.length c1, .slice A2 p2.length c2] #[.int .u8 cb, .slice A3 p3.length c3, .slice A4 p4.length c4]
  rw [← hX] at ka za kb zb
  clear kc kd
  by_cases hc : ca = cb
  rotate_left
  · have f1 : (ca == cb) = false := by rw [beq_eq_false_iff_ne]; exact hc
    have HF := Lib.hid (show R = false by rw [HR.out, decide_eq_false hc]; rfl)
    clear hc
    go_enter Tryz.func9, Tryz.ntmps9
    go_upto_region 1 with fail
    rw [← hX]
    clear hX
    go_wp2_with fail
    go_ret
    exact ⟨ret_bool HF.out.symm, hwX⟩
  have f1 : (ca == cb) = true := by rw [beq_iff_eq]; exact hc
  have HF := Lib.hid (show R = (B1 && B2) by rw [HR.out, decide_eq_true hc]; rfl)
  clear hc
  rcases B1 with _ | _
  · have HF2 := Lib.hid (show R = false from HF.out)
    go_enter Tryz.func9, Tryz.ntmps9
    go_upto_region 1 with fail
    rw [← hX]
    clear hX
    go_wp2_with fail
    refine (HA.out _ hwX).mono ?_; rintro e w1 ⟨rfl, hE1⟩
    go_wp2_with fail
    go_ret
    exact ⟨ret_bool HF2.out.symm, hwX.trans hE1⟩
  · have HF2 := Lib.hid (show R = B2 from HF.out)
    go_enter Tryz.func9, Tryz.ntmps9
    go_upto_region 1 with fail
    rw [← hX]
    clear hX
    go_wp2_with fail
    refine (HA.out _ hwX).mono ?_; rintro e w1 ⟨rfl, hE1⟩
    have ka1 : ∀ j, w1.cell? ⟨w.heap.size, j, none⟩ = _ := fun j => (hE1.cell (p := ⟨w.heap.size, j, none⟩) za).trans (ka j)
    have kb1 : ∀ j, w1.cell? ⟨w.heap.size + 1, j, none⟩ = _ := fun j => (hE1.cell (p := ⟨w.heap.size + 1, j, none⟩) zb).trans (kb j)
    clear ka kb
    go_wp2_with fail
    refine (HB.out _ (hwX.trans hE1)).mono ?_; rintro e w2 ⟨rfl, hE2⟩
    go_wp2_with fail
    go_ret
    exact ⟨ret_bool HF2.out.symm, (hwX.trans hE1).trans hE2⟩
end Go.Proofs.YtcpikbanghoflaaGreatDoor
