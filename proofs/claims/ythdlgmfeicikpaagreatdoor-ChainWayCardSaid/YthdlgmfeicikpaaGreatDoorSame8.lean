/- rrset.Group's contract in the document's words; the walk of rrset.Same. -/
import Derived.Test.YthdlgmfeicikpaaGreatDoorRr2
import Derived.Test.YthdlgmfeicikpaaGreatDoorPlFin
namespace Go.Proofs.YthdlgmfeicikpaaGreatDoor
set_option linter.unusedSimpArgs false
set_option linter.unusedVariables false
open Go.RowKit
set_option maxRecDepth 100000

theorem rrset_groupR (lo : Nat) (v : Value) (l : List RecD) (w : World) (hg : Laid w) (h : Recs w lo v l) (hbd : RecsBd l) (hok : RecsOk l) :
    Calls Tryz.prog 22 #[v] w (GroupPost (groupR l) w) := by
  refine (rrset_group lo v l w hg h hbd hok).mono ?_
  rintro e w' ⟨v, R, rfl, hp, hr, ho, hE⟩
  have hR : R = groupR l := group_eq l 300000 (fun r hr => ⟨(hbd.2 r hr).2, hok r hr⟩) R hp hr
  subst hR
  exact ⟨v, rfl, ho, hE⟩

theorem strs_bytes (l : List (List UInt8)) (j : Nat) (h : j < l.length) : Value.string ((l.map fun x => ByteArray.mk x.toArray).getD j ByteArray.empty) = S l[j] := by simp [h]
theorem map_mk_inj {a b : List (List UInt8)} : (a.map fun x => ByteArray.mk x.toArray) = (b.map fun x => ByteArray.mk x.toArray) ↔ a = b := by
  constructor
  · intro h
    induction a generalizing b with
    | nil => cases b with
      | nil => rfl
      | cons y b => cases h
    | cons x a ih => cases b with
      | nil => cases h
      | cons y b =>
        simp only [List.map_cons, List.cons.injEq, ByteArray.mk.injEq] at h
        rw [ih h.2]
        have := h.1
        simp at this
        rw [this]
  · rintro rfl; rfl
theorem sl_equal (lo lo' : Nat) (u v : Value) (a b : List (List UInt8)) (w : World) (hu : Strs w lo u a) (hv : Strs w lo' v b) :
    Calls Tryz.prog 41 #[u, v] w fun e w' => e = .returned (.bool (decide (a = b))) ∧ Ext w w' := by
  obtain ⟨A, c, rfl, h1, h2, hr⟩ := hu
  obtain ⟨B, d, rfl, h3, h4, hs⟩ := hv
  by_cases h0 : a.length = 0
  · have : a = [] := List.eq_nil_of_length_eq_zero h0
    subst this
    refine (Tryz.slices_Equal_string_empty A B c b.length d w (by unfold maxLen at *; omega)).mono ?_
    rintro e w' ⟨rfl, rfl⟩
    refine ⟨?_, Ext.refl _⟩
    cases b <;> simp
  · by_cases hn : a.length = b.length
    · obtain ⟨b1, o1, rfl, _, _, hc1⟩ := hr.2 (by omega)
      obtain ⟨b2, o2, rfl, _, _, hc2⟩ := hs.2 (by omega)
      refine (Tryz.slices_Equal_string b1 o1 a.length c b2 o2 b.length d (a.map fun x => ByteArray.mk x.toArray) (b.map fun x => ByteArray.mk x.toArray) w (by simp) (by simp) (by unfold maxLen at *; omega) (by unfold maxLen at *; omega) (fun j hj => ?_) (fun j hj => ?_)).mono ?_
      · have hj' : j < a.length := by simpa using hj
        rw [strs_bytes a j hj']; exact hc1 j _ (by simp [hj'])
      · have hj' : j < b.length := by simpa using hj
        rw [strs_bytes b j hj']; exact hc2 j _ (by simp [hj'])
      · rintro e w' ⟨rfl, q, rfl⟩
        refine ⟨?_, (Ext.refl w).drewN q⟩
        rw [List.take_of_length_le (by simp), List.take_of_length_le (by simp)]
        congr 2
        exact decide_eq_decide.2 map_mk_inj
    · refine (Tryz.slices_Equal_string_lens A B a.length c b.length d w hn).mono ?_
      rintro e w' ⟨rfl, rfl⟩
      refine ⟨?_, Ext.refl _⟩
      rw [decide_eq_false (fun e => hn (by rw [e]))]

set_option maxHeartbeats 2000000 in
theorem rrset_same (a b : SetD) (d e' : Value) (lo lo' : Nat) (w : World) (hd : Strs w lo d a.data) (he : Strs w lo' e' b.data) :
    Calls Tryz.prog 20 #[setVal a d, setVal b e'] w fun e w' => e = .returned (.bool (decide (a = b))) ∧ Ext w w' := by
  obtain ⟨an, at_, ac, atl, ad⟩ := a
  obtain ⟨bn, bt, bc, btl, bd⟩ := b
  dsimp only at *
  obtain ⟨R, hR⟩ : ∃ R, R = decide ((⟨an, at_, ac, atl, ad⟩ : SetD) = ⟨bn, bt, bc, btl, bd⟩) := ⟨_, rfl⟩
  rw [← hR]
  have HR := Lib.hid hR
  have HQ := Lib.hid (fun W (hW : Ext w W) => sl_equal lo lo' d e' ad bd W (hd.ext hW) (he.ext hW))
  obtain ⟨dA, dc, rfl⟩ := hd.shape
  obtain ⟨eA, ec, rfl⟩ := he.shape
  clear hR hd he
  by_cases h1 : an ≠ bn
  · have HF := Lib.hid (show R = false by rw [HR.out]; simp [h1])
    have f1 := str_ne h1
    clear h1
    go_enter Tryz.func20, Tryz.ntmps20
    go_wp2_with fail
    go_ret
    exact ⟨ret_bool HF.out.symm, ((Ext.refl _).alloc _).alloc _⟩
  replace h1 := Decidable.not_not.1 h1
  subst h1
  by_cases h2 : at_ ≠ bt
  · have HF := Lib.hid (show R = false by rw [HR.out]; simp [h2])
    obtain ⟨f1, f2⟩ := ne_ints h2
    clear h2
    go_enter Tryz.func20, Tryz.ntmps20
    go_wp2_with fail
    go_ret
    exact ⟨ret_bool HF.out.symm, ((Ext.refl _).alloc _).alloc _⟩
  replace h2 := Decidable.not_not.1 h2
  subst h2
  by_cases h3 : ac ≠ bc
  · have HF := Lib.hid (show R = false by rw [HR.out]; simp [h3])
    obtain ⟨f1, f2⟩ := ne_ints h3
    clear h3
    go_enter Tryz.func20, Tryz.ntmps20
    go_wp2_with fail
    go_ret
    exact ⟨ret_bool HF.out.symm, ((Ext.refl _).alloc _).alloc _⟩
  replace h3 := Decidable.not_not.1 h3
  subst h3
  by_cases h4 : atl ≠ btl
  · have HF := Lib.hid (show R = false by rw [HR.out]; simp [h4])
    obtain ⟨f1, f2⟩ := ne_ints h4
    clear h4
    go_enter Tryz.func20, Tryz.ntmps20
    go_wp2_with fail
    go_ret
    exact ⟨ret_bool HF.out.symm, ((Ext.refl _).alloc _).alloc _⟩
  replace h4 := Decidable.not_not.1 h4
  subst h4
  have HF := Lib.hid (show R = decide (ad = bd) by rw [HR.out]; simp)
  clear HR
  go_enter Tryz.func20, Tryz.ntmps20
  go_wp2_with fail
  refine (HQ.out _ (((Ext.refl _).alloc _).alloc _)).mono ?_; rintro e w1 ⟨rfl, hE1⟩
  go_wp2_with fail
  go_ret
  exact ⟨ret_bool HF.out.symm, (((Ext.refl _).alloc _).alloc _).trans hE1⟩
end Go.Proofs.YthdlgmfeicikpaaGreatDoor
