/- Contracts of functions and plain lemmas that the proofs of this seat share (joined texts). No condition. -/
import Derived.Test.YtbdjoihckienbaaGreatDoorBs
import Derived.Test.YtbdjoihckienbaaGreatDoorBe
import Derived.Test.YtbdjoihckienbaaGreatDoorBu0
import Derived.Test.YtbdjoihckienbaaGreatDoorBf
namespace Go.Proofs.YtbdjoihckienbaaGreatDoor
set_option linter.unusedSimpArgs false
set_option linter.unusedVariables false
open Go.RowKit
set_option maxRecDepth 100000

def ParPost (r : Option (List UInt8)) (w : World) (e : Ending) (w' : World) : Prop := e = .returned (.tuple #[S (r.getD []), .bool r.isSome]) ∧ Ext w w'
/-- The name without its first label. -/
def parentOf (n : List UInt8) : Option (List UInt8) := match labelsOf n with
  | some (_ :: r) => some (bytesOf r)
  | _ => none

theorem parse_of_bytes : ∀ (ls : List (List UInt8)), (∀ x ∈ ls, 0 < x.length ∧ x.length ≤ 63) → parse (bytesOf ls) = some ls
  | [], _ => rfl
  | x :: r, h => by
    have hx := h x (by simp)
    have ht : (UInt8.ofNat x.length).toNat = x.length := by rw [UInt8.toNat_ofNat', Nat.mod_eq_of_lt (by omega)]
    rw [bytesOf_cons]
    unfold labB
    rw [List.cons_append, parse_cons, if_neg (fun e => by
      have := congrArg UInt8.toNat e
      rw [ht] at this
      have h0 : (0 : UInt8).toNat = 0 := rfl
      omega), if_neg (by rw [ht]; omega), ht]
    rw [List.drop_left' rfl, List.take_left' rfl, parse_of_bytes r (fun y hy => h y (by simp [hy]))]
    rfl
theorem labels_of_bytes {ls : List (List UInt8)} (h : ∀ x ∈ ls, 0 < x.length ∧ x.length ≤ 63) (hl : (bytesOf ls).length ≤ 255) : labelsOf (bytesOf ls) = some ls := by
  unfold labelsOf
  rw [if_pos hl, parse_of_bytes ls h]
theorem ref10_labels (n : List UInt8) (w : World) (hn : n.length ≤ 1048576) : Calls Tryz.prog 68 #[S n] w fun e w' => e = .returned (.int .i64 (labN n)) ∧ Ext w w' := by
  have HL := Lib.hid (ref_labels n w hn)
  have hl : labN n = ((labelsOf n).getD []).length := rfl
  rw [hl]
  generalize labelsOf n = R at *
  clear hl
  go_enter Tryz.func68, Tryz.ntmps68
  go_wp2_with fail
  refine HL.out.mono ?_; rintro e w1 ⟨v, rfl, ⟨A, c, rfl, ho⟩, hE⟩
  go_wp2_with fail
  go_ret
  exact ⟨rfl, hE⟩

set_option maxHeartbeats 1000000 in
theorem ref_parent (n : List UInt8) (w : World) (hn : n.length ≤ 1048576) : Calls Tryz.prog 119 #[S n] w (ParPost (parentOf n) w) := by
  have HL := Lib.hid (ref_labels n w hn)
  rcases hl : labelsOf n with _ | ls
  · have hp : parentOf n = none := by unfold parentOf; rw [hl]
    rw [hp]
    rw [hl] at HL
    clear hp hl
    go_enter Tryz.func119, Tryz.ntmps119
    go_wp2_with fail
    refine HL.out.mono ?_; rintro e w1 ⟨v, rfl, ⟨A, c, rfl, ho⟩, hE⟩
    go_wp2_with fail
    go_ret2
    exact ⟨rfl, hE⟩
  · have hb := (labels_bytes hl).2.2
    have hln := labels_len hl
    have HL' : Hid (Calls Tryz.prog 59 #[S n] w fun e w' => ∃ A c, e = .returned (.tuple #[.slice A ls.length c, .bool true]) ∧ Own w' w.heap.size 9 1 A ls.length c (ls.map S) ∧ Ext w w') := by
      show Calls _ _ _ _ _
      have h := HL.out
      rw [hl] at h
      refine h.mono ?_
      rintro e w1 ⟨v, rfl, ⟨A, c, rfl, ho⟩, hE⟩
      exact ⟨A, c, rfl, ho, hE⟩
    rcases ls with _ | ⟨x, r⟩
    · have hP : parentOf n = none := by unfold parentOf; rw [hl]
      rw [hP]
      clear hb hln hP hl HL
      go_enter Tryz.func119, Tryz.ntmps119
      go_wp2_with fail
      refine HL'.out.mono ?_; rintro e w1 ⟨A, c, rfl, ho, hE⟩
      simp only [List.length_nil]
      go_wp2_with fail
      go_ret2
      exact ⟨rfl, hE⟩
    · have hP : parentOf n = some (bytesOf r) := by unfold parentOf; rw [hl]
      rw [hP]
      clear hP hl HL
      have hr : ∀ y ∈ r, y.length ≤ 255 := fun y hy => by have := (hb y (by simp [hy])).2; omega
      have hrl : r.length ≤ 4096 := by simp at hln; omega
      have Hr := Lib.hid hr
      rw [show (x :: r).length = r.length + 1 from rfl] at HL'
      obtain ⟨m, hm⟩ : ∃ m, m = r.length := ⟨_, rfl⟩
      rw [← hm] at HL' hrl
      have hne : (((m + 1 : Nat) : Int) == 0) = false := by rw [beq_eq_false_iff_ne]; omega
      have Hm := Lib.hid hm
      clear hb hln hr hm
      go_enter Tryz.func119, Tryz.ntmps119
      go_wp2_with fail
      refine HL'.out.mono ?_; rintro e w1 ⟨A, c, rfl, ho, hE⟩
      have hcap := ho.cap
      unfold maxLen at hcap
      obtain ⟨b, off, rfl, hlo, hbz, hc⟩ := ho.rd.2 (by omega)
      have HB := Lib.hid (fun A' c' (h : Strs w1 w.heap.size (.slice A' m c') r) => ref_bytes w.heap.size (.slice A' m c') r w1 h Hr.out (by rw [← Hm.out]; exact hrl))
      by_cases hc1 : c = 1
      · have hm0 : m = 0 := by have := hcap.1; omega
        have hst : Strs w1 w.heap.size (.slice (some ⟨b, off, none⟩) 0 0) r := ⟨_, 0, by rw [← Hm.out, hm0], by rw [← Hm.out, hm0]; exact Nat.le_refl _, by unfold maxLen; omega, by
          have hr0 : r = [] := List.eq_nil_of_length_eq_zero (by rw [← Hm.out, hm0])
          rw [hr0]; exact Rd.nil _ _ _ _⟩
        subst hm0 hc1
        clear hc ho
        go_wp2_with fail
        refine (HB.out _ _ hst).mono ?_; rintro e w2 ⟨rfl, hE2⟩
        go_wp2_with fail
        go_ret2
        exact ⟨rfl, hE.trans hE2⟩
      · have hcc : (1 : Int) < (c : Int) := by have := hcap.1; omega
        have hst : Strs w1 w.heap.size (.slice (some ⟨b, off + 1, none⟩) m (c - 1)) r := ⟨_, c - 1, by rw [← Hm.out], by rw [← Hm.out]; omega, by unfold maxLen; omega, by simp, fun h0 => ⟨b, off + 1, rfl, hlo, hbz, fun j u hu => by
          have := hc (j + 1) u (by simpa using hu)
          rw [show off + 1 + j = off + (j + 1) by omega]
          exact this⟩⟩
        clear hc ho
        go_wp2_with fail
        refine (HB.out _ _ hst).mono ?_; rintro e w2 ⟨rfl, hE2⟩
        go_wp2_with fail
        go_ret2
        exact ⟨rfl, hE.trans hE2⟩

theorem bytesOf_tail_len (x : List UInt8) (r : List (List UInt8)) : (bytesOf r).length < (bytesOf (x :: r)).length := by
  rw [bytesOf_cons, List.length_append]; simp [labB]
def szOf : Value → Nat
  | .string b => b.size
  | _ => 0
/-- One round of Within. -/
theorem within_round {m z : List UInt8} {rs b : List (List UInt8)} (hm : labelsOf m = some rs) (hz : labelsOf z = some b) :
    (sameN m z = true → sufL rs (b.map low) = true) ∧ (sameN m z = false → parentOf m = none → sufL rs (b.map low) = false) ∧
    (sameN m z = false → ∀ u, parentOf m = some u → ∃ r, labelsOf u = some r ∧ sufL r (b.map low) = sufL rs (b.map low) ∧ u.length < m.length) := by
  obtain ⟨h1, h2, h3⟩ := labels_bytes hm
  obtain ⟨g1, g2, g3⟩ := labels_bytes hz
  have ma : may m = true := by unfold may; rw [hm]; rfl
  have mz : may z = true := by unfold may; rw [hz]; rfl
  have hs : sameN m z = (low m == low z) := by unfold sameN; rw [ma, mz]; rfl
  have hiff : sameN m z = true ↔ rs.map low = b.map low := by
    rw [hs, beq_iff_eq, h2, g2, low_bytes rs (fun x hx => (h3 x hx).2), low_bytes b (fun x hx => (g3 x hx).2)]
    constructor
    · exact bytesOf_inj (fun x hx => by obtain ⟨y, hy, rfl⟩ := List.mem_map.1 hx; rw [length_low]; exact h3 y hy) (fun x hx => by obtain ⟨y, hy, rfl⟩ := List.mem_map.1 hx; rw [length_low]; exact g3 y hy)
    · intro e; rw [e]
  rcases rs with _ | ⟨x, r⟩
  · have hp : parentOf m = none := by unfold parentOf; rw [hm]
    refine ⟨fun h => ?_, fun h _ => ?_, fun h u hu => ?_⟩
    · have := hiff.1 h
      rw [sufL, decide_eq_true]
      simpa using this.symm
    · rw [sufL, decide_eq_false_iff_not]
      intro e
      rw [hiff.2 (by rw [e]; rfl)] at h
      cases h
    · rw [hp] at hu; cases hu
  · have hp : parentOf m = some (bytesOf r) := by unfold parentOf; rw [hm]
    refine ⟨fun h => ?_, fun h hn => ?_, fun h u hu => ?_⟩
    · rw [sufL, decide_eq_true (hiff.1 h)]; rfl
    · rw [hp] at hn; cases hn
    · rw [hp] at hu
      injection hu with hu
      subst hu
      have hl := bytesOf_tail_len x r
      refine ⟨r, labels_of_bytes (fun y hy => h3 y (by simp [hy])) (by rw [← h2] at hl; omega), ?_, by rw [h2]; exact hl⟩
      have hne : ¬ ((x :: r).map low = b.map low) := fun e => by rw [hiff.2 e] at h; cases h
      rw [sufL, decide_eq_false hne, Bool.false_or]

set_option maxHeartbeats 1000000 in
theorem ref_within (n z : List UInt8) (w : World) (hn : n.length ≤ 1048576) (hz : z.length ≤ 1048576) :
    Calls Tryz.prog 90 #[S n, S z] w fun e w' => e = .returned (.bool (withinN n z)) ∧ Ext w w' := by
  have HM := Lib.hid (fun W => ref_may n W hn)
  have HZ := Lib.hid (fun W => ref_may z W hz)
  rcases hmn : may n with _ | _
  · rw [hmn] at HM
    rw [within_no (.inl hmn)]
    clear hmn
    go_enter Tryz.func90, Tryz.ntmps90
    go_wp2_with fail
    refine (HM.out _).mono ?_; rintro e w1 ⟨rfl, hE1⟩
    go_wp2_with fail
    go_ret
    exact ⟨rfl, hE1⟩
  rcases hmz : may z with _ | _
  · rw [hmn] at HM
    rw [hmz] at HZ
    rw [within_no (.inr hmz)]
    clear hmn hmz
    go_enter Tryz.func90, Tryz.ntmps90
    go_wp2_with fail
    refine (HM.out _).mono ?_; rintro e w1 ⟨rfl, hE1⟩
    go_wp2_with fail
    refine (HZ.out _).mono ?_; rintro e w2 ⟨rfl, hE2⟩
    go_wp2_with fail
    go_ret
    exact ⟨rfl, hE1.trans hE2⟩
  obtain ⟨a, ha⟩ := may_some hmn
  obtain ⟨b, hb⟩ := may_some hmz
  rw [hmn] at HM
  rw [hmz] at HZ
  rw [within_in ha hb]
  have hn5 := (labels_bytes ha).1
  have hz5 := (labels_bytes hb).1
  obtain ⟨W0, hW0⟩ : ∃ W0, sufL a (b.map low) = W0 := ⟨_, rfl⟩
  have HW0 := Lib.hid hW0
  rw [hW0]
  have Ha := Lib.hid ha
  have Hb := Lib.hid hb
  clear hW0 hmn hmz ha hb
  go_enter Tryz.func90, Tryz.ntmps90
  go_wp2_with fail
  refine (HM.out _).mono ?_; rintro e w1 ⟨rfl, hE1⟩
  go_wp2_with fail
  refine (HZ.out _).mono ?_; rintro e w2 ⟨rfl, hE2⟩
  have hE12 := hE1.trans hE2
  go_wp2_with fail
  go_loopw [0] (fun s wr => ∃ (m : List UInt8) (rs : List (List UInt8)), s = S m ∧ m.length ≤ 255 ∧ labelsOf m = some rs ∧ sufL rs (b.map low) = W0 ∧ Ext w wr) (fun s _ => szOf s)
  case atStart => exact ⟨n, a, rfl, hn5, Ha.out, HW0.out, hE12⟩
  case round =>
    obtain ⟨m, rs, rfl, hm5, hlm, hsm, hE⟩ := hrel
    obtain ⟨wo, rfl⟩ : ∃ wo : World, wo = wr := ⟨_, rfl⟩
    have hrd := within_round hlm Hb.out
    have HS := Lib.hid (fun W => ref_same m z W (by omega) hz)
    have HP := Lib.hid (fun W => ref_parent m W (by omega))
    have Hsm := Lib.hid hsm
    have Hrd := Lib.hid hrd
    clear hlm hsm hrd
    rcases hs : sameN m z with _ | _
    · rw [hs] at HS
      rcases hp : parentOf m with _ | u
      · rw [hp] at HP
        have HF := Lib.hid (show W0 = false by rw [← Hsm.out]; exact Hrd.out.2.1 hs hp)
        clear hs hp
        go_wp2_with fail
        refine (HS.out _).mono ?_; rintro e w3 ⟨rfl, hE3⟩
        go_wp2_with fail
        refine (HP.out _).mono ?_; rintro e w4 ⟨rfl, hE4⟩
        dsimp only [Option.getD, Option.isSome]
        go_wp2_with fail
        go_ret
        exact ⟨ret_bool HF.out.symm, (hE.trans hE3).trans hE4⟩
      · rw [hp] at HP
        obtain ⟨r, hr, hsr, hlt⟩ := Hrd.out.2.2 hs u hp
        have HF : Hid (labelsOf u = some r ∧ sufL r (b.map low) = W0) := ⟨hr, by rw [hsr]; exact Hsm.out⟩
        clear hs hp hr hsr
        go_wp2_with fail
        refine (HS.out _).mono ?_; rintro e w3 ⟨rfl, hE3⟩
        go_wp2_with fail
        refine (HP.out _).mono ?_; rintro e w4 ⟨rfl, hE4⟩
        dsimp only [Option.getD, Option.isSome]
        go_wp2_with fail
        go_roundw
        case rel => exact ⟨u, r, rfl, by omega, HF.out.1, HF.out.2, (hE.trans hE3).trans hE4⟩
        case measure => simp only [szOf, size_mk]; exact hlt
    · rw [hs] at HS
      have HF := Lib.hid (show W0 = true by rw [← Hsm.out]; exact Hrd.out.1 hs)
      clear hs
      go_wp2_with fail
      refine (HS.out _).mono ?_; rintro e w3 ⟨rfl, hE3⟩
      go_wp2_with fail
      go_ret
      exact ⟨ret_bool HF.out.symm, hE.trans hE3⟩
end Go.Proofs.YtbdjoihckienbaaGreatDoor
namespace Go.Proofs.YtbdjoihckienbaaGreatDoor
set_option linter.unusedSimpArgs false
set_option linter.unusedVariables false
open Go.RowKit
set_option maxRecDepth 100000

set_option maxHeartbeats 1000000 in
theorem ref10_fits (n : List UInt8) (cls : Int) (nm : List UInt8) (ty cl tt : Int) (A : Option Addr) (m c : Nat) (da : List (List UInt8)) (w : World) (hn : n.length ≤ 1048576) (hm : nm.length ≤ 1048576) :
    Calls Tryz.prog 67 #[.agg #[S nm, .int .u16 ty, .int .u16 cl, .int .u32 tt, .slice A m c], S n, .int .u16 cls] w fun e w' => e = .returned (.bool (fitsB n cls ⟨nm, ty, cl, tt, da⟩)) ∧ Ext w w' := by
  have HW := Lib.hid (fun W => ref_within n nm W hn hm)
  have Hf : Hid (fitsB n cls ⟨nm, ty, cl, tt, da⟩ = (ty == 6 && (cl == cls && withinN n nm))) := rfl
  generalize fitsB n cls ⟨nm, ty, cl, tt, da⟩ = F at *
  clear hn hm
  by_cases hty : ty = 6
  · subst hty
    by_cases hcl : cl = cls
    · subst hcl
      have f2 : (cl == cl) = true := by simp
      go_enter Tryz.func67, Tryz.ntmps67
      go_wp2_with fail
      refine (HW.out _).mono ?_; rintro e w1 ⟨rfl, hE1⟩
      generalize withinN n nm = b at *
      go_wp2_with fail
      go_ret
      exact ⟨ret_bool (by rw [Hf.out]; simp), ((Ext.refl _).alloc _).trans hE1⟩
    · have f2 : (cl == cls) = false := by rw [beq_eq_false_iff_ne]; exact hcl
      have Hf2 := Lib.hid (show F = false by rw [Hf.out, f2]; simp)
      clear hcl
      go_enter Tryz.func67, Tryz.ntmps67
      go_wp2_with fail
      go_ret
      exact ⟨ret_bool Hf2.out.symm, (Ext.refl _).alloc _⟩
  · have f1 : (ty == 6) = false := by rw [beq_eq_false_iff_ne]; exact hty
    have Hf2 := Lib.hid (show F = false by rw [Hf.out, f1]; simp)
    clear hty
    go_enter Tryz.func67, Tryz.ntmps67
    go_wp2_with fail
    go_ret
    exact ⟨ret_bool Hf2.out.symm, (Ext.refl _).alloc _⟩

theorem best_fits {l : List SetD} {n : List UInt8} {cls : Int} {k : Nat} {s : SetD} (h : l[k]? = some s) (hf : fitsB n cls s = false) : bestTo l n cls (k + 1) = bestTo l n cls k := by
  rw [best_step h, hf]; simp
theorem best_first {l : List SetD} {n : List UInt8} {cls : Int} {k : Nat} {s : SetD} (h : l[k]? = some s) (hf : fitsB n cls s = true) (hb : bestTo l n cls k = none) : bestTo l n cls (k + 1) = some (k, s) := by
  rw [best_step h, hf, hb, if_pos]
  simp only [Bool.true_and, decide_eq_true_eq]
  show (-1 : Int) < _; omega
theorem best_more {l : List SetD} {n : List UInt8} {cls : Int} {k : Nat} {s : SetD} {b : Nat × SetD} (h : l[k]? = some s) (hf : fitsB n cls s = true) (hb : bestTo l n cls k = some b) :
    bestTo l n cls (k + 1) = if decide ((labN b.2.name : Int) < (labN s.name : Int)) = true then some (k, s) else some b := by
  rw [best_step h, hf, hb, Bool.true_and]; rfl

set_option maxHeartbeats 4000000 in
theorem ref10_find (lo : Nat) (ps : List (SetD × Value)) (A : Option Addr) (c : Nat) (l : List SetD) (n : List UInt8) (cls : Int) (w : World) (hl : ps.map Prod.fst = l) (h1 : ps.length ≤ c) (h2 : c ≤ maxLen) (hrd : Rd w lo 5 A ps.length (ps.flatMap setCells)) (hst : ∀ p ∈ ps, Strs w lo p.2 p.1.data) (hbd : SetsBd l) (hn : n.length ≤ 1048576) :
    Calls Tryz.prog 35 #[.slice A ps.length c, S n, .int .u16 cls] w fun e w' => ∃ d, e = .returned (.tuple #[setVal ((soaFind l n cls).set.getD SetD.zero) d, .bool (soaFind l n cls).set.isSome, .int .i64 (soaFind l n cls).err]) ∧ (∀ P : Value → SetD → Prop, (∀ p ∈ ps, P p.2 p.1) → P (.slice none 0 0) SetD.zero → P d ((soaFind l n cls).set.getD SetD.zero)) ∧ Ext w w' := by
  unfold maxLen at h2
  have hlen : ps.length = l.length := by rw [← hl]; simp
  have HN := Lib.hid hn
  have Hl := Lib.hid hl
  have Hlen := Lib.hid hlen
  have Hst := Lib.hid hst
  have Hrd := Lib.hid hrd
  have HS : Hid (soaFind l n cls = soaOf (bestTo l n cls ps.length)) := by rw [hlen]; exact rfl
  generalize soaFind l n cls = SO at *
  clear hl hlen hn hst
  go_enter Tryz.func35, Tryz.ntmps35
  go_wp2_with fail
  obtain ⟨X0, hX0⟩ : ∃ X, X = w.alloc (.cells #[S [], .int .u16 0, .int .u16 0, .int .u32 0, .slice none 0 0] 55) := ⟨_, rfl⟩
  rw [← hX0]
  have hEX0 : Ext w X0 := by rw [hX0]; exact (Ext.refl _).alloc _
  have HX0 := Lib.hid hX0
  clear hX0
  go_loopw [9, 10] (fun f i wr => ∃ k : Nat, k ≤ ps.length ∧ i = .int .i64 k ∧ f = .int .i64 (foundI (bestTo l n cls k)) ∧ Ext X0 wr) (fun _ i _ => ps.length - (intOf i).toNat)
  case atStart => exact ⟨0, by omega, rfl, rfl, Ext.refl _⟩
  case round =>
    obtain ⟨k, hk, rfl, rfl, hEx⟩ := hrel
    obtain ⟨wo, rfl⟩ : ∃ wo : World, wo = wr := ⟨_, rfl⟩
    have hE := hEX0.trans hEx
    by_cases hlt : k < ps.length
    · have hp : ps[k]? = some ps[k] := List.getElem?_eq_getElem hlt
      have hpl : l[k]? = some ps[k].1 := by rw [← Hl.out, List.getElem?_map, hp]; rfl
      have hbs := hbd ps[k].1 (List.mem_of_getElem? hpl)
      have Hpl := Lib.hid hpl
      have hstr := Hst.out ps[k] (List.getElem_mem hlt)
      generalize ps[k] = p at *
      obtain ⟨b, off, rfl, _, hbz, hc⟩ := hrd.2 (by omega)
      obtain ⟨c0, c1, c2, c3, c4⟩ := sets_cells hc k p hp
      rw [← hE.cell (p := ⟨b, _, none⟩) hbz] at c0 c1 c2 c3 c4
      have hnm : p.1.name.length ≤ 1048576 := by omega
      have Hc := Lib.hid hc
      clear hc hp hrd hpl
      obtain ⟨⟨nm, ty, cl, tt, da⟩, d⟩ := p
      dsimp only at *
      obtain ⟨dA, dc, rfl⟩ := hstr.shape
      have HF := Lib.hid (fun W => ref10_fits n cls nm ty cl tt dA da.length dc da W HN.out hnm)
      have HL := Lib.hid (fun W => ref10_labels nm W hnm)
      have hki : (k : Int) < (ps.length : Int) := by omega
      have hk0 : (0 : Int) ≤ (k : Int) := by omega
      rcases hf : fitsB n cls ⟨nm, ty, cl, tt, da⟩ with _ | _
      · have Hbe := Lib.hid (best_fits Hpl.out hf)
        rw [hf] at HF
        clear hf
        generalize hB : bestTo l n cls k = B at *
        clear hB
        go_wp2_with fail
        have hbz2 : b < wo.heap.size := by have := hE.size; omega
        have HS := Lib.hid (show ∀ V, Ext wo V → V.cell? ⟨b, off + k * 5, none⟩ = some (S nm) ∧ V.cell? ⟨b, off + k * 5 + 1, none⟩ = some (.int .u16 ty) ∧ V.cell? ⟨b, off + k * 5 + 2, none⟩ = some (.int .u16 cl) ∧ V.cell? ⟨b, off + k * 5 + 3, none⟩ = some (.int .u32 tt) ∧ V.cell? ⟨b, off + k * 5 + 4, none⟩ = some (.slice dA da.length dc) from fun V hV => ⟨(hV.cell (p := ⟨b, _, none⟩) hbz2).trans c0, (hV.cell (p := ⟨b, _, none⟩) hbz2).trans c1, (hV.cell (p := ⟨b, _, none⟩) hbz2).trans c2, (hV.cell (p := ⟨b, _, none⟩) hbz2).trans c3, (hV.cell (p := ⟨b, _, none⟩) hbz2).trans c4⟩)
        refine wp_region_noPanic ?_
        refine wp_region_seq (S := (fun V => V.cell? ⟨b, off + k * 5, none⟩ = some (S nm) ∧ V.cell? ⟨b, off + k * 5 + 1, none⟩ = some (.int .u16 ty) ∧ V.cell? ⟨b, off + k * 5 + 2, none⟩ = some (.int .u16 cl) ∧ V.cell? ⟨b, off + k * 5 + 3, none⟩ = some (.int .u32 tt) ∧ V.cell? ⟨b, off + k * 5 + 4, none⟩ = some (.slice dA da.length dc))) [(0, true), (1, true), (2, true), (3, true), (4, true), (5, true), (6, false), (7, true), (8, true), (9, true), (10, true), (11, true), (12, true), (13, true), (14, true), (15, true), (17, true), (18, true), (19, true), (20, true), (21, true), (16, true), (22, true), (23, true), (24, true), (25, true)] (by kernel_rfl) (by kernel_rfl) (fun _ _ _ _ _ h => h) (HS.out _ ((Ext.refl wo).drew)) ?_
        repeat ((with_reducible refine heldIs ?_); first
          | (refine heldTake (v := ?_) (by rfl) (by rfl) ?_ ?_; rotate_left; (focus (intro V hV; (try dsimp only at hV); (go_simp <;> with_reducible rfl))); (try simp only [Act.put, List.setIfInBounds_toArray, List.set_cons_zero, List.set_cons_succ]))
          | (refine heldSkip (by rfl) (by rfl) ?_; (try simp only [Act.put, List.setIfInBounds_toArray, List.set_cons_zero, List.set_cons_succ])))
        refine heldRun (by rfl) (fun K hK => ?_)
        go_simp
        refine (HF.out _).mono ?_; rintro e w1 ⟨rfl, hE1⟩
        refine hK.out _ _ ?_ ?_
        · exact HS.out _ (Ext.trans ((Ext.refl wo).drew) hE1)
        clear hK K
        (try simp only [Act.put, List.setIfInBounds_toArray, List.set_cons_zero, List.set_cons_succ])
        repeat ((with_reducible refine heldIs ?_); first
          | (refine heldTake (v := ?_) (by rfl) (by rfl) ?_ ?_; rotate_left; (focus (intro V hV; (try dsimp only at hV); (go_simp <;> with_reducible rfl))); (try simp only [Act.put, List.setIfInBounds_toArray, List.set_cons_zero, List.set_cons_succ]))
          | (refine heldSkip (by rfl) (by rfl) ?_; (try simp only [Act.put, List.setIfInBounds_toArray, List.set_cons_zero, List.set_cons_succ])))
        refine heldDone ?_
        refine NoPanic.normal ?_
        have hE1 : Ext wo w1 := Ext.trans ((Ext.refl wo).drew) hE1
        go_wp2_with fail
        go_roundw
        case rel => exact ⟨k + 1, by omega, by go_num, by rw [Hbe.out], hEx.trans hE1⟩
        case measure => simp [intOf]; omega
      · rcases hB : bestTo l n cls k with _ | ⟨j, t⟩
        · have Hbe := Lib.hid (best_first Hpl.out hf hB)
          rw [hf] at HF
          clear hf hB
          dsimp only [foundI]
          go_wp2_with fail
          have hbz2 : b < wo.heap.size := by have := hE.size; omega
          have HS := Lib.hid (show ∀ V, Ext wo V → V.cell? ⟨b, off + k * 5, none⟩ = some (S nm) ∧ V.cell? ⟨b, off + k * 5 + 1, none⟩ = some (.int .u16 ty) ∧ V.cell? ⟨b, off + k * 5 + 2, none⟩ = some (.int .u16 cl) ∧ V.cell? ⟨b, off + k * 5 + 3, none⟩ = some (.int .u32 tt) ∧ V.cell? ⟨b, off + k * 5 + 4, none⟩ = some (.slice dA da.length dc) from fun V hV => ⟨(hV.cell (p := ⟨b, _, none⟩) hbz2).trans c0, (hV.cell (p := ⟨b, _, none⟩) hbz2).trans c1, (hV.cell (p := ⟨b, _, none⟩) hbz2).trans c2, (hV.cell (p := ⟨b, _, none⟩) hbz2).trans c3, (hV.cell (p := ⟨b, _, none⟩) hbz2).trans c4⟩)
          refine wp_region_noPanic ?_
          refine wp_region_seq (S := (fun V => V.cell? ⟨b, off + k * 5, none⟩ = some (S nm) ∧ V.cell? ⟨b, off + k * 5 + 1, none⟩ = some (.int .u16 ty) ∧ V.cell? ⟨b, off + k * 5 + 2, none⟩ = some (.int .u16 cl) ∧ V.cell? ⟨b, off + k * 5 + 3, none⟩ = some (.int .u32 tt) ∧ V.cell? ⟨b, off + k * 5 + 4, none⟩ = some (.slice dA da.length dc))) [(0, true), (1, true), (2, true), (3, true), (4, true), (5, true), (6, false), (7, true), (8, true), (9, true), (10, true), (11, true), (12, true), (13, true), (14, true), (15, true), (17, true), (18, true), (19, true), (20, true), (21, true), (16, true), (22, true), (23, true), (24, true), (25, true)] (by kernel_rfl) (by kernel_rfl) (fun _ _ _ _ _ h => h) (HS.out _ ((Ext.refl wo).drew)) ?_
          repeat ((with_reducible refine heldIs ?_); first
            | (refine heldTake (v := ?_) (by rfl) (by rfl) ?_ ?_; rotate_left; (focus (intro V hV; (try dsimp only at hV); (go_simp <;> with_reducible rfl))); (try simp only [Act.put, List.setIfInBounds_toArray, List.set_cons_zero, List.set_cons_succ]))
            | (refine heldSkip (by rfl) (by rfl) ?_; (try simp only [Act.put, List.setIfInBounds_toArray, List.set_cons_zero, List.set_cons_succ])))
          refine heldRun (by rfl) (fun K hK => ?_)
          go_simp
          refine (HF.out _).mono ?_; rintro e w1 ⟨rfl, hE1⟩
          refine hK.out _ _ ?_ ?_
          · exact HS.out _ (Ext.trans ((Ext.refl wo).drew) hE1)
          clear hK K
          (try simp only [Act.put, List.setIfInBounds_toArray, List.set_cons_zero, List.set_cons_succ])
          repeat ((with_reducible refine heldIs ?_); first
            | (refine heldTake (v := ?_) (by rfl) (by rfl) ?_ ?_; rotate_left; (focus (intro V hV; (try dsimp only at hV); (go_simp <;> with_reducible rfl))); (try simp only [Act.put, List.setIfInBounds_toArray, List.set_cons_zero, List.set_cons_succ]))
            | (refine heldSkip (by rfl) (by rfl) ?_; (try simp only [Act.put, List.setIfInBounds_toArray, List.set_cons_zero, List.set_cons_succ])))
          refine heldDone ?_
          refine NoPanic.normal ?_
          have hE1 : Ext wo w1 := Ext.trans ((Ext.refl wo).drew) hE1
          go_wp2_with fail
          go_roundw
          case rel => exact ⟨k + 1, by omega, by go_num, by rw [Hbe.out], hEx.trans hE1⟩
          case measure => simp [intOf]; omega
        · have Hbe := Lib.hid (best_more Hpl.out hf hB)
          obtain ⟨hjk, hjl⟩ := best_mem hB
          dsimp only at hjk hjl
          have hjp : j < ps.length := by omega
          have hp2 : ps[j]? = some ps[j] := List.getElem?_eq_getElem hjp
          have hps : ps[j].1 = t := by
            rw [← Hl.out, List.getElem?_map, hp2] at hjl
            exact Option.some.inj hjl
          have hbt := hbd t (List.mem_of_getElem? hjl)
          obtain ⟨x0, x1, x2, x3, x4⟩ := sets_cells Hc.out j _ hp2
          rw [← hE.cell (p := ⟨b, _, none⟩) hbz] at x0
          rw [hps] at x0
          have htn : t.name.length ≤ 1048576 := by omega
          have HT := Lib.hid (fun W => ref10_labels t.name W htn)
          have hji : (j : Int) < (ps.length : Int) := by omega
          have hj0 : (0 : Int) ≤ (j : Int) := by omega
          have hjn : decide ((j : Int) < 0) = false := by simp
          rw [hf] at HF
          clear hf hB hjk hjl hp2 hps hbt x1 x2 x3 x4
          dsimp only [foundI] at *
          obtain ⟨tn, htn'⟩ : ∃ tn, t.name = tn := ⟨_, rfl⟩
          have Htn := Lib.hid htn'
          rw [htn'] at HT x0
          clear htn'
          go_wp2_with fail
          have hbz2 : b < wo.heap.size := by have := hE.size; omega
          have HS := Lib.hid (show ∀ V, Ext wo V → V.cell? ⟨b, off + k * 5, none⟩ = some (S nm) ∧ V.cell? ⟨b, off + k * 5 + 1, none⟩ = some (.int .u16 ty) ∧ V.cell? ⟨b, off + k * 5 + 2, none⟩ = some (.int .u16 cl) ∧ V.cell? ⟨b, off + k * 5 + 3, none⟩ = some (.int .u32 tt) ∧ V.cell? ⟨b, off + k * 5 + 4, none⟩ = some (.slice dA da.length dc) ∧ V.cell? ⟨b, off + j * 5, none⟩ = some (S tn) from fun V hV => ⟨(hV.cell (p := ⟨b, _, none⟩) hbz2).trans c0, (hV.cell (p := ⟨b, _, none⟩) hbz2).trans c1, (hV.cell (p := ⟨b, _, none⟩) hbz2).trans c2, (hV.cell (p := ⟨b, _, none⟩) hbz2).trans c3, (hV.cell (p := ⟨b, _, none⟩) hbz2).trans c4, (hV.cell (p := ⟨b, _, none⟩) hbz2).trans x0⟩)
          refine wp_region_noPanic ?_
          refine wp_region_seq (S := (fun V => V.cell? ⟨b, off + k * 5, none⟩ = some (S nm) ∧ V.cell? ⟨b, off + k * 5 + 1, none⟩ = some (.int .u16 ty) ∧ V.cell? ⟨b, off + k * 5 + 2, none⟩ = some (.int .u16 cl) ∧ V.cell? ⟨b, off + k * 5 + 3, none⟩ = some (.int .u32 tt) ∧ V.cell? ⟨b, off + k * 5 + 4, none⟩ = some (.slice dA da.length dc) ∧ V.cell? ⟨b, off + j * 5, none⟩ = some (S tn))) [(0, true), (1, true), (2, true), (3, true), (4, true), (5, true), (6, false), (7, true), (8, true), (9, true), (10, true), (11, true), (12, true), (13, true), (14, true), (15, true), (17, true), (18, true), (19, true), (20, true), (21, true), (16, false), (22, false), (23, true), (24, true), (25, true)] (by kernel_rfl) (by kernel_rfl) (fun _ _ _ _ _ h => h) (HS.out _ ((Ext.refl wo).drew)) ?_
          repeat ((with_reducible refine heldIs ?_); first
            | (refine heldTake (v := ?_) (by rfl) (by rfl) ?_ ?_; rotate_left; (focus (intro V hV; (try dsimp only at hV); (go_simp <;> with_reducible rfl))); (try simp only [Act.put, List.setIfInBounds_toArray, List.set_cons_zero, List.set_cons_succ]))
            | (refine heldSkip (by rfl) (by rfl) ?_; (try simp only [Act.put, List.setIfInBounds_toArray, List.set_cons_zero, List.set_cons_succ])))
          refine heldRun (by rfl) (fun K hK => ?_)
          go_simp
          refine (HF.out _).mono ?_; rintro e w1 ⟨rfl, hE1⟩
          refine hK.out _ _ ?_ ?_
          · exact HS.out _ (Ext.trans ((Ext.refl wo).drew) hE1)
          clear hK K
          (try simp only [Act.put, List.setIfInBounds_toArray, List.set_cons_zero, List.set_cons_succ])
          have hE01 : Ext wo w1 := Ext.trans ((Ext.refl wo).drew) hE1
          repeat ((with_reducible refine heldIs ?_); first
            | (refine heldTake (v := ?_) (by rfl) (by rfl) ?_ ?_; rotate_left; (focus (intro V hV; (try dsimp only at hV); (go_simp <;> with_reducible rfl))); (try simp only [Act.put, List.setIfInBounds_toArray, List.set_cons_zero, List.set_cons_succ]))
            | (refine heldSkip (by rfl) (by rfl) ?_; (try simp only [Act.put, List.setIfInBounds_toArray, List.set_cons_zero, List.set_cons_succ])))
          refine heldRun (by rfl) (fun K hK => ?_)
          go_simp
          refine (HL.out _).mono ?_; rintro e w2 ⟨rfl, hE2⟩
          refine hK.out _ _ ?_ ?_
          · exact HS.out _ (hE01.trans hE2)
          clear hK K
          (try simp only [Act.put, List.setIfInBounds_toArray, List.set_cons_zero, List.set_cons_succ])
          have hE02 : Ext wo w2 := hE01.trans hE2
          repeat ((with_reducible refine heldIs ?_); first
            | (refine heldTake (v := ?_) (by rfl) (by rfl) ?_ ?_; rotate_left; (focus (intro V hV; (try dsimp only at hV); (go_simp <;> with_reducible rfl))); (try simp only [Act.put, List.setIfInBounds_toArray, List.set_cons_zero, List.set_cons_succ]))
            | (refine heldSkip (by rfl) (by rfl) ?_; (try simp only [Act.put, List.setIfInBounds_toArray, List.set_cons_zero, List.set_cons_succ])))
          refine heldRun (by rfl) (fun K hK => ?_)
          go_simp
          refine (HT.out _).mono ?_; rintro e w3 ⟨rfl, hE3⟩
          refine hK.out _ _ ?_ ?_
          · exact HS.out _ (hE02.trans hE3)
          clear hK K
          (try simp only [Act.put, List.setIfInBounds_toArray, List.set_cons_zero, List.set_cons_succ])
          have hE03 : Ext wo w3 := hE02.trans hE3
          repeat ((with_reducible refine heldIs ?_); first
            | (refine heldTake (v := ?_) (by rfl) (by rfl) ?_ ?_; rotate_left; (focus (intro V hV; (try dsimp only at hV); (go_simp <;> with_reducible rfl))); (try simp only [Act.put, List.setIfInBounds_toArray, List.set_cons_zero, List.set_cons_succ]))
            | (refine heldSkip (by rfl) (by rfl) ?_; (try simp only [Act.put, List.setIfInBounds_toArray, List.set_cons_zero, List.set_cons_succ])))
          refine heldDone ?_
          refine NoPanic.normal ?_
          rcases hd : decide ((labN tn : Int) < (labN nm : Int)) with _ | _
          · have Hb2 : Hid (bestTo l n cls (k + 1) = some (j, t)) := Lib.hid (by rw [Hbe.out, Htn.out, hd]; exact if_neg (by decide))
            have hdn := of_decide_eq_false hd
            have hdm : decide ((labN nm : Int) > (labN tn : Int)) = false := hd
            go_wp2_with fail
            go_roundw
            case rel => exact ⟨k + 1, by omega, by go_num, by rw [Hb2.out], hEx.trans hE03⟩
            case measure => simp [intOf]; omega
          · have Hb2 : Hid (bestTo l n cls (k + 1) = some (k, ⟨nm, ty, cl, tt, da⟩)) := Lib.hid (by rw [Hbe.out, Htn.out, hd]; exact if_pos rfl)
            have hdn := of_decide_eq_true hd
            have hdm : decide ((labN nm : Int) > (labN tn : Int)) = true := hd
            go_wp2_with fail
            go_roundw
            case rel => exact ⟨k + 1, by omega, by go_num, by rw [Hb2.out], hEx.trans hE03⟩
            case measure => simp [intOf]; omega
    · obtain rfl : k = ps.length := by omega
      obtain ⟨hq, hqf, hqz⟩ := ext_new_at w.heap.size rfl (show Ext (w.alloc _) wo by rw [← HX0.out]; exact hEx)
      rcases hB : bestTo l n cls ps.length with _ | ⟨j, t⟩
      · have HSO : Hid (SO = ⟨none, 0⟩) := Lib.hid (by rw [HS.out, hB]; rfl)
        clear hB
        dsimp only [foundI]
        go_wp2_with fail
        obtain ⟨X, hX⟩ : ∃ X, X = ((((wo.setCell ⟨w.heap.size, 0, none⟩ (S [])).setCell ⟨w.heap.size, 1, none⟩ (.int .u16 0)).setCell ⟨w.heap.size, 2, none⟩ (.int .u16 0)).setCell ⟨w.heap.size, 3, none⟩ (.int .u32 0)).setCell ⟨w.heap.size, 4, none⟩ (.slice none 0 0) := ⟨_, rfl⟩
        have hbX : ∀ j, X.cell? ⟨w.heap.size, j, none⟩ = #[S [], .int .u16 0, .int .u16 0, .int .u32 0, .slice none 0 0][j]? := by rw [hX]; exact box5 hq (S []) (.int .u16 0) (.int .u16 0) (.int .u32 0) (.slice none 0 0)
        have hfX : ∀ j, X.frozen? ⟨w.heap.size, j, none⟩ = false := fun j => by rw [hX]; simpa using hqf j
        have hEX : Ext w X := by rw [hX]; (repeat (first | with_reducible exact Ext.refl _ | with_reducible assumption | with_reducible refine Ext.alloc ?_ _ | with_reducible refine Ext.drewN ?_ _ | with_reducible refine Ext.drew ?_ | (with_reducible refine Ext.setCell ?_ ?hp _; case hp => (simp <;> omega))))
        have hzX : w.heap.size < X.heap.size := by rw [hX]; simp; omega
        refine (show _ from ?_ : bodyPost Tryz.prog Tryz.f35 _ Exit.ret _ (((((wo.setCell ⟨w.heap.size, 0, none⟩ (S [])).setCell ⟨w.heap.size, 1, none⟩ (.int .u16 0)).setCell ⟨w.heap.size, 2, none⟩ (.int .u16 0)).setCell ⟨w.heap.size, 3, none⟩ (.int .u32 0)).setCell ⟨w.heap.size, 4, none⟩ (.slice none 0 0)))
        rw [← hX]
        refine bodyPost_ret (v := .tuple #[setVal SetD.zero (.slice none 0 0), .bool false, .int .i64 0]) (by simp [results, Tryz.results35, go_sem, hbX, hfX, hzX, SetD.zero]) rfl ?_
        refine ⟨_, by rw [HSO.out]; rfl, ?_, hEX⟩
        intro P _ hP2
        rw [HSO.out]
        exact hP2
      · obtain ⟨hj, hjs⟩ := best_mem hB
        dsimp only at hj hjs
        have hbs := hbd t (List.mem_of_getElem? hjs)
        have hp : ps[j]? = some ps[j] := List.getElem?_eq_getElem hj
        have hps : ps[j].1 = t := by
          rw [← Hl.out, List.getElem?_map, hp] at hjs
          exact Option.some.inj hjs
        have hstr := Hst.out ps[j] (List.getElem_mem hj)
        have hmem : ps[j] ∈ ps := List.getElem_mem hj
        generalize ps[j] = p at *
        obtain ⟨⟨nm, ty, cl, tt, da⟩, d⟩ := p
        dsimp only at *
        subst hps
        obtain ⟨b, off, rfl, _, hbz, hc⟩ := hrd.2 (by omega)
        obtain ⟨c0, c1, c2, c3, c4⟩ := sets_cells hc j _ hp
        have Hstr := Lib.hid hstr
        have Hmem := Lib.hid hmem
        clear hmem
        obtain ⟨dA, dc, rfl⟩ := hstr.shape
        have hd0 : (0 : Int) ≤ (j : Int) := by omega
        have hji : (j : Int) < (ps.length : Int) := by omega
        have hjn : decide ((j : Int) < 0) = false := by simp
        rw [← hE.cell (p := ⟨b, _, none⟩) hbz] at c0 c1 c2 c3 c4
        clear hc hjs hp hrd hstr
        dsimp only [foundI]
        by_cases hd1 : da.length = 1
        · have HSO : Hid (SO = ⟨some ⟨nm, ty, cl, tt, da⟩, 0⟩) := Lib.hid (by rw [HS.out, hB]; exact if_pos hd1)
          have f1 : ((da.length : Int) != 1) = false := by rw [hd1]; rfl
          clear hB hd1
          go_wp2_with fail
          obtain ⟨X, hX⟩ : ∃ X, X = ((((wo.setCell ⟨w.heap.size, 0, none⟩ (S nm)).setCell ⟨w.heap.size, 1, none⟩ (.int .u16 ty)).setCell ⟨w.heap.size, 2, none⟩ (.int .u16 cl)).setCell ⟨w.heap.size, 3, none⟩ (.int .u32 tt)).setCell ⟨w.heap.size, 4, none⟩ (.slice dA da.length dc) := ⟨_, rfl⟩
          have hbX : ∀ j, X.cell? ⟨w.heap.size, j, none⟩ = #[S nm, .int .u16 ty, .int .u16 cl, .int .u32 tt, .slice dA da.length dc][j]? := by rw [hX]; exact box5 hq (S nm) (.int .u16 ty) (.int .u16 cl) (.int .u32 tt) (.slice dA da.length dc)
          have hfX : ∀ j, X.frozen? ⟨w.heap.size, j, none⟩ = false := fun j => by rw [hX]; simpa using hqf j
          have hEX : Ext w X := by rw [hX]; (repeat (first | with_reducible exact Ext.refl _ | with_reducible assumption | with_reducible refine Ext.alloc ?_ _ | with_reducible refine Ext.drewN ?_ _ | with_reducible refine Ext.drew ?_ | (with_reducible refine Ext.setCell ?_ ?hp _; case hp => (simp <;> omega))))
          have hzX : w.heap.size < X.heap.size := by rw [hX]; simp; omega
          refine (show _ from ?_ : bodyPost Tryz.prog Tryz.f35 _ Exit.ret _ (((((wo.setCell ⟨w.heap.size, 0, none⟩ (S nm)).setCell ⟨w.heap.size, 1, none⟩ (.int .u16 ty)).setCell ⟨w.heap.size, 2, none⟩ (.int .u16 cl)).setCell ⟨w.heap.size, 3, none⟩ (.int .u32 tt)).setCell ⟨w.heap.size, 4, none⟩ (.slice dA da.length dc)))
          rw [← hX]
          refine bodyPost_ret (v := .tuple #[setVal ⟨nm, ty, cl, tt, da⟩ (.slice dA da.length dc), .bool true, .int .i64 0]) (by simp [results, Tryz.results35, go_sem, hbX, hfX, hzX, SetD.zero]) rfl ?_
          refine ⟨_, by rw [HSO.out]; rfl, ?_, hEX⟩
          intro P hP1 _
          rw [HSO.out]
          first | exact hP1 _ Hmem.out | exact hP1 _ _ Hmem.out
        · have HSO : Hid (SO = ⟨none, 3⟩) := Lib.hid (by rw [HS.out, hB]; exact if_neg hd1)
          obtain ⟨f1, f2⟩ := ne_one hd1
          clear hB hd1
          go_wp2_with fail
          obtain ⟨X, hX⟩ : ∃ X, X = ((((wo.setCell ⟨w.heap.size, 0, none⟩ (S [])).setCell ⟨w.heap.size, 1, none⟩ (.int .u16 0)).setCell ⟨w.heap.size, 2, none⟩ (.int .u16 0)).setCell ⟨w.heap.size, 3, none⟩ (.int .u32 0)).setCell ⟨w.heap.size, 4, none⟩ (.slice none 0 0) := ⟨_, rfl⟩
          have hbX : ∀ j, X.cell? ⟨w.heap.size, j, none⟩ = #[S [], .int .u16 0, .int .u16 0, .int .u32 0, .slice none 0 0][j]? := by rw [hX]; exact box5 hq (S []) (.int .u16 0) (.int .u16 0) (.int .u32 0) (.slice none 0 0)
          have hfX : ∀ j, X.frozen? ⟨w.heap.size, j, none⟩ = false := fun j => by rw [hX]; simpa using hqf j
          have hEX : Ext w X := by rw [hX]; (repeat (first | with_reducible exact Ext.refl _ | with_reducible assumption | with_reducible refine Ext.alloc ?_ _ | with_reducible refine Ext.drewN ?_ _ | with_reducible refine Ext.drew ?_ | (with_reducible refine Ext.setCell ?_ ?hp _; case hp => (simp <;> omega))))
          have hzX : w.heap.size < X.heap.size := by rw [hX]; simp; omega
          refine (show _ from ?_ : bodyPost Tryz.prog Tryz.f35 _ Exit.ret _ (((((wo.setCell ⟨w.heap.size, 0, none⟩ (S [])).setCell ⟨w.heap.size, 1, none⟩ (.int .u16 0)).setCell ⟨w.heap.size, 2, none⟩ (.int .u16 0)).setCell ⟨w.heap.size, 3, none⟩ (.int .u32 0)).setCell ⟨w.heap.size, 4, none⟩ (.slice none 0 0)))
          rw [← hX]
          refine bodyPost_ret (v := .tuple #[setVal SetD.zero (.slice none 0 0), .bool false, .int .i64 3]) (by simp [results, Tryz.results35, go_sem, hbX, hfX, hzX, SetD.zero]) rfl ?_
          refine ⟨_, by rw [HSO.out]; rfl, ?_, hEX⟩
          intro P _ hP2
          rw [HSO.out]
          exact hP2
end Go.Proofs.YtbdjoihckienbaaGreatDoor
namespace Go.Proofs.YtbdjoihckienbaaGreatDoor
set_option linter.unusedSimpArgs false
set_option linter.unusedVariables false
open Go.RowKit
set_option maxRecDepth 100000

theorem timeT_min {a b : Int} (ha : 0 ≤ a) (hb : 0 ≤ b) : min (timeT a) (timeT b) = if 2147483647 < b then 0 else if 2147483647 < a then 0 else min b a := by
  unfold timeT
  split <;> split <;> omega

set_option maxHeartbeats 2000000 in
theorem ref10_time (lo : Nat) (s : SetD) (dv : Value) (w : World) (hs : Strs w lo dv s.data) (hd : ∀ x ∈ s.data, x.length ≤ 1048576) (h0 : 0 ≤ s.ttl) :
    Calls Tryz.prog 36 #[setVal s dv] w fun e w' => e = .returned (.int .u32 (soaTime s)) ∧ Ext w w' := by
  obtain ⟨nm, ty, cl, tt, da⟩ := s
  dsimp only at *
  obtain ⟨A, c, rfl, h1, h2, hrd⟩ := hs
  unfold maxLen at h2
  by_cases hty : ty = 6
  rotate_left
  · have hT : soaTime ⟨nm, ty, cl, tt, da⟩ = 0 := if_neg hty
    have f1 : (ty != 6) = true := by simpa using hty
    rw [hT]
    clear hT hty
    go_enter Tryz.func36, Tryz.ntmps36
    go_wp2_with fail
    go_ret
    exact ⟨rfl, (Ext.refl _).alloc _⟩
  subst hty
  by_cases hl : da.length = 1
  rotate_left
  · have hT : soaTime ⟨nm, 6, cl, tt, da⟩ = 0 := by
      unfold soaTime
      rw [if_pos rfl]
      match da, hl with
      | [], _ => rfl
      | [_], h => exact absurd rfl h
      | _ :: _ :: _, _ => rfl
    rw [hT]
    obtain ⟨f1, f2⟩ := ne_one hl
    clear hT hl
    go_enter Tryz.func36, Tryz.ntmps36
    go_wp2_with fail
    go_ret
    exact ⟨rfl, (Ext.refl _).alloc _⟩
  obtain ⟨d, rfl⟩ := List.length_eq_one_iff.1 hl
  have hT : soaTime ⟨nm, 6, cl, tt, [d]⟩ = soaTimeD tt d := rfl
  rw [hT]
  obtain ⟨b, off, rfl, _, hbz, hc⟩ := hrd.2 (by simp)
  have c0 := hc 0 (S d) rfl
  simp only [Nat.add_zero] at c0
  have hdl := hd d (by simp)
  have HM := Lib.hid (fun W => ref_rmay 6 d W hdl)
  clear hc hrd hl hd hT
  simp only [List.length_singleton]
  rcases hm : rmay 6 d with _ | _
  · have hT : soaTimeD tt d = 0 := by unfold soaTimeD; rw [hm]; rfl
    rw [hT]
    rw [hm] at HM
    clear hT hm
    go_enter Tryz.func36, Tryz.ntmps36
    go_wp2_with fail
    refine (HM.out _).mono ?_; rintro e w1 ⟨rfl, hE1⟩
    go_wp2_with fail
    go_ret
    exact ⟨rfl, ((Ext.refl _).alloc _).trans hE1⟩
  have hT : soaTimeD tt d = min (timeT tt) (timeT (lastFour d)) := by unfold soaTimeD; rw [hm]; rfl
  rw [hT, timeT_min h0 (by omega)]
  rw [hm] at HM
  have hd20 := rmay6_len hm
  obtain ⟨p, hp⟩ : ∃ p, d.length = p + 4 := ⟨d.length - 4, by omega⟩
  obtain ⟨s4, hs4⟩ : ∃ s4, d.drop p = s4 := ⟨_, rfl⟩
  have hs4l : s4.length = 4 := by rw [← hs4, List.length_drop]; omega
  have HL : Hid (lastFour d = be s4 ∧ s4.length = 4) := ⟨by unfold lastFour; rw [hp, Nat.add_sub_cancel, hs4], hs4l⟩
  have Hp := Lib.hid hp
  have Hs4 := Lib.hid hs4
  have Hs4l := Lib.hid hs4l
  have hp1 : (d.length : Int) = (p : Int) + 4 := by omega
  have hpb : (p : Int) ≤ 1048576 := by omega
  have hp0 : (0 : Int) ≤ (p : Int) := by omega
  clear hT hm hs4 hs4l hp
  go_enter Tryz.func36, Tryz.ntmps36
  go_wp2_with fail
  refine (HM.out _).mono ?_; rintro e w1 ⟨rfl, hE1⟩
  obtain ⟨hq, hqf, hqz⟩ := ext_new hE1
  have q3 := hq 3
  have c01 := ((((Ext.refl w).alloc (.cells #[S nm, .int .u16 6, .int .u16 cl, .int .u32 tt, .slice (some ⟨b, off, none⟩) 1 c] 55)).trans hE1).cell (p := ⟨b, off, none⟩) hbz).trans c0
  clear c0
  go_wp2_with fail
  go_loop [4, 5] (fun v i => ∃ k : Nat, k ≤ 4 ∧ i = .int .i64 ((p + k : Nat) : Int) ∧ v = .int .u32 (be (s4.take k))) (fun _ i => p + 4 - (intOf i).toNat)
  case atStart => exact ⟨0, by omega, by go_num, rfl⟩
  case round =>
    obtain ⟨k, hk, rfl, rfl⟩ := hrel
    by_cases hlt : k < 4
    · have hlt' : k < s4.length := by rw [Hs4l.out]; exact hlt
      have hld : p + k < d.length := by rw [Hp.out]; omega
      obtain ⟨c', Hb, hget, hwb, hbd⟩ := byte_at d (p + k) hld
      have Hb4 : Hid (s4[k] = c') := Lib.hid (by rw [← Hb.out]; simp only [← Hs4.out]; rw [List.getElem_drop])
      have Hst := Lib.hid (be_step s4 k hlt' c' Hb4.out)
      have hx := be_take_lt s4 k (by rw [Hs4l.out]; omega) hlt'
      generalize be (s4.take k) = x at *
      have hkp : ((p + k : Nat) : Int) < (d.length : Int) := by omega
      have hkp0 : (0 : Int) ≤ ((p + k : Nat) : Int) := by omega
      go_wp2_with fail
      go_round
      case rel => exact ⟨k + 1, by omega, by go_num, by rw [Hst.out]; go_num⟩
      case measure => simp [intOf]; omega
    · obtain rfl : k = 4 := by omega
      have e1 : s4.take 4 = s4 := List.take_of_length_le (by rw [Hs4l.out]; omega)
      rw [e1]
      clear e1
      have HLx := Lib.hid HL.out.1
      clear HL
      generalize be s4 = x at *
      by_cases hx1 : (2147483647 : Int) < (x : Int)
      · have hg1 : decide ((x : Int) > 2147483647) = true := decide_eq_true hx1
        have hg2 : decide ((2147483647 : Int) < (x : Int)) = true := decide_eq_true hx1
        go_wp2_with fail
        all_goals go_ret
        all_goals refine ⟨ret_int ?_, ((Ext.refl _).alloc _).trans hE1⟩
        all_goals (have hLL := HLx.out; first | omega | (rw [hLL, if_pos hx1]) | (simp_all; done) | trace_state)
      · have hg1 : decide ((x : Int) > 2147483647) = false := decide_eq_false hx1
        have hg2 : decide ((2147483647 : Int) < (x : Int)) = false := decide_eq_false hx1
        by_cases hx2 : (2147483647 : Int) < tt
        · have hg3 : decide (tt > 2147483647) = true := decide_eq_true hx2
          have hg4 : decide ((2147483647 : Int) < tt) = true := decide_eq_true hx2
          go_wp2_with fail
          all_goals go_ret
          all_goals refine ⟨ret_int ?_, ((Ext.refl _).alloc _).trans hE1⟩
          all_goals (have hLL := HLx.out; first | omega | (rw [hLL, if_neg hx1, if_pos hx2]) | (simp_all; done) | trace_state)
        · have hg3 : decide (tt > 2147483647) = false := decide_eq_false hx2
          have hg4 : decide ((2147483647 : Int) < tt) = false := decide_eq_false hx2
          go_wp2_with fail
          all_goals go_ret
          all_goals refine ⟨ret_int ?_, ((Ext.refl _).alloc _).trans hE1⟩
          all_goals (have hLL := HLx.out; first | omega | (rw [hLL, if_neg hx1, if_neg hx2]) | (simp_all; done) | trace_state)
end Go.Proofs.YtbdjoihckienbaaGreatDoor
