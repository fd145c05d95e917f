/- Contracts of functions and plain lemmas that the proofs of this seat share (joined texts). No condition. -/
import Derived.Test.YtdnpmapelmjfpaaGreatDoorRs
import Derived.Test.YtdnpmapelmjfpaaGreatDoorRh0
import Derived.Test.YtdnpmapelmjfpaaGreatDoorRq
import Derived.Deep.DeepCutAuto
namespace Go.Proofs.YtdnpmapelmjfpaaGreatDoor
set_option linter.unusedSimpArgs false
set_option linter.unusedVariables false
open Go.RowKit
set_option maxRecDepth 100000
theorem within_in {n z : List UInt8} {a b : List (List UInt8)} (ha : labelsOf n = some a) (hb : labelsOf z = some b) : withinN n z = sufL a (b.map low) := by
  unfold withinN; rw [ha, hb]
theorem within_no {n z : List UInt8} (h : may n = false ∨ may z = false) : withinN n z = false := by
  unfold withinN may at *
  rcases h with h | h
  · rcases hn : labelsOf n with _ | a
    · rfl
    · rw [hn] at h; cases h
  · rcases hz : labelsOf z with _ | b
    · cases labelsOf n <;> rfl
    · rw [hz] at h; cases h
theorem parse_labels {l : List UInt8} {x : List (List UInt8)} (h : labelsOf l = some x) : l.length ≤ 255 ∧ parse l = some x := by
  unfold labelsOf at h
  split at h
  · exact ⟨‹_›, h⟩
  · cases h
theorem may_some {l : List UInt8} (h : may l = true) : ∃ x, labelsOf l = some x := by
  unfold may at h
  exact Option.isSome_iff_exists.1 h
theorem label_on {l : List UInt8} {k : Nat} {rs : List (List UInt8)} (hp : parse (l.drop k) = some rs) (hk : k + 1 < l.length) :
    ∃ (b : UInt8) (x : List UInt8) (r : List (List UInt8)), l[k]? = some b ∧ rs = x :: r ∧ parse (l.drop (k + 1 + b.toNat)) = some r ∧ k + 1 + b.toNat < l.length ∧ b.toNat ≤ 63 := by
  have hlt : k < l.length := by omega
  have h := hp
  rw [drop_cons l k hlt, parse_cons] at h
  split at h
  · rename_i h0
    split at h
    · rename_i hd
      have := congrArg List.length hd
      rw [List.length_drop, List.length_nil] at this
      omega
    · cases h
  · split at h
    · cases h
    · rename_i h63
      rw [Option.map_eq_some_iff, List.drop_drop] at h
      obtain ⟨r, hr, he⟩ := h
      refine ⟨l[k], _, r, List.getElem?_eq_getElem hlt, he.symm, hr, ?_, by omega⟩
      rcases Nat.lt_or_ge (k + 1 + l[k].toNat) l.length with h' | h'
      · exact h'
      · rw [List.drop_of_length_le h', parse_nil] at hr; cases hr

set_option maxHeartbeats 1000000 in
theorem name_within (n z : List UInt8) (w : World) (hn : n.length ≤ maxLen) (hz : z.length ≤ maxLen) :
    Calls Tryz.prog 154 #[S n, S z] w fun e w' => e = .returned (.bool (withinN n z)) ∧ Ext w w' := by
  have HM := Lib.hid (fun W => name_may n W hn)
  have HZ := Lib.hid (fun W => name_may z W hz)
  have HLw := Lib.hid (fun (l : List UInt8) W (h : l.length ≤ maxLen) => name_lower l W h)
  rcases hmn : may n with _ | _
  · rw [hmn] at HM
    rw [within_no (.inl hmn)]
    clear hmn hn hz
    go_enter Tryz.func154, Tryz.ntmps154
    go_wp2_with fail
    refine (HM.out _).mono ?_; rintro e w' ⟨rfl, rfl⟩
    go_wp2_with fail
    go_ret
    exact ⟨rfl, Ext.refl _⟩
  rcases hmz : may z with _ | _
  · rw [hmn] at HM
    rw [hmz] at HZ
    rw [within_no (.inr hmz)]
    clear hmn hmz hn hz
    go_enter Tryz.func154, Tryz.ntmps154
    go_wp2_with fail
    refine (HM.out _).mono ?_; rintro e w' ⟨rfl, rfl⟩
    go_wp2_with fail
    refine (HZ.out _).mono ?_; rintro e w' ⟨rfl, rfl⟩
    go_wp2_with fail
    go_ret
    exact ⟨rfl, Ext.refl _⟩
  obtain ⟨a, ha⟩ := may_some hmn
  obtain ⟨b, hb⟩ := may_some hmz
  rw [hmn] at HM
  rw [hmz] at HZ
  rw [within_in ha hb]
  obtain ⟨hn5, hpn⟩ := parse_labels ha
  obtain ⟨hz5, hpz⟩ := parse_labels hb
  obtain ⟨_, hzb, hbl⟩ := labels_bytes hb
  have hz0 : 0 < z.length := by rw [hzb]; exact bytesOf_pos _
  have hbb : (bytesOf b).length = z.length := by rw [hzb]
  have HB : Hid ((bytesOf (b.map low)).length = z.length ∧ (∀ x ∈ b, 0 < x.length ∧ x.length ≤ 63) ∧ low (bytesOf b) = low z) := ⟨by rw [bytesOf_low_len]; exact hbb, hbl, by rw [← hzb]⟩
  have HPn := Lib.hid hpn
  obtain ⟨W0, hW0⟩ : ∃ W0, sufL a (b.map low) = W0 := ⟨_, rfl⟩
  have HW0 := Lib.hid hW0
  rw [hW0]
  have hn0 : 0 < n.length := by
    rcases n with _ | ⟨_, _⟩
    · rw [parse_nil] at hpn; cases hpn
    · simp
  clear hW0 hpn hpz hmn hmz ha hb hbb hzb hbl hn hz
  go_enter Tryz.func154, Tryz.ntmps154
  go_wp2_with fail
  refine (HM.out _).mono ?_; rintro e w' ⟨rfl, rfl⟩
  go_wp2_with fail
  refine (HZ.out _).mono ?_; rintro e w' ⟨rfl, rfl⟩
  go_wp2_with fail
  go_loop [6] (fun i => ∃ (k : Nat) (rs : List (List UInt8)), i = .int .i64 k ∧ k < n.length ∧ parse (n.drop k) = some rs ∧ sufL rs (b.map low) = W0) (fun i => n.length - (intOf i).toNat)
  case atStart => exact ⟨0, a, rfl, hn0, HPn.out, HW0.out⟩
  case round =>
    obtain ⟨k, rs, rfl, hk, hpk, hsk⟩ := hrel
    obtain ⟨hrb, hrl⟩ := parse_bytes _ _ _ (Nat.le_refl _) hpk
    have hlen : (bytesOf rs).length = n.length - k := by rw [← hrb, List.length_drop]
    have Hrb := Lib.hid hrb
    have Hpk := Lib.hid hpk
    have Hsk := Lib.hid hsk
    clear hrb hpk hsk
    by_cases hc : (k : Int) < (n.length : Int) - (z.length : Int)
    · obtain ⟨c, x, r, hg, hrs, hpr, hk2, h63⟩ := label_on Hpk.out (by omega)
      obtain ⟨b', Hb, hget, hwb, hbd⟩ := byte_at n k (by omega)
      have hcb : c = b' := by
        have h1 := List.getElem?_eq_getElem (l := n) (i := k) (by omega)
        rw [h1, Hb.out] at hg
        exact (Option.some.inj hg).symm
      subst hcb
      have HR : Hid (parse (n.drop (k + 1 + c.toNat)) = some r ∧ sufL r (b.map low) = W0) := ⟨hpr, by
        rw [← sufL_long x r _ (by rw [HB.out.1, ← hrs, hlen]; omega), ← hrs]; exact Hsk.out⟩
      clear hg hrs hpr hlen
      go_wp2_with fail
      go_round
      case rel => exact ⟨k + 1 + c.toNat, r, by first | go_num | (congr 1; omega), hk2, HR.out.1, HR.out.2⟩
      case measure => simp [intOf]; omega
    · by_cases he : (k : Int) = (n.length : Int) - (z.length : Int)
      · have g1 : ((k : Int) == (n.length : Int) - (z.length : Int)) = true := by rw [beq_iff_eq]; exact he
        have ht : (n.drop k).take (n.length - k) = n.drop k := List.take_of_length_le (by rw [List.length_drop]; omega)
        have HF : Hid (W0 = (low ((n.drop k).take (n.length - k)) == low z)) := by
          show W0 = _
          rw [ht, ← Hsk.out, sufL_same hrl HB.out.2.1 (by rw [hlen]; have := HB.out.1; rw [bytesOf_low_len] at this; omega), HB.out.2.2, ← Hrb.out]
        have hzl : z.length ≤ maxLen := by unfold maxLen; omega
        have hnl : ((n.drop k).take (n.length - k)).length ≤ maxLen := by rw [ht, List.length_drop]; unfold maxLen; omega
        have HLk := Lib.hid (fun W => HLw.out ((n.drop k).take (n.length - k)) W hnl)
        have HLz := Lib.hid (fun W => HLw.out z W hzl)
        clear he hlen hnl hzl ht
        go_wp2_with fail
        refine (HLk.out _).mono ?_; rintro e w1 ⟨rfl, hE1⟩
        go_wp2_with fail
        refine (HLz.out _).mono ?_; rintro e w2 ⟨rfl, hE2⟩
        go_wp2_with fail
        go_ret
        exact ⟨ret_bool HF.out.symm, hE1.trans hE2⟩
      · have g1 : ((k : Int) == (n.length : Int) - (z.length : Int)) = false := by rw [beq_eq_false_iff_ne]; exact he
        have HF : Hid (W0 = false) := by
          show W0 = _
          rw [← Hsk.out]
          exact sufL_short _ _ (by rw [hlen, HB.out.1]; omega)
        clear he hlen
        go_wp2_with fail
        go_ret
        exact ⟨ret_bool HF.out.symm, Ext.refl _⟩

theorem name_Labels (n : List UInt8) (w : World) (hn : n.length ≤ maxLen) :
    Calls Tryz.prog 213 #[S n] w fun e w' => ∃ v, e = .returned v ∧ OStrs w' w.heap.size v ((labelsOf n).getD []) ∧ Ext w w' := by
  have HM := Lib.hid (name_may n w hn)
  rcases hl : labelsOf n with _ | x
  · have hm : may n = false := by unfold may; rw [hl]; rfl
    rw [hm] at HM
    clear hm hl
    go_enter Tryz.func213, Tryz.ntmps213
    go_wp2_with fail
    refine HM.out.mono ?_; rintro e w' ⟨rfl, rfl⟩
    go_wp2_with fail
    go_ret
    exact ⟨_, rfl, ⟨none, 0, rfl, Own.nil _ _ _ _⟩, Ext.refl _⟩
  · have hm : may n = true := by unfold may; rw [hl]; rfl
    rw [hm] at HM
    have HL := Lib.hid (name_labels n x w hl)
    clear hm hl
    go_enter Tryz.func213, Tryz.ntmps213
    go_wp2_with fail
    refine HM.out.mono ?_; rintro e w' ⟨rfl, rfl⟩
    go_wp2_with fail
    refine HL.out.mono ?_; rintro e w1 ⟨v, rfl, ho, hE⟩
    go_wp2_with fail
    go_ret
    exact ⟨_, rfl, ho, hE.1⟩
abbrev wantedV (n : List UInt8) (cls : Int) : Value := .agg #[S n, .int .u16 cls]
set_option maxHeartbeats 1000000 in
theorem soa_matches (n : List UInt8) (cls : Int) (nm : List UInt8) (ty cl tt : Int) (A : Option Addr) (m c : Nat) (da : List (List UInt8)) (w : World) (hn : n.length ≤ maxLen) (hm : nm.length ≤ maxLen) :
    Calls Tryz.prog 214 #[wantedV n cls, .agg #[S nm, .int .u16 ty, .int .u16 cl, .int .u32 tt, .slice A m c]] w fun e w' => e = .returned (.bool (fitsB n cls ⟨nm, ty, cl, tt, da⟩)) ∧ Ext w w' := by
  have HW := Lib.hid (fun W => name_within n nm W hn hm)
  have Hf : Hid (fitsB n cls ⟨nm, ty, cl, tt, da⟩ = (ty == 6 && (cl == cls && withinN n nm))) := rfl
  generalize fitsB n cls ⟨nm, ty, cl, tt, da⟩ = F at *
  clear hn hm
  by_cases hty : ty = 6
  · subst hty
    by_cases hcl : cl = cls
    · subst hcl
      have f2 : (cl == cl) = true := by simp
      go_enter Tryz.func214, Tryz.ntmps214
      go_wp2_with fail
      refine (HW.out _).mono ?_; rintro e w1 ⟨rfl, hE1⟩
      generalize withinN n nm = b at *
      go_wp2_with fail
      go_ret
      exact ⟨ret_bool (by rw [Hf.out]; simp), (((Ext.refl _).alloc _).alloc _).trans hE1⟩
    · have f2 : (cl == cls) = false := by rw [beq_eq_false_iff_ne]; exact hcl
      have Hf2 := Lib.hid (show F = false by rw [Hf.out, f2]; simp)
      clear hcl
      go_enter Tryz.func214, Tryz.ntmps214
      go_wp2_with fail
      go_ret
      exact ⟨ret_bool Hf2.out.symm, ((Ext.refl _).alloc _).alloc _⟩
  · have f1 : (ty == 6) = false := by rw [beq_eq_false_iff_ne]; exact hty
    have Hf2 := Lib.hid (show F = false by rw [Hf.out, f1]; simp)
    clear hty
    go_enter Tryz.func214, Tryz.ntmps214
    go_wp2_with fail
    go_ret
    exact ⟨ret_bool Hf2.out.symm, ((Ext.refl _).alloc _).alloc _⟩

set_option maxHeartbeats 1000000 in
theorem soa_inner (n : List UInt8) (cls : Int) (nm : List UInt8) (ty cl tt : Int) (A : Option Addr) (m c : Nat) (da : List (List UInt8)) (dep : Int) (w : World) (hn : n.length ≤ maxLen) (hm : nm.length ≤ maxLen) :
    Calls Tryz.prog 152 #[wantedV n cls, .agg #[S nm, .int .u16 ty, .int .u16 cl, .int .u32 tt, .slice A m c], .int .i64 dep] w fun e w' => e = .returned (.bool (fitsB n cls ⟨nm, ty, cl, tt, da⟩ && decide (dep < (labN nm : Int)))) ∧ Ext w w' := by
  have HM := Lib.hid (fun W => soa_matches n cls nm ty cl tt A m c da W hn hm)
  have HL := Lib.hid (fun W => name_Labels nm W hm)
  have hlN : labN nm = ((labelsOf nm).getD []).length := rfl
  rw [hlN]
  generalize (labelsOf nm).getD [] = ls at *
  rcases hf : fitsB n cls ⟨nm, ty, cl, tt, da⟩ with _ | _
  all_goals
    rw [hf] at HM
    clear hf hlN hn hm
    go_enter Tryz.func152, Tryz.ntmps152
    go_wp2_with fail
    refine (HM.out _).mono ?_; rintro e w1 ⟨rfl, hE1⟩
  · go_wp2_with fail
    go_ret
    exact ⟨rfl, (((Ext.refl _).alloc _).alloc _).trans hE1⟩
  · obtain ⟨hq, hqf, hqz⟩ := ext_new_at (w.heap.size + 1) (by simp) hE1
    go_wp2_with fail
    refine (HL.out _).mono ?_; rintro e w2 ⟨v, rfl, ho, hE2⟩
    obtain ⟨B, d, rfl, ho'⟩ := ho
    go_wp2_with fail
    go_ret
    exact ⟨ret_bool (by simp), ((((Ext.refl _).alloc _).alloc _).trans hE1).trans hE2⟩

def foundI : Option (Nat × SetD) → Int
  | none => -1
  | some b => b.1
def depI : Option (Nat × SetD) → Int
  | none => -1
  | some b => labN b.2.name
theorem best_step {l : List SetD} {n : List UInt8} {cls : Int} {k : Nat} {s : SetD} (h : l[k]? = some s) :
    bestTo l n cls (k + 1) = if (fitsB n cls s && decide (depI (bestTo l n cls k) < (labN s.name : Int))) = true then some (k, s) else bestTo l n cls k := by
  conv => lhs; unfold bestTo
  rw [h]
  rcases hb : bestTo l n cls k with _ | b
  · rw [show decide (depI none < (labN s.name : Int)) = true from decide_eq_true (by show (-1 : Int) < _; omega), Bool.and_true]
  · rw [show decide (depI (some b) < (labN s.name : Int)) = decide (labN b.2.name < labN s.name) by rw [decide_eq_decide]; show (labN b.2.name : Int) < _ ↔ _; omega]
theorem best_mem {l : List SetD} {n : List UInt8} {cls : Int} : ∀ {k : Nat} {b : Nat × SetD}, bestTo l n cls k = some b → b.1 < k ∧ l[b.1]? = some b.2
  | 0, b, h => by cases h
  | k + 1, b, h => by
    rcases hk : l[k]? with _ | s
    · unfold bestTo at h
      rw [hk] at h
      have := best_mem h
      exact ⟨by omega, this.2⟩
    · rw [best_step hk] at h
      split at h
      · injection h with h; subst h; exact ⟨Nat.lt_succ_self _, hk⟩
      · have := best_mem h
        exact ⟨by omega, this.2⟩
theorem labN_le (n : List UInt8) : labN n ≤ 255 := by
  unfold labN
  rcases h : labelsOf n with _ | x
  · simp
  · exact labels_len h
theorem dep_bd (b : Option (Nat × SetD)) : -1 ≤ depI b ∧ depI b ≤ 255 := by
  rcases b with _ | b
  · exact ⟨by decide, by decide⟩
  · have := labN_le b.2.name
    exact ⟨by dsimp only [depI]; omega, by dsimp only [depI]; omega⟩

set_option maxHeartbeats 2000000 in
theorem soa_innermost (lo : Nat) (v : Value) (l : List SetD) (n : List UInt8) (cls : Int) (w : World) (h : Sets w lo v l) (hbd : SetsBd l) (hn : n.length ≤ maxLen) :
    Calls Tryz.prog 151 #[v, .func (.func 152) #[wantedV n cls] #[]] w fun e w' => e = .returned (.int .i64 (foundI (bestTo l n cls l.length))) ∧ Ext w w' := by
  obtain ⟨ps, A, c, hl, rfl, h1, h2, hrd, hst⟩ := h
  unfold maxLen at h2
  have hlen : ps.length = l.length := by rw [← hl]; simp
  have HN := Lib.hid hn
  have Hl := Lib.hid hl
  have Hlen := Lib.hid hlen
  have hcf : ∀ args W, (callFunc 152 args).run Tryz.prog W = .ok (.enter 152 args) W := fun args W => by kernel_rfl
  rw [← hlen]
  clear hl hlen hn
  go_enter Tryz.func151, Tryz.ntmps151
  go_wp2_with fail
  go_loopw [5, 6, 11] (fun f d i wr => ∃ k : Nat, k ≤ ps.length ∧ i = .int .i64 k ∧ f = .int .i64 (foundI (bestTo l n cls k)) ∧ d = .int .i64 (depI (bestTo l n cls k)) ∧ Ext w wr) (fun _ _ i _ => ps.length - (intOf i).toNat)
  case atStart => exact ⟨0, by omega, rfl, rfl, rfl, Ext.refl _⟩
  case round =>
    obtain ⟨k, hk, rfl, rfl, rfl, hE⟩ := hrel
    obtain ⟨wo, rfl⟩ : ∃ wo : World, wo = wr := ⟨_, rfl⟩
    by_cases hlt : k < ps.length
    · have hlt' : k < l.length := by rw [← Hlen.out]; exact hlt
      have hp : ps[k]? = some ps[k] := List.getElem?_eq_getElem hlt
      have hpl : l[k]? = some ps[k].1 := by rw [← Hl.out, List.getElem?_map, hp]; rfl
      have hbs := hbd ps[k].1 (List.mem_of_getElem? hpl)
      have hbe := best_step (n := n) (cls := cls) hpl
      have hstr := hst ps[k] (List.getElem_mem hlt)
      generalize ps[k] = p at *
      obtain ⟨b, off, rfl, _, hbz, hc⟩ := hrd.2 (by omega)
      obtain ⟨c0, c1, c2, c3, c4⟩ := sets_cells hc k p hp
      rw [← hE.cell (p := ⟨b, _, none⟩) hbz] at c0 c1 c2 c3 c4
      have Hbe := Lib.hid hbe
      have hnm : p.1.name.length ≤ maxLen := by unfold maxLen; omega
      have hdb := dep_bd (bestTo l n cls k)
      clear hc hp hrd hpl hst hbe
      obtain ⟨⟨nm, ty, cl, tt, da⟩, d⟩ := p
      dsimp only at *
      obtain ⟨dA, dc, rfl⟩ := hstr.shape
      have HI := Lib.hid (fun W => soa_inner n cls nm ty cl tt dA da.length dc da (depI (bestTo l n cls k)) W HN.out hnm)
      have HLb := Lib.hid (fun W => name_Labels nm W hnm)
      have hlb : labN nm = ((labelsOf nm).getD []).length := rfl
      generalize hB : bestTo l n cls k = B at *
      have Hlb := Lib.hid hlb
      clear hlb hB hnm
      generalize (labelsOf nm).getD [] = ls at *
      have hki : (k : Int) < (ps.length : Int) := by omega
      have hk0 : (0 : Int) ≤ (k : Int) := by omega
      rcases hf : (fitsB n cls ⟨nm, ty, cl, tt, da⟩ && decide (depI B < (labN nm : Int))) with _ | _
      · rw [hf] at HI Hbe
        rw [if_neg (by decide)] at Hbe
        clear hf
        go_wp2_with fail
        refine (HI.out _).mono ?_; rintro e w1 ⟨rfl, hE1⟩
        go_wp2_with fail
        go_roundw
        case rel => exact ⟨k + 1, by omega, by go_num, by rw [Hbe.out], by rw [Hbe.out], (hE.alloc _).trans hE1⟩
        case measure => simp [intOf]; omega
      · rw [hf] at HI Hbe
        rw [if_pos rfl] at Hbe
        clear hf
        go_wp2_with fail
        refine (HI.out _).mono ?_; rintro e w1 ⟨rfl, hE1⟩
        obtain ⟨hq, hqf, hqz⟩ := ext_new hE1
        go_wp2_with fail
        refine (HLb.out _).mono ?_; rintro e w2 ⟨vl, rfl, ⟨lA, lc, rfl, hlo⟩, hE2⟩
        go_wp2_with fail
        go_roundw
        case rel => exact ⟨k + 1, by omega, by go_num, by rw [Hbe.out]; rfl, by rw [Hbe.out]; dsimp only [depI]; rw [Hlb.out], ((hE.alloc _).trans hE1).trans hE2⟩
        case measure => simp [intOf]; omega
    · obtain rfl : k = ps.length := by omega
      go_wp2_with fail
      go_ret
      exact ⟨rfl, hE⟩
def SoaPost (r : SoaR) (w : World) (e : Ending) (w' : World) : Prop :=
  ∃ d, e = .returned (.tuple #[setVal (r.set.getD SetD.zero) d, .bool r.set.isSome, .int .i64 r.err]) ∧ OStrs w' w.heap.size d (r.set.getD SetD.zero).data ∧ Ext w w'

set_option maxHeartbeats 2000000 in
theorem soa_find (lo : Nat) (v : Value) (l : List SetD) (n : List UInt8) (cls : Int) (w : World) (h : Sets w lo v l) (hbd : SetsBd l) (hn : n.length ≤ maxLen) :
    Calls Tryz.prog 87 #[v, S n, .int .u16 cls] w (SoaPost (soaFind l n cls) w) := by
  have HI := Lib.hid (fun W (hW : Ext w W) => soa_innermost lo v l n cls W (h.ext hW) hbd hn)
  have Hh := Lib.hid h
  obtain ⟨ps, A, c, hl, rfl, h1, h2, hrd, hst⟩ := h
  unfold maxLen at h2
  have hlen : ps.length = l.length := by rw [← hl]; simp
  have hS : soaFind l n cls = soaOf (bestTo l n cls l.length) := rfl
  rw [hS]
  rcases hb : bestTo l n cls l.length with _ | ⟨j, s⟩
  · rw [hb] at HI
    clear hS hb hlen hl hst hrd
    go_enter Tryz.func87, Tryz.ntmps87
    go_wp2_with fail
    refine (HI.out _ (((Ext.refl _).alloc _).alloc _)).mono ?_; rintro e w1 ⟨rfl, hE1⟩
    obtain ⟨hq, hqf, hqz⟩ := ext_new_at w.heap.size rfl (((Ext.refl _).alloc _).trans hE1)
    dsimp only [foundI]
    go_wp2_with fail
    refine bodyPost_ret (v := .tuple #[setVal SetD.zero (.slice none 0 0), .bool false, .int .i64 0]) (by simp [results, Tryz.results87, go_sem, hq, hqf, hqz, SetD.zero]) rfl ?_
    exact ⟨_, rfl, ⟨none, 0, rfl, Own.nil _ _ _ _⟩, by have := (((Ext.refl w).alloc _).alloc _).trans hE1; (repeat (first | with_reducible exact Ext.refl _ | with_reducible assumption | with_reducible refine Ext.alloc ?_ _ | with_reducible refine Ext.drewN ?_ _ | with_reducible refine Ext.drew ?_ | (with_reducible refine Ext.setCell ?_ ?hp _; case hp => (simp <;> omega))))⟩
  · obtain ⟨hj, hjs⟩ := best_mem hb
    rw [hb] at HI
    dsimp only at hj hjs
    have hbs := hbd s (List.mem_of_getElem? hjs)
    have hjp : j < ps.length := by rw [hlen]; exact hj
    have hp : ps[j]? = some ps[j] := List.getElem?_eq_getElem hjp
    have hps : ps[j].1 = s := by
      rw [← hl, List.getElem?_map, hp] at hjs
      exact Option.some.inj hjs
    have hstr := hst ps[j] (List.getElem_mem hjp)
    generalize ps[j] = p at *
    obtain ⟨⟨nm, ty, cl, tt, da⟩, d⟩ := p
    dsimp only at *
    subst hps
    obtain ⟨b, off, rfl, _, hbz, hc⟩ := hrd.2 (by omega)
    obtain ⟨c0, c1, c2, c3, c4⟩ := sets_cells hc j _ hp
    have Hstr := Lib.hid hstr
    obtain ⟨dA, dc, rfl⟩ := hstr.shape
    have hd0 : (0 : Int) ≤ (j : Int) := by omega
    have hji : (j : Int) < (ps.length : Int) := by omega
    have Hlen := Lib.hid hlen
    have hjn : decide ((j : Int) < 0) = false := by simp
    clear hS hb hc hl hlen hjs hp hst hrd hstr
    dsimp only [foundI] at HI
    by_cases hd1 : da.length = 1
    · have hso : soaOf (some (j, ⟨nm, ty, cl, tt, da⟩)) = ⟨some ⟨nm, ty, cl, tt, da⟩, 0⟩ := if_pos hd1
      rw [hso]
      clear hso
      have f1 : ((da.length : Int) != 1) = false := by rw [hd1]; rfl
      have HC := Lib.hid (fun W (hW : Ext w W) => sl_clone lo _ da W (Hstr.out.ext hW) (by omega))
      have Hd1 := Lib.hid hd1
      clear hd1
      go_enter Tryz.func87, Tryz.ntmps87
      go_wp2_with fail
      refine (HI.out _ (((Ext.refl _).alloc _).alloc _)).mono ?_; rintro e w1 ⟨rfl, hE1⟩
      have hEw1 : Ext w w1 := (((Ext.refl _).alloc _).alloc _).trans hE1
      obtain ⟨hq, hqf, hqz⟩ := ext_new_at w.heap.size rfl (((Ext.refl _).alloc _).trans hE1)
      have y0 := (hEw1.cell (p := ⟨b, off + j * 5, none⟩) hbz).trans c0
      have y1 := (hEw1.cell (p := ⟨b, off + j * 5 + 1, none⟩) hbz).trans c1
      have y2 := (hEw1.cell (p := ⟨b, off + j * 5 + 2, none⟩) hbz).trans c2
      have y3 := (hEw1.cell (p := ⟨b, off + j * 5 + 3, none⟩) hbz).trans c3
      have y4 := (hEw1.cell (p := ⟨b, off + j * 5 + 4, none⟩) hbz).trans c4
      clear c0 c1 c2 c3 c4
      go_wp2_with fail
      refine (HC.out _ (by (repeat (first | with_reducible exact Ext.refl _ | with_reducible assumption | with_reducible refine Ext.alloc ?_ _ | with_reducible refine Ext.drewN ?_ _ | with_reducible refine Ext.drew ?_ | (with_reducible refine Ext.setCell ?_ ?hp _; case hp => (simp <;> omega)))))).mono ?_; rintro e w2 ⟨v2, rfl, ⟨A5, c5, rfl, ho5⟩, hE2⟩
      have hz1 : w.heap.size < w1.heap.size := hqz
      have hb5 := box5 hq (S nm) (.int .u16 ty) (.int .u16 cl) (.int .u32 tt) (.slice dA da.length dc)
      have hb2 : ∀ j, w2.cell? ⟨w.heap.size, j, none⟩ = #[S nm, .int .u16 ty, .int .u16 cl, .int .u32 tt, .slice dA da.length dc][j]? := fun j => (hE2.cell (p := ⟨w.heap.size, j, none⟩) (by simpa using hz1)).trans (hb5 j)
      have hf2 : ∀ j, w2.frozen? ⟨w.heap.size, j, none⟩ = false := fun j => (hE2.frozen (p := ⟨w.heap.size, j, none⟩) (by simpa using hz1)).trans (by simpa using hqf j)
      have hz2 : w.heap.size < w2.heap.size := by have := hE2.size; simp at this; omega
      clear hb5 hq hqf y0 y1 y2 y3 y4
      go_wp2_with fail
      refine bodyPost_ret (v := .tuple #[setVal ⟨nm, ty, cl, tt, da⟩ (.slice A5 da.length c5), .bool true, .int .i64 0]) (by simp [results, Tryz.results87, go_sem, hb2, hf2, hz2]) rfl ?_
      refine ⟨_, rfl, ⟨A5, c5, rfl, ?_⟩, ?_⟩
      · have hlo : w.heap.size + 1 < w2.heap.size + 1 := by omega
        refine Own.lower (lo := (w1.heap.size)) ?_ (by omega)
        repeat (with_reducible refine Own.set_other ?_ ?hp _; case hp => (simp <;> omega))
        exact ho5.lower (by simp)
      · have hEw2 : Ext w w2 := Ext.trans (by (repeat (first | with_reducible exact Ext.refl _ | with_reducible assumption | with_reducible refine Ext.alloc ?_ _ | with_reducible refine Ext.drewN ?_ _ | with_reducible refine Ext.drew ?_ | (with_reducible refine Ext.setCell ?_ ?hp _; case hp => (simp <;> omega))))) hE2
        (repeat (first | with_reducible exact Ext.refl _ | with_reducible assumption | with_reducible refine Ext.alloc ?_ _ | with_reducible refine Ext.drewN ?_ _ | with_reducible refine Ext.drew ?_ | (with_reducible refine Ext.setCell ?_ ?hp _; case hp => (simp <;> omega))))
    · have hso : soaOf (some (j, ⟨nm, ty, cl, tt, da⟩)) = ⟨none, 3⟩ := if_neg hd1
      rw [hso]
      clear hso
      obtain ⟨f1, f2⟩ := ne_one hd1
      clear hd1
      go_enter Tryz.func87, Tryz.ntmps87
      go_wp2_with fail
      refine (HI.out _ (((Ext.refl _).alloc _).alloc _)).mono ?_; rintro e w1 ⟨rfl, hE1⟩
      have hEw1 : Ext w w1 := (((Ext.refl _).alloc _).alloc _).trans hE1
      obtain ⟨hq, hqf, hqz⟩ := ext_new_at w.heap.size rfl (((Ext.refl _).alloc _).trans hE1)
      have y0 := (hEw1.cell (p := ⟨b, off + j * 5, none⟩) hbz).trans c0
      have y1 := (hEw1.cell (p := ⟨b, off + j * 5 + 1, none⟩) hbz).trans c1
      have y2 := (hEw1.cell (p := ⟨b, off + j * 5 + 2, none⟩) hbz).trans c2
      have y3 := (hEw1.cell (p := ⟨b, off + j * 5 + 3, none⟩) hbz).trans c3
      have y4 := (hEw1.cell (p := ⟨b, off + j * 5 + 4, none⟩) hbz).trans c4
      clear c0 c1 c2 c3 c4
      go_wp2_with fail
      obtain ⟨X, hX⟩ : ∃ X, X = ((((((((((w1.setCell ⟨w.heap.size, 0, none⟩ (S nm)).setCell ⟨w.heap.size, 1, none⟩ (.int .u16 ty)).setCell ⟨w.heap.size, 2, none⟩ (.int .u16 cl)).setCell ⟨w.heap.size, 3, none⟩ (.int .u32 tt)).setCell ⟨w.heap.size, 4, none⟩ (.slice dA da.length dc)).setCell ⟨w.heap.size, 0, none⟩ (S [])).setCell ⟨w.heap.size, 1, none⟩ (.int .u16 0)).setCell ⟨w.heap.size, 2, none⟩ (.int .u16 0)).setCell ⟨w.heap.size, 3, none⟩ (.int .u32 0)).setCell ⟨w.heap.size, 4, none⟩ (.slice none 0 0)) := ⟨_, rfl⟩
      have hbX : ∀ j, X.cell? ⟨w.heap.size, j, none⟩ = #[S [], .int .u16 0, .int .u16 0, .int .u32 0, .slice none 0 0][j]? := by rw [hX]; exact box5 (box5 hq (S nm) (.int .u16 ty) (.int .u16 cl) (.int .u32 tt) (.slice dA da.length dc)) (S []) (.int .u16 0) (.int .u16 0) (.int .u32 0) (.slice none 0 0)
      have hfX : ∀ j, X.frozen? ⟨w.heap.size, j, none⟩ = false := fun j => by rw [hX]; simpa using hqf j
      have hEX : Ext w X := by rw [hX]; (repeat (first | with_reducible exact Ext.refl _ | with_reducible assumption | with_reducible refine Ext.alloc ?_ _ | with_reducible refine Ext.drewN ?_ _ | with_reducible refine Ext.drew ?_ | (with_reducible refine Ext.setCell ?_ ?hp _; case hp => (simp <;> omega))))
      have hz1 : w.heap.size < w1.heap.size := hqz
      have hzX : w.heap.size < X.heap.size := by rw [hX]; simp; omega
      refine (show _ from ?_ : bodyPost Tryz.prog Tryz.f87 _ Exit.ret _ ((((((((((w1.setCell ⟨w.heap.size, 0, none⟩ (S nm)).setCell ⟨w.heap.size, 1, none⟩ (.int .u16 ty)).setCell ⟨w.heap.size, 2, none⟩ (.int .u16 cl)).setCell ⟨w.heap.size, 3, none⟩ (.int .u32 tt)).setCell ⟨w.heap.size, 4, none⟩ (.slice dA da.length dc)).setCell ⟨w.heap.size, 0, none⟩ (S [])).setCell ⟨w.heap.size, 1, none⟩ (.int .u16 0)).setCell ⟨w.heap.size, 2, none⟩ (.int .u16 0)).setCell ⟨w.heap.size, 3, none⟩ (.int .u32 0)).setCell ⟨w.heap.size, 4, none⟩ (.slice none 0 0)))
      rw [← hX]
      refine bodyPost_ret (v := .tuple #[setVal SetD.zero (.slice none 0 0), .bool false, .int .i64 3]) (by simp [results, Tryz.results87, go_sem, hbX, hfX, hzX, SetD.zero]) rfl ?_
      exact ⟨_, rfl, ⟨none, 0, rfl, Own.nil _ _ _ _⟩, hEX⟩
theorem OSets.shape {w : World} {lo : Nat} {v : Value} {l : List SetD} (h : OSets w lo v l) : ∃ A c, v = .slice A l.length c ∧ l.length ≤ c ∧ c ≤ maxLen := by
  obtain ⟨ps, A, c, h1, h2, h3, _⟩ := h
  have hl : ps.length = l.length := by rw [← h1]; simp
  exact ⟨A, c, by rw [h2, hl], by rw [← hl]; exact h3.cap.1, h3.cap.2⟩
def KeptT (w w' : World) : Prop := ∀ (g : Nat) (cs : Array Value) (t : TypeId) (m : Nat × Nat), t ≠ 5 → w.heap[g]? = some (.cells cs t m) → w'.heap[g]? = some (.cells cs t m)
theorem KeptT.refl (w : World) : KeptT w w := fun _ _ _ _ _ h => h
theorem KeptT.trans {a b c : World} (h : KeptT a b) (k : KeptT b c) : KeptT a c := fun g cs t m ht hh => k g cs t m ht (h g cs t m ht hh)
theorem KeptT.ext {w w' : World} (h : Ext w w') : KeptT w w' := fun g cs t m _ hh => (h.block g (Array.getElem?_eq_some_iff.1 hh).1).trans hh
theorem KeptT.cells {w w' : World} (h : KeptT w w') {g : Nat} {cs : Array Value} {t : TypeId} {m : Nat × Nat} (ht : t ≠ 5) (hh : w.heap[g]? = some (.cells cs t m)) : ∀ j, w'.cell? ⟨g, j, none⟩ = cs[j]? := fun j => by
  have := h g cs t m ht hh
  simp [World.cell?, this]
end Go.Proofs.YtdnpmapelmjfpaaGreatDoor
