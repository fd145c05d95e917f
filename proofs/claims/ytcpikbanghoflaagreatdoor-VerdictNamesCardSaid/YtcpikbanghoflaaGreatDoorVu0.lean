/- Contracts of functions and plain lemmas that the proofs of this seat share (joined texts). No condition. -/
import Derived.Test.YtcpikbanghoflaaGreatDoorVs
import Derived.Test.YtcpikbanghoflaaGreatDoorVh0
import Derived.Test.YtcpikbanghoflaaGreatDoorVq
import Derived.Deep.DeepCutAuto
namespace Go.Proofs.YtcpikbanghoflaaGreatDoor
set_option linter.unusedSimpArgs false
set_option linter.unusedVariables false
open Go.RowKit
set_option maxRecDepth 100000
theorem within_in {n z : List UInt8} {a b : List (List UInt8)} (ha : labelsOf n = some a) (hb : labelsOf z = some b) : withinN n z = sufL a (b.map low) := by
  unfold withinN; rw [ha, hb]
theorem within_no {n z : List UInt8} (h : may n = false ∨ may z = false) : withinN n z = false := by
  unfold withinN may at *
  rcases h with h | h
  · rcases hn : labelsOf n with _ | a
    · rfl
    · rw [hn] at h; cases h
  · rcases hz : labelsOf z with _ | b
    · cases labelsOf n <;> rfl
    · rw [hz] at h; cases h
theorem parse_labels {l : List UInt8} {x : List (List UInt8)} (h : labelsOf l = some x) : l.length ≤ 255 ∧ parse l = some x := by
  unfold labelsOf at h
  split at h
  · exact ⟨‹_›, h⟩
  · cases h
theorem may_some {l : List UInt8} (h : may l = true) : ∃ x, labelsOf l = some x := by
  unfold may at h
  exact Option.isSome_iff_exists.1 h
theorem label_on {l : List UInt8} {k : Nat} {rs : List (List UInt8)} (hp : parse (l.drop k) = some rs) (hk : k + 1 < l.length) :
    ∃ (b : UInt8) (x : List UInt8) (r : List (List UInt8)), l[k]? = some b ∧ rs = x :: r ∧ parse (l.drop (k + 1 + b.toNat)) = some r ∧ k + 1 + b.toNat < l.length ∧ b.toNat ≤ 63 := by
  have hlt : k < l.length := by omega
  have h := hp
  rw [drop_cons l k hlt, parse_cons] at h
  split at h
  · rename_i h0
    split at h
    · rename_i hd
      have := congrArg List.length hd
      rw [List.length_drop, List.length_nil] at this
      omega
    · cases h
  · split at h
    · cases h
    · rename_i h63
      rw [Option.map_eq_some_iff, List.drop_drop] at h
      obtain ⟨r, hr, he⟩ := h
      refine ⟨l[k], _, r, List.getElem?_eq_getElem hlt, he.symm, hr, ?_, by omega⟩
      rcases Nat.lt_or_ge (k + 1 + l[k].toNat) l.length with h' | h'
      · exact h'
      · rw [List.drop_of_length_le h', parse_nil] at hr; cases hr

set_option maxHeartbeats 1000000 in
theorem name_within (n z : List UInt8) (w : World) (hn : n.length ≤ maxLen) (hz : z.length ≤ maxLen) :
    Calls Tryz.prog 104 #[S n, S z] w fun e w' => e = .returned (.bool (withinN n z)) ∧ Ext w w' := by
  have HM := Lib.hid (fun W => name_may n W hn)
  have HZ := Lib.hid (fun W => name_may z W hz)
  have HLw := Lib.hid (fun (l : List UInt8) W (h : l.length ≤ maxLen) => name_lower l W h)
  rcases hmn : may n with _ | _
  · rw [hmn] at HM
    rw [within_no (.inl hmn)]
    clear hmn hn hz
    go_enter Tryz.func104, Tryz.ntmps104
    go_wp2_with fail
    refine (HM.out _).mono ?_; rintro e w' ⟨rfl, rfl⟩
    go_wp2_with fail
    go_ret
    exact ⟨rfl, Ext.refl _⟩
  rcases hmz : may z with _ | _
  · rw [hmn] at HM
    rw [hmz] at HZ
    rw [within_no (.inr hmz)]
    clear hmn hmz hn hz
    go_enter Tryz.func104, Tryz.ntmps104
    go_wp2_with fail
    refine (HM.out _).mono ?_; rintro e w' ⟨rfl, rfl⟩
    go_wp2_with fail
    refine (HZ.out _).mono ?_; rintro e w' ⟨rfl, rfl⟩
    go_wp2_with fail
    go_ret
    exact ⟨rfl, Ext.refl _⟩
  obtain ⟨a, ha⟩ := may_some hmn
  obtain ⟨b, hb⟩ := may_some hmz
  rw [hmn] at HM
  rw [hmz] at HZ
  rw [within_in ha hb]
  obtain ⟨hn5, hpn⟩ := parse_labels ha
  obtain ⟨hz5, hpz⟩ := parse_labels hb
  obtain ⟨_, hzb, hbl⟩ := labels_bytes hb
  have hz0 : 0 < z.length := by rw [hzb]; exact bytesOf_pos _
  have hbb : (bytesOf b).length = z.length := by rw [hzb]
  have HB : Hid ((bytesOf (b.map low)).length = z.length ∧ (∀ x ∈ b, 0 < x.length ∧ x.length ≤ 63) ∧ low (bytesOf b) = low z) := ⟨by rw [bytesOf_low_len]; exact hbb, hbl, by rw [← hzb]⟩
  have HPn := Lib.hid hpn
  obtain ⟨W0, hW0⟩ : ∃ W0, sufL a (b.map low) = W0 := ⟨_, rfl⟩
  have HW0 := Lib.hid hW0
  rw [hW0]
  have hn0 : 0 < n.length := by
    rcases n with _ | ⟨_, _⟩
    · rw [parse_nil] at hpn; cases hpn
    · simp
  clear hW0 hpn hpz hmn hmz ha hb hbb hzb hbl hn hz
  go_enter Tryz.func104, Tryz.ntmps104
  go_wp2_with fail
  refine (HM.out _).mono ?_; rintro e w' ⟨rfl, rfl⟩
  go_wp2_with fail
  refine (HZ.out _).mono ?_; rintro e w' ⟨rfl, rfl⟩
  go_wp2_with fail
  go_loop [6] (fun i => ∃ (k : Nat) (rs : List (List UInt8)), i = .int .i64 k ∧ k < n.length ∧ parse (n.drop k) = some rs ∧ sufL rs (b.map low) = W0) (fun i => n.length - (intOf i).toNat)
  case atStart => exact ⟨0, a, rfl, hn0, HPn.out, HW0.out⟩
  case round =>
    obtain ⟨k, rs, rfl, hk, hpk, hsk⟩ := hrel
    obtain ⟨hrb, hrl⟩ := parse_bytes _ _ _ (Nat.le_refl _) hpk
    have hlen : (bytesOf rs).length = n.length - k := by rw [← hrb, List.length_drop]
    have Hrb := Lib.hid hrb
    have Hpk := Lib.hid hpk
    have Hsk := Lib.hid hsk
    clear hrb hpk hsk
    by_cases hc : (k : Int) < (n.length : Int) - (z.length : Int)
    · obtain ⟨c, x, r, hg, hrs, hpr, hk2, h63⟩ := label_on Hpk.out (by omega)
      obtain ⟨b', Hb, hget, hwb, hbd⟩ := byte_at n k (by omega)
      have hcb : c = b' := by
        have h1 := List.getElem?_eq_getElem (l := n) (i := k) (by omega)
        rw [h1, Hb.out] at hg
        exact (Option.some.inj hg).symm
      subst hcb
      have HR : Hid (parse (n.drop (k + 1 + c.toNat)) = some r ∧ sufL r (b.map low) = W0) := ⟨hpr, by
        rw [← sufL_long x r _ (by rw [HB.out.1, ← hrs, hlen]; omega), ← hrs]; exact Hsk.out⟩
      clear hg hrs hpr hlen
      go_wp2_with fail
      go_round
      case rel => exact ⟨k + 1 + c.toNat, r, by first | go_num | (congr 1; omega), hk2, HR.out.1, HR.out.2⟩
      case measure => simp [intOf]; omega
    · by_cases he : (k : Int) = (n.length : Int) - (z.length : Int)
      · have g1 : ((k : Int) == (n.length : Int) - (z.length : Int)) = true := by rw [beq_iff_eq]; exact he
        have ht : (n.drop k).take (n.length - k) = n.drop k := List.take_of_length_le (by rw [List.length_drop]; omega)
        have HF : Hid (W0 = (low ((n.drop k).take (n.length - k)) == low z)) := by
          show W0 = _
          rw [ht, ← Hsk.out, sufL_same hrl HB.out.2.1 (by rw [hlen]; have := HB.out.1; rw [bytesOf_low_len] at this; omega), HB.out.2.2, ← Hrb.out]
        have hzl : z.length ≤ maxLen := by unfold maxLen; omega
        have hnl : ((n.drop k).take (n.length - k)).length ≤ maxLen := by rw [ht, List.length_drop]; unfold maxLen; omega
        have HLk := Lib.hid (fun W => HLw.out ((n.drop k).take (n.length - k)) W hnl)
        have HLz := Lib.hid (fun W => HLw.out z W hzl)
        clear he hlen hnl hzl ht
        go_wp2_with fail
        refine (HLk.out _).mono ?_; rintro e w1 ⟨rfl, hE1⟩
        go_wp2_with fail
        refine (HLz.out _).mono ?_; rintro e w2 ⟨rfl, hE2⟩
        go_wp2_with fail
        go_ret
        exact ⟨ret_bool HF.out.symm, hE1.trans hE2⟩
      · have g1 : ((k : Int) == (n.length : Int) - (z.length : Int)) = false := by rw [beq_eq_false_iff_ne]; exact he
        have HF : Hid (W0 = false) := by
          show W0 = _
          rw [← Hsk.out]
          exact sufL_short _ _ (by rw [hlen, HB.out.1]; omega)
        clear he hlen
        go_wp2_with fail
        go_ret
        exact ⟨ret_bool HF.out.symm, Ext.refl _⟩

theorem name_Labels (n : List UInt8) (w : World) (hn : n.length ≤ maxLen) :
    Calls Tryz.prog 92 #[S n] w fun e w' => ∃ v, e = .returned v ∧ OStrs w' w.heap.size v ((labelsOf n).getD []) ∧ Ext w w' := by
  have HM := Lib.hid (name_may n w hn)
  rcases hl : labelsOf n with _ | x
  · have hm : may n = false := by unfold may; rw [hl]; rfl
    rw [hm] at HM
    clear hm hl
    go_enter Tryz.func92, Tryz.ntmps92
    go_wp2_with fail
    refine HM.out.mono ?_; rintro e w' ⟨rfl, rfl⟩
    go_wp2_with fail
    go_ret
    exact ⟨_, rfl, ⟨none, 0, rfl, Own.nil _ _ _ _⟩, Ext.refl _⟩
  · have hm : may n = true := by unfold may; rw [hl]; rfl
    rw [hm] at HM
    have HL := Lib.hid (name_labels n x w hl)
    clear hm hl
    go_enter Tryz.func92, Tryz.ntmps92
    go_wp2_with fail
    refine HM.out.mono ?_; rintro e w' ⟨rfl, rfl⟩
    go_wp2_with fail
    refine HL.out.mono ?_; rintro e w1 ⟨v, rfl, ho, hE⟩
    go_wp2_with fail
    go_ret
    exact ⟨_, rfl, ho, hE.1⟩
abbrev wantedV (n : List UInt8) (cls : Int) : Value := .agg #[S n, .int .u16 cls]
set_option maxHeartbeats 1000000 in
theorem soa_matches (n : List UInt8) (cls : Int) (nm : List UInt8) (ty cl tt : Int) (A : Option Addr) (m c : Nat) (da : List (List UInt8)) (w : World) (hn : n.length ≤ maxLen) (hm : nm.length ≤ maxLen) :
    Calls Tryz.prog 93 #[wantedV n cls, .agg #[S nm, .int .u16 ty, .int .u16 cl, .int .u32 tt, .slice A m c]] w fun e w' => e = .returned (.bool (fitsB n cls ⟨nm, ty, cl, tt, da⟩)) ∧ Ext w w' := by
  have HW := Lib.hid (fun W => name_within n nm W hn hm)
  have Hf : Hid (fitsB n cls ⟨nm, ty, cl, tt, da⟩ = (ty == 6 && (cl == cls && withinN n nm))) := rfl
  generalize fitsB n cls ⟨nm, ty, cl, tt, da⟩ = F at *
  clear hn hm
  by_cases hty : ty = 6
  · subst hty
    by_cases hcl : cl = cls
    · subst hcl
      have f2 : (cl == cl) = true := by simp
      go_enter Tryz.func93, Tryz.ntmps93
      go_wp2_with fail
      refine (HW.out _).mono ?_; rintro e w1 ⟨rfl, hE1⟩
      generalize withinN n nm = b at *
      go_wp2_with fail
      go_ret
      exact ⟨ret_bool (by rw [Hf.out]; simp), (((Ext.refl _).alloc _).alloc _).trans hE1⟩
    · have f2 : (cl == cls) = false := by rw [beq_eq_false_iff_ne]; exact hcl
      have Hf2 := Lib.hid (show F = false by rw [Hf.out, f2]; simp)
      clear hcl
      go_enter Tryz.func93, Tryz.ntmps93
      go_wp2_with fail
      go_ret
      exact ⟨ret_bool Hf2.out.symm, ((Ext.refl _).alloc _).alloc _⟩
  · have f1 : (ty == 6) = false := by rw [beq_eq_false_iff_ne]; exact hty
    have Hf2 := Lib.hid (show F = false by rw [Hf.out, f1]; simp)
    clear hty
    go_enter Tryz.func93, Tryz.ntmps93
    go_wp2_with fail
    go_ret
    exact ⟨ret_bool Hf2.out.symm, ((Ext.refl _).alloc _).alloc _⟩

set_option maxHeartbeats 1000000 in
theorem soa_inner (n : List UInt8) (cls : Int) (nm : List UInt8) (ty cl tt : Int) (A : Option Addr) (m c : Nat) (da : List (List UInt8)) (dep : Int) (w : World) (hn : n.length ≤ maxLen) (hm : nm.length ≤ maxLen) :
    Calls Tryz.prog 55 #[wantedV n cls, .agg #[S nm, .int .u16 ty, .int .u16 cl, .int .u32 tt, .slice A m c], .int .i64 dep] w fun e w' => e = .returned (.bool (fitsB n cls ⟨nm, ty, cl, tt, da⟩ && decide (dep < (labN nm : Int)))) ∧ Ext w w' := by
  have HM := Lib.hid (fun W => soa_matches n cls nm ty cl tt A m c da W hn hm)
  have HL := Lib.hid (fun W => name_Labels nm W hm)
  have hlN : labN nm = ((labelsOf nm).getD []).length := rfl
  rw [hlN]
  generalize (labelsOf nm).getD [] = ls at *
  rcases hf : fitsB n cls ⟨nm, ty, cl, tt, da⟩ with _ | _
  all_goals
    rw [hf] at HM
    clear hf hlN hn hm
    go_enter Tryz.func55, Tryz.ntmps55
    go_wp2_with fail
    refine (HM.out _).mono ?_; rintro e w1 ⟨rfl, hE1⟩
  · go_wp2_with fail
    go_ret
    exact ⟨rfl, (((Ext.refl _).alloc _).alloc _).trans hE1⟩
  · obtain ⟨hq, hqf, hqz⟩ := ext_new_at (w.heap.size + 1) (by simp) hE1
    go_wp2_with fail
    refine (HL.out _).mono ?_; rintro e w2 ⟨v, rfl, ho, hE2⟩
    obtain ⟨B, d, rfl, ho'⟩ := ho
    go_wp2_with fail
    go_ret
    exact ⟨ret_bool (by simp), ((((Ext.refl _).alloc _).alloc _).trans hE1).trans hE2⟩

def foundI : Option (Nat × SetD) → Int
  | none => -1
  | some b => b.1
def depI : Option (Nat × SetD) → Int
  | none => -1
  | some b => labN b.2.name
theorem best_step {l : List SetD} {n : List UInt8} {cls : Int} {k : Nat} {s : SetD} (h : l[k]? = some s) :
    bestTo l n cls (k + 1) = if (fitsB n cls s && decide (depI (bestTo l n cls k) < (labN s.name : Int))) = true then some (k, s) else bestTo l n cls k := by
  conv => lhs; unfold bestTo
  rw [h]
  rcases hb : bestTo l n cls k with _ | b
  · rw [show decide (depI none < (labN s.name : Int)) = true from decide_eq_true (by show (-1 : Int) < _; omega), Bool.and_true]
  · rw [show decide (depI (some b) < (labN s.name : Int)) = decide (labN b.2.name < labN s.name) by rw [decide_eq_decide]; show (labN b.2.name : Int) < _ ↔ _; omega]
theorem best_mem {l : List SetD} {n : List UInt8} {cls : Int} : ∀ {k : Nat} {b : Nat × SetD}, bestTo l n cls k = some b → b.1 < k ∧ l[b.1]? = some b.2
  | 0, b, h => by cases h
  | k + 1, b, h => by
    rcases hk : l[k]? with _ | s
    · unfold bestTo at h
      rw [hk] at h
      have := best_mem h
      exact ⟨by omega, this.2⟩
    · rw [best_step hk] at h
      split at h
      · injection h with h; subst h; exact ⟨Nat.lt_succ_self _, hk⟩
      · have := best_mem h
        exact ⟨by omega, this.2⟩
theorem labN_le (n : List UInt8) : labN n ≤ 255 := by
  unfold labN
  rcases h : labelsOf n with _ | x
  · simp
  · exact labels_len h
theorem dep_bd (b : Option (Nat × SetD)) : -1 ≤ depI b ∧ depI b ≤ 255 := by
  rcases b with _ | b
  · exact ⟨by decide, by decide⟩
  · have := labN_le b.2.name
    exact ⟨by dsimp only [depI]; omega, by dsimp only [depI]; omega⟩

set_option maxHeartbeats 2000000 in
theorem soa_innermost (lo : Nat) (v : Value) (l : List SetD) (n : List UInt8) (cls : Int) (w : World) (h : Sets w lo v l) (hbd : SetsBd l) (hn : n.length ≤ maxLen) :
    Calls Tryz.prog 54 #[v, .func (.func 55) #[wantedV n cls] #[]] w fun e w' => e = .returned (.int .i64 (foundI (bestTo l n cls l.length))) ∧ Ext w w' := by
  obtain ⟨ps, A, c, hl, rfl, h1, h2, hrd, hst⟩ := h
  unfold maxLen at h2
  have hlen : ps.length = l.length := by rw [← hl]; simp
  have HN := Lib.hid hn
  have Hl := Lib.hid hl
  have Hlen := Lib.hid hlen
  have hcf : ∀ args W, (callFunc 55 args).run Tryz.prog W = .ok (.enter 55 args) W := fun args W => by kernel_rfl
  rw [← hlen]
  clear hl hlen hn
  go_enter Tryz.func54, Tryz.ntmps54
  go_wp2_with fail
  go_loopw [5, 6, 11] (fun f d i wr => ∃ k : Nat, k ≤ ps.length ∧ i = .int .i64 k ∧ f = .int .i64 (foundI (bestTo l n cls k)) ∧ d = .int .i64 (depI (bestTo l n cls k)) ∧ Ext w wr) (fun _ _ i _ => ps.length - (intOf i).toNat)
  case atStart => exact ⟨0, by omega, rfl, rfl, rfl, Ext.refl _⟩
  case round =>
    obtain ⟨k, hk, rfl, rfl, rfl, hE⟩ := hrel
    obtain ⟨wo, rfl⟩ : ∃ wo : World, wo = wr := ⟨_, rfl⟩
    by_cases hlt : k < ps.length
    · have hlt' : k < l.length := by rw [← Hlen.out]; exact hlt
      have hp : ps[k]? = some ps[k] := List.getElem?_eq_getElem hlt
      have hpl : l[k]? = some ps[k].1 := by rw [← Hl.out, List.getElem?_map, hp]; rfl
      have hbs := hbd ps[k].1 (List.mem_of_getElem? hpl)
      have hbe := best_step (n := n) (cls := cls) hpl
      have hstr := hst ps[k] (List.getElem_mem hlt)
      generalize ps[k] = p at *
      obtain ⟨b, off, rfl, _, hbz, hc⟩ := hrd.2 (by omega)
      obtain ⟨c0, c1, c2, c3, c4⟩ := sets_cells hc k p hp
      rw [← hE.cell (p := ⟨b, _, none⟩) hbz] at c0 c1 c2 c3 c4
      have Hbe := Lib.hid hbe
      have hnm : p.1.name.length ≤ maxLen := by unfold maxLen; omega
      have hdb := dep_bd (bestTo l n cls k)
      clear hc hp hrd hpl hst hbe
      obtain ⟨⟨nm, ty, cl, tt, da⟩, d⟩ := p
      dsimp only at *
      obtain ⟨dA, dc, rfl⟩ := hstr.shape
      have HI := Lib.hid (fun W => soa_inner n cls nm ty cl tt dA da.length dc da (depI (bestTo l n cls k)) W HN.out hnm)
      have HLb := Lib.hid (fun W => name_Labels nm W hnm)
      have hlb : labN nm = ((labelsOf nm).getD []).length := rfl
      generalize hB : bestTo l n cls k = B at *
      have Hlb := Lib.hid hlb
      clear hlb hB hnm
      generalize (labelsOf nm).getD [] = ls at *
      have hki : (k : Int) < (ps.length : Int) := by omega
      have hk0 : (0 : Int) ≤ (k : Int) := by omega
      rcases hf : (fitsB n cls ⟨nm, ty, cl, tt, da⟩ && decide (depI B < (labN nm : Int))) with _ | _
      · rw [hf] at HI Hbe
        rw [if_neg (by decide)] at Hbe
        clear hf
        go_wp2_with fail
        refine (HI.out _).mono ?_; rintro e w1 ⟨rfl, hE1⟩
        go_wp2_with fail
        go_roundw
        case rel => exact ⟨k + 1, by omega, by go_num, by rw [Hbe.out], by rw [Hbe.out], (hE.alloc _).trans hE1⟩
        case measure => simp [intOf]; omega
      · rw [hf] at HI Hbe
        rw [if_pos rfl] at Hbe
        clear hf
        go_wp2_with fail
        refine (HI.out _).mono ?_; rintro e w1 ⟨rfl, hE1⟩
        obtain ⟨hq, hqf, hqz⟩ := ext_new hE1
        go_wp2_with fail
        refine (HLb.out _).mono ?_; rintro e w2 ⟨vl, rfl, ⟨lA, lc, rfl, hlo⟩, hE2⟩
        go_wp2_with fail
        go_roundw
        case rel => exact ⟨k + 1, by omega, by go_num, by rw [Hbe.out]; rfl, by rw [Hbe.out]; dsimp only [depI]; rw [Hlb.out], ((hE.alloc _).trans hE1).trans hE2⟩
        case measure => simp [intOf]; omega
    · obtain rfl : k = ps.length := by omega
      go_wp2_with fail
      go_ret
      exact ⟨rfl, hE⟩
def SoaPost (r : SoaR) (w : World) (e : Ending) (w' : World) : Prop :=
  ∃ d, e = .returned (.tuple #[setVal (r.set.getD SetD.zero) d, .bool r.set.isSome, .int .i64 r.err]) ∧ OStrs w' w.heap.size d (r.set.getD SetD.zero).data ∧ Ext w w'

set_option maxHeartbeats 2000000 in
theorem soa_find (lo : Nat) (v : Value) (l : List SetD) (n : List UInt8) (cls : Int) (w : World) (h : Sets w lo v l) (hbd : SetsBd l) (hn : n.length ≤ maxLen) :
    Calls Tryz.prog 29 #[v, S n, .int .u16 cls] w (SoaPost (soaFind l n cls) w) := by
  have HI := Lib.hid (fun W (hW : Ext w W) => soa_innermost lo v l n cls W (h.ext hW) hbd hn)
  have Hh := Lib.hid h
  obtain ⟨ps, A, c, hl, rfl, h1, h2, hrd, hst⟩ := h
  unfold maxLen at h2
  have hlen : ps.length = l.length := by rw [← hl]; simp
  have hS : soaFind l n cls = soaOf (bestTo l n cls l.length) := rfl
  rw [hS]
  rcases hb : bestTo l n cls l.length with _ | ⟨j, s⟩
  · rw [hb] at HI
    clear hS hb hlen hl hst hrd
    go_enter Tryz.func29, Tryz.ntmps29
    go_wp2_with fail
    refine (HI.out _ (((Ext.refl _).alloc _).alloc _)).mono ?_; rintro e w1 ⟨rfl, hE1⟩
    obtain ⟨hq, hqf, hqz⟩ := ext_new_at w.heap.size rfl (((Ext.refl _).alloc _).trans hE1)
    dsimp only [foundI]
    go_wp2_with fail
    refine bodyPost_ret (v := .tuple #[setVal SetD.zero (.slice none 0 0), .bool false, .int .i64 0]) (by simp [results, Tryz.results29, go_sem, hq, hqf, hqz, SetD.zero]) rfl ?_
    exact ⟨_, rfl, ⟨none, 0, rfl, Own.nil _ _ _ _⟩, by have := (((Ext.refl w).alloc _).alloc _).trans hE1; (repeat (first | with_reducible exact Ext.refl _ | with_reducible assumption | with_reducible refine Ext.alloc ?_ _ | with_reducible refine Ext.drewN ?_ _ | with_reducible refine Ext.drew ?_ | (with_reducible refine Ext.setCell ?_ ?hp _; case hp => (simp <;> omega))))⟩
  · obtain ⟨hj, hjs⟩ := best_mem hb
    rw [hb] at HI
    dsimp only at hj hjs
    have hbs := hbd s (List.mem_of_getElem? hjs)
    have hjp : j < ps.length := by rw [hlen]; exact hj
    have hp : ps[j]? = some ps[j] := List.getElem?_eq_getElem hjp
    have hps : ps[j].1 = s := by
      rw [← hl, List.getElem?_map, hp] at hjs
      exact Option.some.inj hjs
    have hstr := hst ps[j] (List.getElem_mem hjp)
    generalize ps[j] = p at *
    obtain ⟨⟨nm, ty, cl, tt, da⟩, d⟩ := p
    dsimp only at *
    subst hps
    obtain ⟨b, off, rfl, _, hbz, hc⟩ := hrd.2 (by omega)
    obtain ⟨c0, c1, c2, c3, c4⟩ := sets_cells hc j _ hp
    have Hstr := Lib.hid hstr
    obtain ⟨dA, dc, rfl⟩ := hstr.shape
    have hd0 : (0 : Int) ≤ (j : Int) := by omega
    have hji : (j : Int) < (ps.length : Int) := by omega
    have Hlen := Lib.hid hlen
    have hjn : decide ((j : Int) < 0) = false := by simp
    clear hS hb hc hl hlen hjs hp hst hrd hstr
    dsimp only [foundI] at HI
    by_cases hd1 : da.length = 1
    · have hso : soaOf (some (j, ⟨nm, ty, cl, tt, da⟩)) = ⟨some ⟨nm, ty, cl, tt, da⟩, 0⟩ := if_pos hd1
      rw [hso]
      clear hso
      have f1 : ((da.length : Int) != 1) = false := by rw [hd1]; rfl
      have HC := Lib.hid (fun W (hW : Ext w W) => sl_clone lo _ da W (Hstr.out.ext hW) (by omega))
      have Hd1 := Lib.hid hd1
      clear hd1
      go_enter Tryz.func29, Tryz.ntmps29
      go_wp2_with fail
      refine (HI.out _ (((Ext.refl _).alloc _).alloc _)).mono ?_; rintro e w1 ⟨rfl, hE1⟩
      have hEw1 : Ext w w1 := (((Ext.refl _).alloc _).alloc _).trans hE1
      obtain ⟨hq, hqf, hqz⟩ := ext_new_at w.heap.size rfl (((Ext.refl _).alloc _).trans hE1)
      have y0 := (hEw1.cell (p := ⟨b, off + j * 5, none⟩) hbz).trans c0
      have y1 := (hEw1.cell (p := ⟨b, off + j * 5 + 1, none⟩) hbz).trans c1
      have y2 := (hEw1.cell (p := ⟨b, off + j * 5 + 2, none⟩) hbz).trans c2
      have y3 := (hEw1.cell (p := ⟨b, off + j * 5 + 3, none⟩) hbz).trans c3
      have y4 := (hEw1.cell (p := ⟨b, off + j * 5 + 4, none⟩) hbz).trans c4
      clear c0 c1 c2 c3 c4
      go_wp2_with fail
      refine (HC.out _ (by (repeat (first | with_reducible exact Ext.refl _ | with_reducible assumption | with_reducible refine Ext.alloc ?_ _ | with_reducible refine Ext.drewN ?_ _ | with_reducible refine Ext.drew ?_ | (with_reducible refine Ext.setCell ?_ ?hp _; case hp => (simp <;> omega)))))).mono ?_; rintro e w2 ⟨v2, rfl, ⟨A5, c5, rfl, ho5⟩, hE2⟩
      have hz1 : w.heap.size < w1.heap.size := hqz
      have hb5 := box5 hq (S nm) (.int .u16 ty) (.int .u16 cl) (.int .u32 tt) (.slice dA da.length dc)
      have hb2 : ∀ j, w2.cell? ⟨w.heap.size, j, none⟩ = #[S nm, .int .u16 ty, .int .u16 cl, .int .u32 tt, .slice dA da.length dc][j]? := fun j => (hE2.cell (p := ⟨w.heap.size, j, none⟩) (by simpa using hz1)).trans (hb5 j)
      have hf2 : ∀ j, w2.frozen? ⟨w.heap.size, j, none⟩ = false := fun j => (hE2.frozen (p := ⟨w.heap.size, j, none⟩) (by simpa using hz1)).trans (by simpa using hqf j)
      have hz2 : w.heap.size < w2.heap.size := by have := hE2.size; simp at this; omega
      clear hb5 hq hqf y0 y1 y2 y3 y4
      go_wp2_with fail
      refine bodyPost_ret (v := .tuple #[setVal ⟨nm, ty, cl, tt, da⟩ (.slice A5 da.length c5), .bool true, .int .i64 0]) (by simp [results, Tryz.results29, go_sem, hb2, hf2, hz2]) rfl ?_
      refine ⟨_, rfl, ⟨A5, c5, rfl, ?_⟩, ?_⟩
      · have hlo : w.heap.size + 1 < w2.heap.size + 1 := by omega
        refine Own.lower (lo := (w1.heap.size)) ?_ (by omega)
        repeat (with_reducible refine Own.set_other ?_ ?hp _; case hp => (simp <;> omega))
        exact ho5.lower (by simp)
      · have hEw2 : Ext w w2 := Ext.trans (by (repeat (first | with_reducible exact Ext.refl _ | with_reducible assumption | with_reducible refine Ext.alloc ?_ _ | with_reducible refine Ext.drewN ?_ _ | with_reducible refine Ext.drew ?_ | (with_reducible refine Ext.setCell ?_ ?hp _; case hp => (simp <;> omega))))) hE2
        (repeat (first | with_reducible exact Ext.refl _ | with_reducible assumption | with_reducible refine Ext.alloc ?_ _ | with_reducible refine Ext.drewN ?_ _ | with_reducible refine Ext.drew ?_ | (with_reducible refine Ext.setCell ?_ ?hp _; case hp => (simp <;> omega))))
    · have hso : soaOf (some (j, ⟨nm, ty, cl, tt, da⟩)) = ⟨none, 3⟩ := if_neg hd1
      rw [hso]
      clear hso
      obtain ⟨f1, f2⟩ := ne_one hd1
      clear hd1
      go_enter Tryz.func29, Tryz.ntmps29
      go_wp2_with fail
      refine (HI.out _ (((Ext.refl _).alloc _).alloc _)).mono ?_; rintro e w1 ⟨rfl, hE1⟩
      have hEw1 : Ext w w1 := (((Ext.refl _).alloc _).alloc _).trans hE1
      obtain ⟨hq, hqf, hqz⟩ := ext_new_at w.heap.size rfl (((Ext.refl _).alloc _).trans hE1)
      have y0 := (hEw1.cell (p := ⟨b, off + j * 5, none⟩) hbz).trans c0
      have y1 := (hEw1.cell (p := ⟨b, off + j * 5 + 1, none⟩) hbz).trans c1
      have y2 := (hEw1.cell (p := ⟨b, off + j * 5 + 2, none⟩) hbz).trans c2
      have y3 := (hEw1.cell (p := ⟨b, off + j * 5 + 3, none⟩) hbz).trans c3
      have y4 := (hEw1.cell (p := ⟨b, off + j * 5 + 4, none⟩) hbz).trans c4
      clear c0 c1 c2 c3 c4
      go_wp2_with fail
      obtain ⟨X, hX⟩ : ∃ X, X = ((((((((((w1.setCell ⟨w.heap.size, 0, none⟩ (S nm)).setCell ⟨w.heap.size, 1, none⟩ (.int .u16 ty)).setCell ⟨w.heap.size, 2, none⟩ (.int .u16 cl)).setCell ⟨w.heap.size, 3, none⟩ (.int .u32 tt)).setCell ⟨w.heap.size, 4, none⟩ (.slice dA da.length dc)).setCell ⟨w.heap.size, 0, none⟩ (S [])).setCell ⟨w.heap.size, 1, none⟩ (.int .u16 0)).setCell ⟨w.heap.size, 2, none⟩ (.int .u16 0)).setCell ⟨w.heap.size, 3, none⟩ (.int .u32 0)).setCell ⟨w.heap.size, 4, none⟩ (.slice none 0 0)) := ⟨_, rfl⟩
      have hbX : ∀ j, X.cell? ⟨w.heap.size, j, none⟩ = #[S [], .int .u16 0, .int .u16 0, .int .u32 0, .slice none 0 0][j]? := by rw [hX]; exact box5 (box5 hq (S nm) (.int .u16 ty) (.int .u16 cl) (.int .u32 tt) (.slice dA da.length dc)) (S []) (.int .u16 0) (.int .u16 0) (.int .u32 0) (.slice none 0 0)
      have hfX : ∀ j, X.frozen? ⟨w.heap.size, j, none⟩ = false := fun j => by rw [hX]; simpa using hqf j
      have hEX : Ext w X := by rw [hX]; (repeat (first | with_reducible exact Ext.refl _ | with_reducible assumption | with_reducible refine Ext.alloc ?_ _ | with_reducible refine Ext.drewN ?_ _ | with_reducible refine Ext.drew ?_ | (with_reducible refine Ext.setCell ?_ ?hp _; case hp => (simp <;> omega))))
      have hz1 : w.heap.size < w1.heap.size := hqz
      have hzX : w.heap.size < X.heap.size := by rw [hX]; simp; omega
      refine (show _ from ?_ : bodyPost Tryz.prog Tryz.f29 _ Exit.ret _ ((((((((((w1.setCell ⟨w.heap.size, 0, none⟩ (S nm)).setCell ⟨w.heap.size, 1, none⟩ (.int .u16 ty)).setCell ⟨w.heap.size, 2, none⟩ (.int .u16 cl)).setCell ⟨w.heap.size, 3, none⟩ (.int .u32 tt)).setCell ⟨w.heap.size, 4, none⟩ (.slice dA da.length dc)).setCell ⟨w.heap.size, 0, none⟩ (S [])).setCell ⟨w.heap.size, 1, none⟩ (.int .u16 0)).setCell ⟨w.heap.size, 2, none⟩ (.int .u16 0)).setCell ⟨w.heap.size, 3, none⟩ (.int .u32 0)).setCell ⟨w.heap.size, 4, none⟩ (.slice none 0 0)))
      rw [← hX]
      refine bodyPost_ret (v := .tuple #[setVal SetD.zero (.slice none 0 0), .bool false, .int .i64 3]) (by simp [results, Tryz.results29, go_sem, hbX, hfX, hzX, SetD.zero]) rfl ?_
      exact ⟨_, rfl, ⟨none, 0, rfl, Own.nil _ _ _ _⟩, hEX⟩
theorem soa_clamped (t : Int) (w : World) : Calls Tryz.prog 56 #[.int .u32 t] w fun e w' => e = .returned (.int .u32 (timeT t)) ∧ w = w' := by
  by_cases h : 2147483647 < t
  · rw [show timeT t = 0 by unfold timeT; rw [if_pos h]]
    go_enter Tryz.func56, Tryz.ntmps56
    go_wp2
    go_ret
    exact ⟨rfl, rfl⟩
  · rw [show timeT t = t by unfold timeT; rw [if_neg h]]
    go_enter Tryz.func56, Tryz.ntmps56
    go_wp2
    go_ret
    exact ⟨rfl, rfl⟩
theorem splitL_no {cs : List Chk} {d : List UInt8} (h : ∀ p, (splitL cs d p).2 ≠ 0) (c : Chk) : ∀ p, (splitL (c :: cs) d p).2 ≠ 0 := by
  intro p
  simp only [splitL]
  split
  · assumption
  · rw [if_pos (h _)]; exact h _
theorem rmay6_len {d : List UInt8} (h : rmay 6 d = true) : 20 ≤ d.length := by
  rcases Nat.lt_or_ge d.length 20 with hlt | hge
  · exfalso
    have h3 : ∀ p, (splitL [⟨0, 20⟩] d p).2 ≠ 0 := by
      intro p
      have hr : runChk ⟨0, 20⟩ d p = (Pc.zero, 4) := by show (if d.length - p < 20 then _ else _) = _; rw [if_pos (by omega)]
      unfold splitL
      rw [hr, if_pos (by decide)]
      decide
    have h1 : (splitOf d 0 6).2 ≠ 0 := splitL_no (splitL_no h3 ⟨1, 0⟩) ⟨1, 0⟩ 0
    unfold rmay wholeOf at h
    rw [if_neg (fun e => h1 e.1)] at h
    cases h
  · exact hge

theorem conv_bytes (W : World) (l : List UInt8) : ∃ (C : Array Value) (cap : Nat), (convert 9 62 (S l)).run Tryz.prog W = .ok (.slice (some ⟨W.heap.size, 0, none⟩) l.length cap) (W.drew.alloc (.cells C 5 (C.size, C.size + 1))) ∧ l.length ≤ C.size ∧ ∀ j, j < l.length → C[j]? = some (.int .u8 ((l.getD j 0).toNat : Int)) := by
  refine ⟨_, _, run_bytes_of_string (P := Tryz.prog) W 9 62 5 ⟨l.toArray⟩ Tryz.underlying9 Tryz.underlying62 Tryz.underlying5, by simp [bytesRow], fun j hj => ?_⟩
  simp [bytesRow, hj, Array.getElem?_append]

set_option maxHeartbeats 2000000 in
theorem soa_time (lo : Nat) (s : SetD) (dv : Value) (w : World) (hg : Laid w) (hs : Strs w lo dv s.data) (hd : ∀ x ∈ s.data, x.length ≤ 1048576) :
    Calls Tryz.prog 30 #[setVal s dv] w fun e w' => e = .returned (.int .u32 (soaTime s)) ∧ Ext w w' := by
  obtain ⟨nm, ty, cl, tt, da⟩ := s
  dsimp only at *
  obtain ⟨A, c, rfl, h1, h2, hrd⟩ := hs
  unfold maxLen at h2
  by_cases hty : ty = 6
  rotate_left
  · have hT : soaTime ⟨nm, ty, cl, tt, da⟩ = 0 := if_neg hty
    have f1 : (ty != 6) = true := by simpa using hty
    rw [hT]
    clear hT hty
    go_enter Tryz.func30, Tryz.ntmps30
    go_wp2_with fail
    go_ret
    exact ⟨rfl, (Ext.refl _).alloc _⟩
  subst hty
  by_cases hl : da.length = 1
  rotate_left
  · have hT : soaTime ⟨nm, 6, cl, tt, da⟩ = 0 := by
      unfold soaTime
      rw [if_pos rfl]
      match da, hl with
      | [], _ => rfl
      | [_], h => exact absurd rfl h
      | _ :: _ :: _, _ => rfl
    rw [hT]
    obtain ⟨f1, f2⟩ := ne_one hl
    clear hT hl
    go_enter Tryz.func30, Tryz.ntmps30
    go_wp2_with fail
    go_ret
    exact ⟨rfl, (Ext.refl _).alloc _⟩
  obtain ⟨d, rfl⟩ := List.length_eq_one_iff.1 hl
  have hT : soaTime ⟨nm, 6, cl, tt, [d]⟩ = soaTimeD tt d := rfl
  rw [hT]
  obtain ⟨b, off, rfl, _, hbz, hc⟩ := hrd.2 (by simp)
  have c0 := hc 0 (S d) rfl
  simp only [Nat.add_zero] at c0
  have hdl := hd d (by simp)
  have HM := Lib.hid (fun W (h : Laid W) => rdata_may 6 d W h hdl)
  clear hc hrd hl hd hT
  simp only [List.length_singleton]
  rcases hm : rmay 6 d with _ | _
  · have hT : soaTimeD tt d = 0 := by unfold soaTimeD; rw [hm]; rfl
    rw [hT]
    rw [hm] at HM
    clear hT hm
    go_enter Tryz.func30, Tryz.ntmps30
    go_wp2_with fail
    refine (HM.out _ (hg.ext ((Ext.refl _).alloc _))).mono ?_; rintro e w1 ⟨rfl, hE1⟩
    go_wp2_with fail
    go_ret
    exact ⟨rfl, ((Ext.refl _).alloc _).trans hE1⟩
  have hT : soaTimeD tt d = min (timeT tt) (timeT (lastFour d)) := by unfold soaTimeD; rw [hm]; rfl
  rw [hT]
  rw [hm] at HM
  have hd20 := rmay6_len hm
  obtain ⟨p, hp⟩ : ∃ p, d.length = p + 4 := ⟨d.length - 4, by omega⟩
  obtain ⟨s4, hs4⟩ : ∃ s4, d.drop p = s4 := ⟨_, rfl⟩
  have hs4l : s4.length = 4 := by rw [← hs4, List.length_drop]; omega
  have HL : Hid (lastFour d = be s4 ∧ s4.length = 4 ∧ (d.drop p).take 4 = s4) := ⟨by unfold lastFour; rw [hp, Nat.add_sub_cancel, hs4], hs4l, by rw [hs4, List.take_of_length_le (by omega)]⟩
  have Hp := Lib.hid hp
  have hp1 : (d.length : Int) = (p : Int) + 4 := by omega
  clear hT hm hs4 hs4l hp
  go_enter Tryz.func30, Tryz.ntmps30
  go_wp2_with fail
  refine (HM.out _ (hg.ext ((Ext.refl _).alloc _))).mono ?_; rintro e w1 ⟨rfl, hE1⟩
  obtain ⟨hq, hqf, hqz⟩ := ext_new hE1
  have c01 := ((((Ext.refl w).alloc (.cells #[S nm, .int .u16 6, .int .u16 cl, .int .u32 tt, .slice (some ⟨b, off, none⟩) 1 c] 50)).trans hE1).cell (p := ⟨b, off, none⟩) hbz).trans c0
  clear c0
  have hsl : ((d.drop p).take (d.length - p)).length = 4 := by have := Hp.out; simp; omega
  have hse : (d.drop p).take (d.length - p) = s4 := by rw [show d.length - p = 4 by have := Hp.out; omega]; exact HL.out.2.2
  obtain ⟨C, cap, hconv, hC, hCc⟩ := conv_bytes w1 ((d.drop p).take (d.length - p))
  rw [hsl] at hconv hC hCc
  rw [hse] at hCc
  obtain ⟨X, hX⟩ : ∃ X, X = w1.drew.alloc (.cells C 5 (C.size, C.size + 1)) := ⟨_, rfl⟩
  rw [← hX] at hconv
  have hE1X : Ext w1 X := by rw [hX]; exact (Ext.refl _).drew.alloc _
  have hcX : ∀ j, j < 4 → X.cell? ⟨w1.heap.size, j, none⟩ = some (.int .u8 ((s4.getD j 0).toNat : Int)) := fun j hj => by rw [hX]; exact (World.cell?_alloc_mark w1.drew C _ _ j).trans (hCc j hj)
  have q3 := (hE1X.cell (p := ⟨w.heap.size, 3, none⟩) hqz).trans (hq 3)
  have hs4l := HL.out.2.1
  have Hs4l := Lib.hid hs4l
  have HcX := Lib.hid hcX
  have hcap : (4 : Int) ≤ 9223372036854775807 := by omega
  have hz1X : w1.heap.size < X.heap.size := by rw [hX]; simp
  clear hX hC hCc hse hsl hs4l hcX
  go_wp2_with fail
  go_loop [4, 6, 35] (fun v b i => ∃ k : Nat, k ≤ 4 ∧ i = .int .i64 k ∧ v = .int .u32 (be (s4.take k))) (fun _ _ i => 4 - (intOf i).toNat)
  case atStart => exact ⟨0, by omega, rfl, rfl⟩
  case round =>
    obtain ⟨k, hk, rfl, rfl⟩ := hrel
    by_cases hlt : k < 4
    · have hlt' : k < s4.length := by rw [Hs4l.out]; exact hlt
      obtain ⟨c', Hb, hget, hwb, hbd⟩ := byte_at s4 k hlt'
      have hck := HcX.out k hlt
      rw [show s4.getD k 0 = c' by rw [List.getD_eq_getElem?_getD, List.getElem?_eq_getElem hlt']; exact Hb.out] at hck
      have Hst := Lib.hid (be_step s4 k hlt' c' Hb.out)
      have hx := be_take_lt s4 k (by rw [Hs4l.out]; omega) hlt'
      generalize be (s4.take k) = x at *
      have Hu := Lib.hid (u32_step x c' hx)

      go_wp2_with fail
      go_round
      case rel => exact ⟨k + 1, by omega, by go_num, by rw [Hst.out, Hu.out]⟩
      case measure => simp [intOf]; omega
    · obtain rfl : k = 4 := by omega
      have e1 : s4.take 4 = s4 := List.take_of_length_le (by rw [Hs4l.out]; omega)
      rw [e1]
      clear e1
      go_wp2_with fail
      refine (soa_clamped _ _).mono ?_; rintro e w' ⟨rfl, rfl⟩
      go_wp2_with fail
      refine (soa_clamped _ _).mono ?_; rintro e w' ⟨rfl, rfl⟩
      go_wp2_with fail
      go_ret
      exact ⟨ret_int (by rw [HL.out.1]), (((Ext.refl _).alloc _).trans hE1).trans hE1X⟩
theorem OSets.shape {w : World} {lo : Nat} {v : Value} {l : List SetD} (h : OSets w lo v l) : ∃ A c, v = .slice A l.length c ∧ l.length ≤ c ∧ c ≤ maxLen := by
  obtain ⟨ps, A, c, h1, h2, h3, _⟩ := h
  have hl : ps.length = l.length := by rw [← h1]; simp
  exact ⟨A, c, by rw [h2, hl], by rw [← hl]; exact h3.cap.1, h3.cap.2⟩
theorem OSets.opened {w : World} {lo : Nat} {v : Value} {l : List SetD} (h : OSets w lo v l) : ∃ (ps : List (SetD × Value)) (A : Option Addr) (c : Nat), v = .slice A l.length c ∧ ps.map Prod.fst = l ∧ ps.length = l.length ∧ Own w lo 50 5 A l.length c (ps.flatMap setCells) ∧ ∀ p ∈ ps, OStrs w lo p.2 p.1.data := by
  obtain ⟨ps, A, c, h1, h2, h3, h4⟩ := h
  have hl : ps.length = l.length := by rw [← h1]; simp
  exact ⟨ps, A, c, by rw [h2, hl], h1, hl, by rw [← hl]; exact h3, h4⟩
theorem osets_mk {w : World} {lo : Nat} {A : Option Addr} {c n : Nat} {ps : List (SetD × Value)} {l : List SetD} (h1 : ps.map Prod.fst = l) (hn : n = ps.length) (h : Own w lo 50 5 A n c (ps.flatMap setCells)) (hd : ∀ p ∈ ps, OStrs w lo p.2 p.1.data) : OSets w lo (.slice A n c) l := by
  subst hn; exact ⟨ps, A, c, h1, rfl, h, hd⟩
theorem ostrs_set {w : World} {lo : Nat} {v : Value} {l : List (List UInt8)} {p : Addr} (h : OStrs w lo v l) (hp : p.block < lo) (u : Value) : OStrs (w.setCell p u) lo v l := by
  obtain ⟨A, c, e, ho⟩ := h
  exact ⟨A, c, e, Own.set_other ho hp u⟩
theorem osets_set {w : World} {lo : Nat} {v : Value} {l : List SetD} {p : Addr} (h : OSets w lo v l) (hp : p.block < lo) (u : Value) : OSets (w.setCell p u) lo v l := by
  obtain ⟨ps, A, c, h1, h2, h3, h4⟩ := h
  exact ⟨ps, A, c, h1, h2, Own.set_other h3 hp u, fun q hq => ostrs_set (h4 q hq) hp u⟩
theorem osets_set3 {w : World} {lo g : Nat} {v : Value} {l : List SetD} (h : OSets w lo v l) (hg : g < lo) (a b c : Value) : OSets (((w.setCell ⟨g, 0, none⟩ a).setCell ⟨g, 1, none⟩ b).setCell ⟨g, 2, none⟩ c) lo v l :=
  osets_set (osets_set (osets_set h hg a) hg b) hg c
theorem ostrs_set5 {w : World} {lo g : Nat} {v : Value} {l : List (List UInt8)} (h : OStrs w lo v l) (hg : g < lo) (a b c d e : Value) : OStrs (((((w.setCell ⟨g, 0, none⟩ a).setCell ⟨g, 1, none⟩ b).setCell ⟨g, 2, none⟩ c).setCell ⟨g, 3, none⟩ d).setCell ⟨g, 4, none⟩ e) lo v l :=
  ostrs_set (ostrs_set (ostrs_set (ostrs_set (ostrs_set h hg a) hg b) hg c) hg d) hg e
theorem OSets.blk {w : World} {lo : Nat} {v : Value} {l : List SetD} (h : OSets w lo v l) : ∀ k, v.ownBlock = some k → lo ≤ k ∧ k < w.heap.size := by
  obtain ⟨ps, A, c, _, rfl, h3, _⟩ := h
  exact h3.blk
theorem sep_of {w1 w2 : World} {lo1 lo2 : Nat} {v u : Value} {l m : List SetD} (h1 : OSets w1 lo1 v l) (h2 : OSets w2 lo2 u m) (hle : w1.heap.size ≤ lo2) : u.ownBlock = none ∨ u.ownBlock ≠ v.ownBlock := by
  rcases hu : u.ownBlock with _ | k
  · exact .inl rfl
  · refine .inr (fun e => ?_)
    have a := (h2.blk k hu).1
    have b := (h1.blk k e.symm).2
    omega
theorem sets_cells1 {w : World} {g : Nat} {s : SetD} {dv : Value} (hc : ∀ j, w.cell? ⟨g, j, none⟩ = (setCells (s, dv)).toArray[j]?) (hz : g < w.heap.size) (h : Strs w 0 dv s.data) : Sets w 0 (.slice (some ⟨g, 0, none⟩) 1 1) [s] :=
  ⟨[(s, dv)], _, _, rfl, rfl, Nat.le_refl _, by unfold maxLen; decide, ⟨rfl, fun _ => ⟨g, 0, rfl, Nat.zero_le _, hz, fun j u hu => by rw [Nat.zero_add, hc j]; simpa using hu⟩⟩, fun p hp => by rw [List.mem_singleton] at hp; subst hp; exact h⟩
theorem leastT_snoc (l : List SetD) (s : SetD) (t : Int) : leastT (l ++ [s]) t = min (leastT l t) s.ttl := by
  simp [leastT, List.foldl_append]

set_option maxHeartbeats 1000000 in
theorem ver_least (lo : Nat) (v : Value) (l : List SetD) (t : Int) (w : World) (h : Sets w lo v l) :
    Calls Tryz.prog 27 #[v, .int .u32 t] w fun e w' => e = .returned (.int .u32 (leastT l t)) ∧ Ext w w' := by
  obtain ⟨ps, A, c, hl, rfl, h1, h2, hrd, hst⟩ := h
  unfold maxLen at h2
  have hlen : ps.length = l.length := by rw [← hl]; simp
  have Hl := Lib.hid hl
  have Hlen := Lib.hid hlen
  clear hl hlen
  go_enter Tryz.func27, Tryz.ntmps27
  go_wp2_with fail
  go_loopw [1, 9] (fun v i wr => ∃ k : Nat, k ≤ ps.length ∧ i = .int .i64 k ∧ v = .int .u32 (leastT (l.take k) t) ∧ Ext w wr) (fun _ i _ => ps.length - (intOf i).toNat)
  case atStart => exact ⟨0, by omega, rfl, rfl, Ext.refl _⟩
  case round =>
    obtain ⟨k, hk, rfl, rfl, hE⟩ := hrel
    obtain ⟨wo, rfl⟩ : ∃ wo : World, wo = wr := ⟨_, rfl⟩
    by_cases hlt : k < ps.length
    · have hlt' : k < l.length := by rw [← Hlen.out]; exact hlt
      have hp : ps[k]? = some ps[k] := List.getElem?_eq_getElem hlt
      have hpl : l[k] = ps[k].1 := by simp [← Hl.out]
      have hts := take_snoc l k hlt'
      rw [hpl] at hts
      have Hts := Lib.hid hts
      have hstr := hst ps[k] (List.getElem_mem hlt)
      generalize ps[k] = p at *
      obtain ⟨b, off, rfl, _, hbz, hc⟩ := hrd.2 (by omega)
      obtain ⟨c0, c1, c2, c3, c4⟩ := sets_cells hc k p hp
      rw [← hE.cell (p := ⟨b, _, none⟩) hbz] at c0 c1 c2 c3 c4
      clear hc hp hrd hpl hst hts
      obtain ⟨⟨nm, ty, cl, tt, da⟩, d⟩ := p
      dsimp only at *
      obtain ⟨dA, dc, rfl⟩ := hstr.shape
      have Hsn := Lib.hid (leastT_snoc (l.take k) ⟨nm, ty, cl, tt, da⟩ t)
      generalize leastT (l.take k) t = x at *
      have hki : (k : Int) < (ps.length : Int) := by omega
      have hk0 : (0 : Int) ≤ (k : Int) := by omega
      go_wp2_with fail
      go_roundw
      case rel => exact ⟨k + 1, by omega, by go_num, by rw [Hts.out, Hsn.out], hE.alloc _⟩
      case measure => simp [intOf]; omega
    · have e1 : l.take k = l := List.take_of_length_le (by rw [← Hlen.out]; omega)
      rw [e1]
      clear e1
      go_wp2_with fail
      go_ret
      exact ⟨rfl, hE⟩

structure TlInv (w : World) (l : List SetD) (k : Nat) (qs : List (SetD × Value)) (A : Option Addr) (c : Nat) (wr : World) : Prop where
  len : qs.length = k
  fst : qs.map Prod.fst = (l.take k).map ttl0
  own : Own wr w.heap.size 50 5 A qs.length c (qs.flatMap setCells)
  datas : ∀ p ∈ qs, OStrs wr w.heap.size p.2 p.1.data
  ext : Ext w wr

set_option maxHeartbeats 2000000 in
theorem ver_timeless (lo : Nat) (v : Value) (l : List SetD) (w : World) (h : Sets w lo v l) (hbd : SetsBd l) (hn : l.length ≤ 65536) :
    Calls Tryz.prog 28 #[v] w fun e w' => ∃ v', e = .returned v' ∧ OSets w' w.heap.size v' (l.map ttl0) ∧ Ext w w' := by
  obtain ⟨ps, A, c, hl, rfl, h1, h2, hrd, hst⟩ := h
  unfold maxLen at h2
  have hlen : ps.length = l.length := by rw [← hl]; simp
  have Hl := Lib.hid hl
  have Hlen := Lib.hid hlen
  have hn' : ps.length ≤ 65536 := by omega
  obtain ⟨j0, hj0, hy0, hy1, hy2⟩ := info_parts info_set
  clear hl hlen hn
  go_enter Tryz.func28, Tryz.ntmps28
  go_wp2_with fail
  go_loopw [3, 8] (fun o i wr => ∃ (k : Nat) (qs : List (SetD × Value)) (B : Option Addr) (d : Nat), k ≤ ps.length ∧ i = .int .i64 k ∧ o = .slice B qs.length d ∧ TlInv w l k qs B d wr) (fun _ i _ => ps.length - (intOf i).toNat)
  case atStart => exact ⟨0, [], none, 0, by omega, rfl, rfl, ⟨rfl, rfl, Own.nil _ _ _ _, by simp, Ext.refl _⟩⟩
  case round =>
    obtain ⟨k, qs, B, d, hk, rfl, rfl, hI⟩ := hrel
    obtain ⟨wo, rfl⟩ : ∃ wo : World, wo = wr := ⟨_, rfl⟩
    have hE := hI.ext
    by_cases hlt : k < ps.length
    · have hlt' : k < l.length := by rw [← Hlen.out]; exact hlt
      have hp : ps[k]? = some ps[k] := List.getElem?_eq_getElem hlt
      have hpl : l[k] = ps[k].1 := by simp [← Hl.out]
      have hts := take_snoc l k hlt'
      rw [hpl] at hts
      have Hts := Lib.hid hts
      have hbs := hbd l[k] (List.getElem_mem hlt')
      rw [hpl] at hbs
      have hstr := hst ps[k] (List.getElem_mem hlt)
      generalize ps[k] = p at *
      obtain ⟨b, off, rfl, _, hbz, hc⟩ := hrd.2 (by omega)
      obtain ⟨c0, c1, c2, c3, c4⟩ := sets_cells hc k p hp
      rw [← hE.cell (p := ⟨b, _, none⟩) hbz] at c0 c1 c2 c3 c4
      clear hc hp hrd hpl hst hts
      obtain ⟨⟨nm, ty, cl, tt, da⟩, dv⟩ := p
      dsimp only at *
      have hstr' := hstr.ext hE
      obtain ⟨dA, dc, rfl⟩ := hstr.shape
      have hki : (k : Int) < (ps.length : Int) := by omega
      have hk0 : (0 : Int) ≤ (k : Int) := by omega
      have hql : qs.length ≤ 65536 := by have := hI.len; omega
      go_wp2_with fail
      refine (sl_clone lo _ da _ (hstr'.ext (by (repeat (first | with_reducible exact Ext.refl _ | with_reducible assumption | with_reducible refine Ext.alloc ?_ _ | with_reducible refine Ext.drewN ?_ _ | with_reducible refine Ext.drew ?_ | (with_reducible refine Ext.setCell ?_ ?hp _; case hp => (simp <;> omega)))))) hbs.2.1).mono ?_; rintro e w2 ⟨v2, rfl, ⟨dA2, dc2, rfl, ho2⟩, hE2⟩
      obtain ⟨hq, hqf, hqz⟩ := ext_new hE2
      clear c0 c1 c2 c3 c4
      have hEo : Ext wo w2 := ((Ext.refl _).alloc _).trans hE2
      have hnew : OStrs (w2.setCell ⟨wo.heap.size, 4, none⟩ (.slice dA2 da.length dc2)) (wo.heap.size + 1) (.slice dA2 da.length dc2) da := ⟨dA2, dc2, rfl, (ho2.lower (by simp)).set_other (by dsimp only; omega) _⟩
      have hEo2 : Ext wo (w2.setCell ⟨wo.heap.size, 4, none⟩ (.slice dA2 da.length dc2)) := hEo.setCell (Nat.le_refl _) _
      have hnewA := hnew.ext ((Ext.refl _).alloc (.cells #[S nm, .int .u16 ty, .int .u16 cl, .int .u32 0, .slice dA2 da.length dc2] 50))
      have hownA := (hI.own.ext hEo2).ext ((Ext.refl _).alloc (.cells #[S nm, .int .u16 ty, .int .u16 cl, .int .u32 0, .slice dA2 da.length dc2] 50))
      have hdatA : ∀ p ∈ qs, OStrs _ w.heap.size p.2 p.1.data := fun p hp => ((hI.datas p hp).ext hEo2).ext ((Ext.refl _).alloc (.cells #[S nm, .int .u16 ty, .int .u16 cl, .int .u32 0, .slice dA2 da.length dc2] 50))
      have hlo : w.heap.size ≤ wo.heap.size := hE.size
      go_wp2_with (
        at_builtin
        refine wpList_app _ rfl (.tmp 17) (.tmp 19) _ rfl w.heap.size 50 j0 _ 5 48 Tryz.underlying42 hj0 hy0 hy1 hy2 rfl (by omega) B qs.length d (qs.flatMap setCells) rfl hownA 0 _ 1 1 (setCells (⟨nm, ty, cl, 0, da⟩, .slice dA2 da.length dc2)) rfl (rd_new _ _ (by simp) _ _ 1 5 rfl) (set_one (⟨nm, ty, cl, 0, da⟩, .slice dA2 da.length dc2) hnewA) (by omega) (by omega) (by have := hE.size; have := hEo.size; simp; omega) ?_
        intro A5 c5 w5 hown5 hg5 hb5 hat5)
      have hE5 : Ext w w5 := ((hE.trans hEo2).alloc _).then hb5 (Nat.le_refl _)
      have hnew5 := hnewA.kept hg5 (ostrs_ne hnewA hownA)
      have hdat5 : ∀ p ∈ qs, OStrs w5 w.heap.size p.2 p.1.data := fun p hp => (hdatA p hp).kept hg5 (ostrs_ne (hdatA p hp) hownA)
      go_roundw
      case rel =>
        refine ⟨k + 1, qs ++ [(⟨nm, ty, cl, 0, da⟩, .slice dA2 da.length dc2)], A5, c5, by omega, by go_num, by simp, ⟨by simp [hI.len], ?_, ?_, ?_, hE5⟩⟩
        · rw [Hts.out, List.map_append, List.map_append, hI.fst]; rfl
        · rw [List.length_append, List.flatMap_append]; simpa using hown5
        · intro p hp
          rcases List.mem_append.1 hp with h | h
          · exact hdat5 p h
          · rw [List.mem_singleton] at h; subst h; exact hnew5.lower (by omega)
      case measure => simp [intOf]; omega
    · have e1 : l.take k = l := List.take_of_length_le (by rw [← Hlen.out]; omega)
      have hf := hI.fst
      rw [e1] at hf
      have Hf := Lib.hid hf
      clear hf e1
      go_wp2_with fail
      go_ret
      exact ⟨_, rfl, ⟨qs, B, d, Hf.out, rfl, hI.own, hI.datas⟩, hE⟩
def restB (t : Int) (n : Nat) : List UInt8 := if t = 1 then [UInt8.ofNat (n / 256), UInt8.ofNat n] else if t = 0 then [UInt8.ofNat n] else []
def KeptT (w w' : World) : Prop := ∀ (g : Nat) (cs : Array Value) (t : TypeId) (m : Nat × Nat), t ≠ 5 → w.heap[g]? = some (.cells cs t m) → w'.heap[g]? = some (.cells cs t m)
theorem KeptT.refl (w : World) : KeptT w w := fun _ _ _ _ _ h => h
theorem KeptT.trans {a b c : World} (h : KeptT a b) (k : KeptT b c) : KeptT a c := fun g cs t m ht hh => k g cs t m ht (h g cs t m ht hh)
theorem KeptT.ext {w w' : World} (h : Ext w w') : KeptT w w' := fun g cs t m _ hh => (h.block g (Array.getElem?_eq_some_iff.1 hh).1).trans hh
theorem KeptT.grown {w w' : World} {lo n c : Nat} {A : Option Addr} {xs : List Value} (ho : Own w lo 5 1 A n c xs) (hg : w.grownBy w' (Value.slice A n c).ownBlock) : KeptT w w' := by
  intro g cs t m ht hh
  rw [hg.block g (Array.getElem?_eq_some_iff.1 hh).1 (fun e => ?_)]
  · exact hh
  · rcases ho.2 with ⟨h1, _⟩ | ⟨g', cap, cur, h1, _, hk, _⟩
    · injection h1 with h1; subst h1; simp [Value.ownBlock] at e
    · injection h1 with h1; subst h1
      have : g = g' := by simpa [Value.ownBlock] using e
      subst this
      rw [hh] at hk
      injection hk with hk
      injection hk with _ hk _
      exact ht hk
theorem KeptT.cells {w w' : World} (h : KeptT w w') {g : Nat} {cs : Array Value} {t : TypeId} {m : Nat × Nat} (ht : t ≠ 5) (hh : w.heap[g]? = some (.cells cs t m)) : ∀ j, w'.cell? ⟨g, j, none⟩ = cs[j]? := fun j => by
  have := h g cs t m ht hh
  simp [World.cell?, this]
def NumPost (lo : Nat) (w : World) (x : List UInt8) (e : Ending) (w' : World) : Prop :=
  ∃ A c, e = .returned (.slice A x.length c) ∧ Own w' lo 5 1 A x.length c (x.map U8) ∧ Below lo w w' ∧ KeptT w w'
set_option maxHeartbeats 2000000 in
theorem ver_number (lo : Nat) (A : Option Addr) (c : Nat) (l : List UInt8) (size : Int) (n : Nat) (w : World) (ho : Own w lo 5 1 A l.length c (l.map U8)) (hlo : lo ≤ w.heap.size) (hs : size = 1 ∨ size = 2) (hn : n < 9223372036854775808) (hl : l.length ≤ 1073741824) :
    Calls Tryz.prog 58 #[.slice A l.length c, .int .i64 size, .int .i64 n] w (NumPost lo w (l ++ restB (size - 1) n)) := by
  obtain ⟨i0, hi0, hz0, hz1, hz2⟩ := info_parts info_u8
  obtain ⟨R, hR⟩ : ∃ R, restB (size - 1) n = R := ⟨_, rfl⟩
  rw [hR]
  have HR := Lib.hid hR
  clear hR
  have hs1 : 1 ≤ size := by omega
  have hs2 : size ≤ 2 := by omega
  go_enter Tryz.func58, Tryz.ntmps58
  go_wp2_with fail
  go_loopw [0, 7] (fun b i wr => ∃ (t : Int) (pre : List UInt8) (B : Option Addr) (d : Nat), i = .int .i64 t ∧ -1 ≤ t ∧ t ≤ 1 ∧ pre.length + (t + 1).toNat ≤ 2 ∧ pre ++ restB t n = R ∧ b = .slice B (l ++ pre).length d ∧ Own wr lo 5 1 B (l ++ pre).length d ((l ++ pre).map U8) ∧ Below lo w wr ∧ KeptT w wr) (fun _ i _ => (intOf i + 1).toNat)
  case atStart => exact ⟨size - 1, [], A, c, rfl, by omega, by omega, by simp; omega, HR.out, by rw [List.append_nil], by rw [List.append_nil]; exact ho, Below.refl _ _, KeptT.refl _⟩
  case round =>
    obtain ⟨t, pre, B, d, rfl, ht1, ht2, hpl, hpr, rfl, hown, hB, hK⟩ := hrel
    obtain ⟨wo, rfl⟩ : ∃ wo : World, wo = wr := ⟨_, rfl⟩
    have Hpr := Lib.hid hpr
    clear hpr
    have hll : (l ++ pre).length ≤ 1073741826 := by rw [List.length_append]; omega
    generalize hL : l ++ pre = L at *
    have HL := Lib.hid hL
    clear hL
    have hloo : lo ≤ wo.heap.size := Nat.le_trans hlo hB.size
    have HLp := Lib.hid hpl
    have hpl2 : pre.length ≤ 2 := by omega
    clear hpl
    rcases (show t = 1 ∨ t = 0 ∨ t = -1 by omega) with rfl | rfl | rfl
    · have Hx := Lib.hid (show ((n : Int) / 256 % 256 : Int) = ((UInt8.ofNat (n / 256)).toNat : Int) by rw [UInt8.toNat_ofNat']; omega)
      go_wp2_with (
        at_builtin
        refine wpList_app _ rfl (.tmp 14) (.tmp 20) _ rfl lo 5 i0 _ 1 1 Tryz.underlying62 hi0 hz0 hz1 hz2 rfl (by omega) B L.length d (L.map U8) rfl (hown.ext ((Ext.refl _).alloc _)) 0 _ 1 1 [.int .u8 ((n : Int) / 256 % 256)] rfl (rd_new _ _ rfl _ _ 1 1 rfl) (by simp [Value.oneCell']) (by omega) (by omega) (by simp; omega) ?_
        intro A5 c5 w5 hown5 hg5 hb5 hat5)
      rw [Hx.out] at hown5
      have e1 : l ++ (pre ++ [UInt8.ofNat (n / 256)]) = L ++ [UInt8.ofNat (n / 256)] := by rw [← HL.out, List.append_assoc]
      go_roundw
      case rel =>
        refine ⟨0, pre ++ [UInt8.ofNat (n / 256)], A5, c5, rfl, by omega, by omega, ?_, ?_, ?_, ?_, (hB.alloc (by omega) _).trans hb5, hK.trans ((KeptT.ext ((Ext.refl _).alloc _)).trans (KeptT.grown (hown.ext ((Ext.refl _).alloc _)) hg5))⟩
        · have h := HLp.out; rw [show ((1 : Int) + 1).toNat = 2 from rfl] at h; rw [List.length_append]; show pre.length + 1 + 1 ≤ 2; omega
        · rw [← Hpr.out, List.append_assoc]; rfl
        · rw [e1, List.length_append]; rfl
        · rw [e1, List.length_append, List.map_append]; exact hown5
      case measure => simp [intOf]
    · have Hx := Lib.hid (show ((n : Int) % 256 : Int) = ((UInt8.ofNat n).toNat : Int) by rw [UInt8.toNat_ofNat']; omega)
      go_wp2_with (
        at_builtin
        refine wpList_app _ rfl (.tmp 14) (.tmp 20) _ rfl lo 5 i0 _ 1 1 Tryz.underlying62 hi0 hz0 hz1 hz2 rfl (by omega) B L.length d (L.map U8) rfl (hown.ext ((Ext.refl _).alloc _)) 0 _ 1 1 [.int .u8 ((n : Int) % 256)] rfl (rd_new _ _ rfl _ _ 1 1 rfl) (by simp [Value.oneCell']) (by omega) (by omega) (by simp; omega) ?_
        intro A5 c5 w5 hown5 hg5 hb5 hat5)
      rw [Hx.out] at hown5
      have e1 : l ++ (pre ++ [UInt8.ofNat n]) = L ++ [UInt8.ofNat n] := by rw [← HL.out, List.append_assoc]
      go_roundw
      case rel =>
        refine ⟨-1, pre ++ [UInt8.ofNat n], A5, c5, rfl, by omega, by omega, ?_, ?_, ?_, ?_, (hB.alloc (by omega) _).trans hb5, hK.trans ((KeptT.ext ((Ext.refl _).alloc _)).trans (KeptT.grown (hown.ext ((Ext.refl _).alloc _)) hg5))⟩
        · have h := HLp.out; rw [show ((0 : Int) + 1).toNat = 1 from rfl] at h; rw [List.length_append]; show pre.length + 1 + 0 ≤ 2; omega
        · rw [← Hpr.out, List.append_assoc]; rfl
        · rw [e1, List.length_append]; rfl
        · rw [e1, List.length_append, List.map_append]; exact hown5
      case measure => simp [intOf]
    · go_wp2_with fail
      go_ret
      have e1 : L = l ++ R := by rw [← HL.out, ← Hpr.out]; simp [restB]
      rw [← e1]
      exact ⟨_, _, rfl, hown, hB, hK⟩

theorem restB_num2 (n : Nat) : restB (2 - 1) n = num2 n := rfl
theorem restB_one (n : Nat) : restB (1 - 1) n = [UInt8.ofNat n] := rfl
theorem num2_len (n : Nat) : (num2 n).length = 2 := rfl

set_option maxHeartbeats 1000000 in
theorem ver_putDatum (lo : Nat) (A : Option Addr) (c : Nat) (l d : List UInt8) (w : World) (ho : Own w lo 5 1 A l.length c (l.map U8)) (hlo : lo ≤ w.heap.size) (hl : l.length ≤ 1073741824) (hd : d.length ≤ 1073741824) :
    Calls Tryz.prog 60 #[.slice A l.length c, S d] w (NumPost lo w (l ++ keyD d)) := by
  obtain ⟨i0, hi0, hz0, hz1, hz2⟩ := info_parts info_u8
  have HN := Lib.hid (ver_number lo A c l 2 d.length w ho hlo (.inr rfl) (by omega) hl)
  rw [restB_num2] at HN
  have hL : (l ++ num2 d.length).length ≤ 1073741826 := by rw [List.length_append, num2_len]; omega
  have HE : Hid (l ++ keyD d = (l ++ num2 d.length) ++ d) := by show _ = _; unfold keyD; rw [List.append_assoc]
  generalize l ++ num2 d.length = L at *
  go_enter Tryz.func60, Tryz.ntmps60
  go_wp2_with fail
  refine HN.out.mono ?_; rintro e w1 ⟨A1, c1, rfl, ho1, hB1, hK1⟩
  go_wp2_with (
    at_builtin
    refine wpList_app_str _ rfl (.tmp 9) (.tmp 10) _ _ rfl lo 5 i0 Tryz.underlying62 Tryz.underlying9 hi0 hz0 hz1 hz2 A1 L.length c1 (L.map U8) rfl ho1 d rfl (by omega) (Nat.le_trans hlo hB1.size) ?_
    intro A5 c5 w5 hown5 hg5 hb5)
  go_ret
  rw [HE.out]
  exact ⟨A5, c5, by rw [List.length_append]; rfl, by rw [List.length_append, List.map_append]; exact hown5, hB1.trans hb5, hK1.trans (KeptT.grown ho1 hg5)⟩

theorem flat_snoc {α : Type} (f : α → List UInt8) (l : List α) (k : Nat) (h : k < l.length) : (l.take (k + 1)).flatMap f = (l.take k).flatMap f ++ f l[k] := by
  rw [take_snoc l k h, List.flatMap_append, List.flatMap_cons, List.flatMap_nil, List.append_nil]
theorem flat_take_le {α : Type} (f : α → List UInt8) (l : List α) (k : Nat) : ((l.take k).flatMap f).length ≤ (l.flatMap f).length := by
  conv => rhs; rw [← List.take_append_drop k l, List.flatMap_append, List.length_append]
  omega
theorem flat_at_le {α : Type} (f : α → List UInt8) (l : List α) (k : Nat) (h : k < l.length) : ((l.take k).flatMap f).length + (f l[k]).length ≤ (l.flatMap f).length := by
  have := flat_take_le f l (k + 1)
  rw [flat_snoc f l k h, List.length_append] at this
  exact this

set_option maxHeartbeats 2000000 in
theorem ver_listS (w0 : World) (lo lo' : Nat) (A : Option Addr) (c : Nat) (l : List UInt8) (v : Value) (da : List (List UInt8)) (w : World) (ho : Own w lo 5 1 A l.length c (l.map U8)) (hw0 : Ext w0 w) (h0 : w0.heap.size ≤ lo) (hlo : lo ≤ w.heap.size)
    (hda : Strs w0 lo' v da) (hl : l.length + 2 + (da.flatMap keyD).length ≤ 1073741824) :
    Calls Tryz.prog 59 #[.slice A l.length c, .int .i64 2, v, .func (.func 60) #[] #[]] w (NumPost lo w (l ++ (num2 da.length ++ da.flatMap keyD))) := by
  obtain ⟨B, d, rfl, h1, h2, hrd⟩ := hda
  unfold maxLen at h2
  have HN := Lib.hid (ver_number lo A c l 2 da.length w ho hlo (.inr rfl) (by omega) (by omega))
  rw [restB_num2] at HN
  have hcf : ∀ args W, (callFunc 60 args).run Tryz.prog W = .ok (.enter 60 args) W := fun args W => by kernel_rfl
  have hL : (l ++ num2 da.length).length = l.length + 2 := by rw [List.length_append, num2_len]
  rw [← List.append_assoc]
  generalize l ++ num2 da.length = L at *
  have HL := Lib.hid hL
  have Hl := Lib.hid hl
  clear hL hl
  go_enter Tryz.func59, Tryz.ntmps59
  go_wp2_with fail
  refine HN.out.mono ?_; rintro e w1 ⟨A1, c1, rfl, ho1, hB1, hK1⟩
  go_wp2_with fail
  go_loopw [0, 18] (fun b i wr => ∃ (k : Nat) (C : Option Addr) (d' : Nat), k ≤ da.length ∧ i = .int .i64 k ∧ b = .slice C (L ++ (da.take k).flatMap keyD).length d' ∧ Own wr lo 5 1 C (L ++ (da.take k).flatMap keyD).length d' ((L ++ (da.take k).flatMap keyD).map U8) ∧ Below lo w wr ∧ KeptT w wr) (fun _ i _ => da.length - (intOf i).toNat)
  case atStart => exact ⟨0, A1, c1, by omega, rfl, by simp, by simpa using ho1, hB1, hK1⟩
  case round =>
    obtain ⟨k, C, d', hk, rfl, rfl, hown, hB, hK⟩ := hrel
    obtain ⟨wo, rfl⟩ : ∃ wo : World, wo = wr := ⟨_, rfl⟩
    have hE0 : Ext w0 wo := hw0.then hB h0
    by_cases hlt : k < da.length
    · obtain ⟨b, off, rfl, _, hbz, hc⟩ := hrd.2 (by omega)
      have hck := (hE0.cell (p := ⟨b, off + k, none⟩) hbz).trans (hc k (S da[k]) (by simp [List.getElem?_eq_getElem hlt]))
      have Hst := Lib.hid (flat_snoc keyD da k hlt)
      have Hle := Lib.hid (flat_at_le keyD da k hlt)
      have hxl : da[k].length ≤ 1073741824 := by
        have := Hle.out
        have := Hl.out
        unfold keyD at *
        rw [List.length_append] at *
        omega
      generalize hT : (da.take k).flatMap keyD = T at *
      generalize da[k] = x at *
      have hlT : (L ++ T).length ≤ 1073741824 := by
        have := Hle.out
        have := Hl.out
        have := HL.out
        rw [List.length_append]
        omega
      have HP := Lib.hid (ver_putDatum lo C d' (L ++ T) x wo hown (Nat.le_trans hlo hB.size) hlT hxl)
      clear hc hT
      generalize hM : L ++ T = M at *
      have HM := Lib.hid hM
      clear hM
      go_wp2_with fail
      refine HP.out.mono ?_; rintro e w2 ⟨A2, c2, rfl, ho2, hB2, hK2⟩
      go_wp2_with fail
      go_roundw
      case rel =>
        have e1 : L ++ (da.take (k + 1)).flatMap keyD = M ++ keyD x := by rw [Hst.out, ← HM.out, List.append_assoc]
        exact ⟨k + 1, A2, c2, by omega, by go_num, by rw [e1, List.length_append], by rw [e1]; exact ho2, hB.trans hB2, hK.trans hK2⟩
      case measure => simp [intOf]; omega
    · have e1 : da.take k = da := List.take_of_length_le (by omega)
      rw [e1] at hown ⊢
      clear e1
      go_wp2_with fail
      go_ret
      exact ⟨C, d', rfl, hown, hB, hK⟩

def SetKeyOk (s : SetD) : Prop := (0 ≤ s.typ ∧ s.typ ≤ 65535) ∧ (0 ≤ s.cls ∧ s.cls ≤ 65535)
theorem keyS1_len (s : SetD) : (keyS1 s).length = s.name.length + 6 + (s.data.flatMap keyD).length := by
  unfold keyS1
  simp only [List.length_append, num2_len]
  omega

set_option maxHeartbeats 2000000 in
theorem ver_putSet (w0 : World) (lo lo' : Nat) (A : Option Addr) (c : Nat) (l : List UInt8) (s : SetD) (dA : Option Addr) (dc : Nat) (w : World) (ho : Own w lo 5 1 A l.length c (l.map U8)) (hw0 : Ext w0 w) (h0 : w0.heap.size ≤ lo) (hlo : lo ≤ w.heap.size)
    (hda : Strs w0 lo' (.slice dA s.data.length dc) s.data) (hs : SetKeyOk s) (hl : l.length + (keyS1 s).length ≤ 1073741824) :
    Calls Tryz.prog 34 #[.slice A l.length c, setVal s (.slice dA s.data.length dc)] w (NumPost lo w (l ++ keyS1 s)) := by
  rw [keyS1_len] at hl
  obtain ⟨i0, hi0, hz0, hz1, hz2⟩ := info_parts info_u8
  obtain ⟨nm, ty, cl, tt, da⟩ := s
  obtain ⟨⟨ht1, ht2⟩, hc1, hc2⟩ := hs
  dsimp only at *
  obtain ⟨t, rfl⟩ := Int.eq_ofNat_of_zero_le ht1
  obtain ⟨k, rfl⟩ := Int.eq_ofNat_of_zero_le hc1
  have HE : Hid (l ++ keyS1 ⟨nm, (t : Int), (k : Int), tt, da⟩ = (((l ++ nm) ++ num2 t) ++ num2 k) ++ (num2 da.length ++ da.flatMap keyD)) := by
    show _ = _
    unfold keyS1
    simp only [List.append_assoc, Int.toNat_natCast]
  have hL1 : (l ++ nm).length = l.length + nm.length := List.length_append
  have hL2 : ((l ++ nm) ++ num2 t).length = l.length + nm.length + 2 := by rw [List.length_append, hL1, num2_len]
  have hL3 : (((l ++ nm) ++ num2 t) ++ num2 k).length = l.length + nm.length + 4 := by rw [List.length_append, hL2, num2_len]
  have HL1 := Lib.hid hL1
  have HL2 := Lib.hid hL2
  have HL3 := Lib.hid hL3
  have Hl := Lib.hid hl
  clear hL1 hL2 hL3
  have hX : Ext w (w.alloc (.cells #[S nm, .int .u16 (t : Int), .int .u16 (k : Int), .int .u32 tt, .slice dA da.length dc] 50)) := (Ext.refl _).alloc _
  obtain ⟨X, hXe⟩ : ∃ X, X = w.alloc (.cells #[S nm, .int .u16 (t : Int), .int .u16 (k : Int), .int .u32 tt, .slice dA da.length dc] 50) := ⟨_, rfl⟩
  rw [← hXe] at hX
  obtain ⟨kc, kf, kz⟩ := ext_new (Ext.refl (w.alloc (.cells #[S nm, .int .u16 (t : Int), .int .u16 (k : Int), .int .u32 tt, .slice dA da.length dc] 50)))
  rw [← hXe] at kc kf kz
  have hoX := ho.ext hX
  have hloX : lo ≤ X.heap.size := Nat.le_trans hlo hX.size
  have hwX := hw0.trans hX
  have hhX : X.heap[w.heap.size]? = some (.cells #[S nm, .int .u16 (t : Int), .int .u16 (k : Int), .int .u32 tt, .slice dA da.length dc] 50) := by rw [hXe]; exact heap_alloc_new w _
  have HN1 := Lib.hid (fun A c (l : List UInt8) (n : Nat) W (ho : Own W lo 5 1 A l.length c (l.map U8)) (hlo : lo ≤ W.heap.size) (hn : n < 9223372036854775808) (hl : l.length ≤ 1073741824) => ver_number lo A c l 2 n W ho hlo (.inr rfl) hn hl)
  have HLS := Lib.hid (fun A c (l : List UInt8) W (ho : Own W lo 5 1 A l.length c (l.map U8)) (hW : Ext w0 W) (hlo : lo ≤ W.heap.size) (hl : l.length + 2 + (da.flatMap keyD).length ≤ 1073741824) => ver_listS w0 lo lo' A c l _ da W ho hW h0 hlo hda hl)
  go_enter Tryz.func34, Tryz.ntmps34
  go_upto_region 1 with fail
  rw [← hXe]
  have hBX : Below lo w X := by rw [hXe]; exact (Below.refl lo w).alloc hlo _
  clear hXe
  go_wp2_with (
    at_builtin
    refine wpList_app_str _ rfl (.tmp 5) (.tmp 7) _ _ rfl lo 5 i0 Tryz.underlying62 Tryz.underlying9 hi0 hz0 hz1 hz2 A l.length c (l.map U8) rfl hoX nm rfl (by omega) hloX ?_
    intro A1 c1 w1 hown1 hg1 hb1
    have hk1 := KeptT.grown hoX hg1
    have q1 := hk1.cells (by decide) hhX
    have ho1 : Own w1 lo 5 1 A1 (l ++ nm).length c1 ((l ++ nm).map U8) := by rw [List.length_append, List.map_append]; exact hown1
    have hB1 : Below lo w w1 := hBX.trans hb1
    have e1 := HL1.out
    rw [← e1]
    clear hown1 e1
    generalize l ++ nm = L1 at *)
  have hE1 := hw0.then hB1 h0
  have hz1 : lo ≤ w1.heap.size := Nat.le_trans hlo hB1.size
  have ht3 : (t : Int) < 9223372036854775808 := by omega
  refine (HN1.out _ _ _ t _ ho1 hz1 (by omega) (by rw [HL1.out]; omega)).mono ?_; rintro e w2 ⟨A2, c2, rfl, ho2, hB2, hK2⟩
  have q2 := (hk1.trans hK2).cells (by decide) hhX
  have hE2 := hE1.then hB2 h0
  have hz2' : lo ≤ w2.heap.size := Nat.le_trans hz1 hB2.size
  rw [restB_num2] at ho2 ⊢
  generalize L1 ++ num2 t = L2 at *
  go_wp2_with fail
  refine (HN1.out _ _ _ k _ ho2 hz2' (by omega) (by rw [HL2.out]; omega)).mono ?_; rintro e w3 ⟨A3, c3, rfl, ho3, hB3, hK3⟩
  have q3 := ((hk1.trans hK2).trans hK3).cells (by decide) hhX
  have hE3 := hE2.then hB3 h0
  have hz3 : lo ≤ w3.heap.size := Nat.le_trans hz2' hB3.size
  rw [restB_num2] at ho3 ⊢
  generalize L2 ++ num2 k = L3 at *
  go_wp2_with fail
  refine (HLS.out _ _ _ _ ho3 hE3 hz3 (by rw [HL3.out]; omega)).mono ?_; rintro e w4 ⟨A4, c4, rfl, ho4, hB4, hK4⟩
  generalize L3 ++ (num2 da.length ++ da.flatMap keyD) = L4 at *
  go_wp2_with fail
  go_ret
  rw [HE.out]
  exact ⟨A4, c4, rfl, ho4, ((hB1.trans hB2).trans hB3).trans hB4, (KeptT.ext hX).trans (((hk1.trans hK2).trans hK3).trans hK4)⟩

theorem keySs_cons (l : List SetD) : keySs l = UInt8.ofNat l.length :: l.flatMap keyS1 := rfl
set_option maxHeartbeats 2000000 in
theorem ver_list (w0 : World) (lo lo' : Nat) (A : Option Addr) (c : Nat) (l : List UInt8) (v : Value) (ss : List SetD) (w : World) (ho : Own w lo 5 1 A l.length c (l.map U8)) (hw0 : Ext w0 w) (h0 : w0.heap.size ≤ lo) (hlo : lo ≤ w.heap.size)
    (hda : Sets w0 lo' v ss) (hok : ∀ s ∈ ss, SetKeyOk s) (hl : l.length + 1 + (ss.flatMap keyS1).length ≤ 1073741824) :
    Calls Tryz.prog 33 #[.slice A l.length c, .int .i64 1, v, .func (.func 34) #[] #[]] w (NumPost lo w (l ++ keySs ss)) := by
  obtain ⟨ps, B, d, hps, rfl, h1, h2, hrd, hst⟩ := hda
  unfold maxLen at h2
  have hlen : ps.length = ss.length := by rw [← hps]; simp
  have HN := Lib.hid (ver_number lo A c l 1 ps.length w ho hlo (.inl rfl) (by omega) (by omega))
  rw [restB_one] at HN
  have hcf : ∀ args W, (callFunc 34 args).run Tryz.prog W = .ok (.enter 34 args) W := fun args W => by kernel_rfl
  have hL : (l ++ [UInt8.ofNat ps.length]).length = l.length + 1 := by rw [List.length_append]; rfl
  have hE : l ++ keySs ss = (l ++ [UInt8.ofNat ps.length]) ++ ss.flatMap keyS1 := by rw [keySs_cons, hlen, List.append_assoc]; rfl
  rw [hE]
  clear hE
  generalize l ++ [UInt8.ofNat ps.length] = L at *
  have HL := Lib.hid hL
  have Hl := Lib.hid hl
  have Hps := Lib.hid hps
  have Hlen := Lib.hid hlen
  clear hL hl hps hlen
  go_enter Tryz.func33, Tryz.ntmps33
  go_wp2_with fail
  refine HN.out.mono ?_; rintro e w1 ⟨A1, c1, rfl, ho1, hB1, hK1⟩
  go_wp2_with fail
  go_loopw [0, 18] (fun b i wr => ∃ (k : Nat) (C : Option Addr) (d' : Nat), k ≤ ps.length ∧ i = .int .i64 k ∧ b = .slice C (L ++ (ss.take k).flatMap keyS1).length d' ∧ Own wr lo 5 1 C (L ++ (ss.take k).flatMap keyS1).length d' ((L ++ (ss.take k).flatMap keyS1).map U8) ∧ Below lo w wr ∧ KeptT w wr) (fun _ i _ => ps.length - (intOf i).toNat)
  case atStart => exact ⟨0, A1, c1, by omega, rfl, by simp, by simpa using ho1, hB1, hK1⟩
  case round =>
    obtain ⟨k, C, d', hk, rfl, rfl, hown, hB, hK⟩ := hrel
    obtain ⟨wo, rfl⟩ : ∃ wo : World, wo = wr := ⟨_, rfl⟩
    have hE0 : Ext w0 wo := hw0.then hB h0
    have hloo : lo ≤ wo.heap.size := Nat.le_trans hlo hB.size
    by_cases hlt : k < ps.length
    · have hlt' : k < ss.length := by rw [← Hlen.out]; exact hlt
      have hp : ps[k]? = some ps[k] := List.getElem?_eq_getElem hlt
      have hpl : ss[k] = ps[k].1 := by simp [← Hps.out]
      have Hst := Lib.hid (flat_snoc keyS1 ss k hlt')
      have Hle := Lib.hid (flat_at_le keyS1 ss k hlt')
      have hsk := hok ss[k] (List.getElem_mem hlt')
      rw [hpl] at Hst Hle hsk
      have hstr := hst ps[k] (List.getElem_mem hlt)
      generalize ps[k] = p at *
      obtain ⟨b, off, rfl, _, hbz, hc⟩ := hrd.2 (by omega)
      obtain ⟨c0, c1', c2, c3, c4⟩ := sets_cells hc k p hp
      rw [← hE0.cell (p := ⟨b, _, none⟩) hbz] at c0 c1' c2 c3 c4
      clear hc hp hpl hst
      obtain ⟨⟨nm, ty, cl, tt, da⟩, dv⟩ := p
      dsimp only at *
      obtain ⟨dA, dc, rfl⟩ := hstr.shape
      generalize hT : (ss.take k).flatMap keyS1 = T at *
      have hlT : (L ++ T).length + (keyS1 ⟨nm, ty, cl, tt, da⟩).length ≤ 1073741824 := by
        have := Hle.out
        have := Hl.out
        have := HL.out
        rw [List.length_append]
        omega
      have HP := Lib.hid (fun W (hW : Ext wo W) => ver_putSet w0 lo lo' C d' (L ++ T) ⟨nm, ty, cl, tt, da⟩ dA dc W (hown.ext hW) (hE0.trans hW) h0 (Nat.le_trans hloo hW.size) hstr hsk hlT)
      have hownG := hown
      clear hT
      generalize hM : L ++ T = M at *
      have HM := Lib.hid hM
      have hki : (k : Int) < (ps.length : Int) := by omega
      have hk0 : (0 : Int) ≤ (k : Int) := by omega
      clear hM
      go_wp2_with fail
      refine (HP.out _ ((Ext.refl _).alloc _)).mono ?_; rintro e w2 ⟨A2, c2', rfl, ho2, hB2, hK2⟩
      have e1 : L ++ (ss.take (k + 1)).flatMap keyS1 = M ++ keyS1 ⟨nm, ty, cl, tt, da⟩ := by rw [Hst.out, ← HM.out, List.append_assoc]
      have He1 := Lib.hid e1
      clear e1
      generalize M ++ keyS1 ⟨nm, ty, cl, tt, da⟩ = M2 at *
      go_wp2_with fail
      go_roundw
      case rel => exact ⟨k + 1, A2, c2', by omega, by go_num, by rw [He1.out], by rw [He1.out]; exact ho2, (hB.alloc hloo _).trans hB2, hK.trans ((KeptT.ext ((Ext.refl _).alloc _)).trans hK2)⟩
      case measure => simp [intOf]; omega
    · have e1 : ss.take k = ss := List.take_of_length_le (by rw [← Hlen.out]; omega)
      rw [e1] at hown ⊢
      clear e1
      generalize L ++ ss.flatMap keyS1 = M at *
      go_wp2_with fail
      go_ret
      exact ⟨C, d', rfl, hown, hB, hK⟩

set_option maxHeartbeats 2000000 in
theorem ver_key (lo' : Nat) (code : Int) (v u : Value) (ss oo : List SetD) (w : World) (hv : Sets w lo' v ss) (hu : Sets w lo' u oo) (hok : ∀ s ∈ ss, SetKeyOk s) (hoo : ∀ s ∈ oo, SetKeyOk s) (hc : 0 ≤ code ∧ code ≤ 255)
    (hl : 4 + (ss.flatMap keyS1).length + (oo.flatMap keyS1).length ≤ 1073741824) :
    Calls Tryz.prog 11 #[.agg #[.int .u8 code, v, u]] w fun e w' => e = .returned (S (keyV3 code ss oo)) ∧ Ext w w' := by
  obtain ⟨b, hb⟩ : ∃ b : Nat, code = b := ⟨code.toNat, by omega⟩
  subst hb
  have HA := Lib.hid (fun A c (l : List UInt8) W (ho : Own W w.heap.size 5 1 A l.length c (l.map U8)) (hW : Ext w W) (hl : l.length + 1 + (ss.flatMap keyS1).length ≤ 1073741824) => ver_list w w.heap.size lo' A c l v ss W ho hW (Nat.le_refl _) hW.size hv hok hl)
  have HB := Lib.hid (fun A c (l : List UInt8) W (ho : Own W w.heap.size 5 1 A l.length c (l.map U8)) (hW : Ext w W) (hl : l.length + 1 + (oo.flatMap keyS1).length ≤ 1073741824) => ver_list w w.heap.size lo' A c l u oo W ho hW (Nat.le_refl _) hW.size hu hoo hl)
  obtain ⟨vps, vA, vc, _, rfl, _⟩ := hv
  obtain ⟨ups, uA, uc, _, rfl, _⟩ := hu
  have hK : keyV3 b ss oo = ([UInt8.ofNat b] ++ keySs ss) ++ keySs oo := rfl
  have HK := Lib.hid hK
  have hk1 : (keySs ss).length = 1 + (ss.flatMap keyS1).length := by rw [keySs_cons, List.length_cons]; omega
  have Hk1 := Lib.hid hk1
  have Hl := Lib.hid hl
  have hu8 : ((b : Int)) = ((UInt8.ofNat b).toNat : Int) := by rw [UInt8.toNat_ofNat']; omega
  have Hu8 := Lib.hid hu8
  clear hK hk1 hl hu8
  obtain ⟨X, hX⟩ : ∃ X, X = (w.alloc (.cells #[.int .u8 (b : Int), .slice vA vps.length vc, .slice uA ups.length uc] 44)).alloc (.cells #[.int .u8 (b : Int)] 5) := ⟨_, rfl⟩
  have hwX : Ext w X := by rw [hX]; exact ((Ext.refl _).alloc _).alloc _
  have hO : Own X w.heap.size 5 1 (some ⟨w.heap.size + 1, 0, none⟩) [UInt8.ofNat b].length 1 ([UInt8.ofNat b].map U8) := by
    have h := own_lit (w.alloc (.cells #[.int .u8 (b : Int), .slice vA vps.length vc, .slice uA ups.length uc] 44)) (w.heap.size + 1) w.heap.size (by simp) (by simp) 5 [.int .u8 (b : Int)] 1 1 rfl (by unfold maxLen; omega)
    rw [hX]
    show Own _ _ _ _ _ 1 1 [.int .u8 ((UInt8.ofNat b).toNat : Int)]
    rw [← Hu8.out]
    exact h
  have hhX : X.heap[w.heap.size]? = some (.cells #[.int .u8 (b : Int), .slice vA vps.length vc, .slice uA ups.length uc] 44) := by
    rw [hX]
    exact (((Ext.refl (w.alloc (.cells #[.int .u8 (b : Int), .slice vA vps.length vc, .slice uA ups.length uc] 44))).alloc (.cells #[.int .u8 (b : Int)] 5)).block w.heap.size (by simp)).trans (heap_alloc_new w _)
  have hXb := hhX
  go_enter Tryz.func11, Tryz.ntmps11
  go_upto_region 2 with fail
  rw [← hX]
  have q0 := (KeptT.refl X).cells (by decide) hhX
  clear hX
  go_wp2_with fail
  refine (HA.out _ _ [UInt8.ofNat b] _ hO hwX (by have := Hl.out; show 1 + 1 + (ss.flatMap keyS1).length ≤ _; omega)).mono ?_; rintro e w1 ⟨A1, c1, rfl, ho1, hB1, hK1⟩
  have hw1 : Ext w w1 := hwX.then hB1 (Nat.le_refl _)
  have q1 := hK1.cells (by decide) hhX
  have hl1 : ([UInt8.ofNat b] ++ keySs ss).length + 1 + (oo.flatMap keyS1).length ≤ 1073741824 := by
    have := Hl.out
    have := Hk1.out
    rw [List.length_append, Hk1.out]; show 1 + (1 + (ss.flatMap keyS1).length) + 1 + (oo.flatMap keyS1).length ≤ _; omega
  generalize [UInt8.ofNat b] ++ keySs ss = L1 at *
  go_wp2_with fail
  refine (HB.out _ _ L1 _ ho1 hw1 hl1).mono ?_; rintro e w2 ⟨A2, c2, rfl, ho2, hB2, hK2⟩
  generalize L1 ++ keySs oo = L2 at *
  have hcv := conv_str c2 ho2.rd
  go_wp2_with fail
  go_ret
  exact ⟨by rw [HK.out]; rfl, hw1.then hB2 (Nat.le_refl _)⟩
end Go.Proofs.YtcpikbanghoflaaGreatDoor
