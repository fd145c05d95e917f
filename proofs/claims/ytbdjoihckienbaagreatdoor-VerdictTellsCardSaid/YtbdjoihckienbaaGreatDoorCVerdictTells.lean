/- hustingslaw11.VerdictTells returns true for every input, and every argument reads behind the call as it read before; the listed variable (errors.errorType) is tied to the program's text. No condition of ours. -/
import Derived.Test.YtbdjoihckienbaaGreatDoorBu0
import Derived.Test.YtbdjoihckienbaaGreatDoorBw
import Derived.Test.YtbdjoihckienbaaGreatDoorBg
import Derived.Test.YtbdjoihckienbaaGreatDoorBu
import Derived.BigQuiet
import Derived.Test.YtbdjoihckienbaaGreatDoorBe
import Derived.Test.YtbdjoihckienbaaGreatDoorBht
import Derived.Test.YtbdjoihckienbaaGreatDoorBx
import Derived.Test.YtbdjoihckienbaaGreatDoorBls
import Derived.Test.YtbdjoihckienbaaGreatDoorBy
import Derived.Test.YtbdjoihckienbaaGreatDoorBn
namespace Go.Proofs.YtbdjoihckienbaaGreatDoor
set_option linter.unusedSimpArgs false
set_option linter.unusedVariables false
open Go.RowKit

/-- What the count of a set's data comes to: it stops behind 4000. -/
def wdF : List (List UInt8) → Nat → Nat
  | [], s => s
  | d :: r, s => if s < 4000 then wdF r (s + 4 + min 4000 d.length) else s
def wideF : List SetD → Nat → Nat
  | [], s => s
  | x :: r, s => if s < 4000 then wideF r (wdF x.data (s + 40 + min 4000 x.name.length)) else s
def wideB (l : List SetD) : Bool := decide (4000 ≤ wideF l 0)
theorem wdF_le : ∀ (l : List (List UInt8)) (s : Nat), s ≤ 12012 → wdF l s ≤ 12012
  | [], s, h => h
  | d :: r, s, h => by
    unfold wdF
    split
    · exact wdF_le r _ (by omega)
    · exact h
theorem wideF_le : ∀ (l : List SetD) (s : Nat), s ≤ 12012 → wideF l s ≤ 12012
  | [], s, h => h
  | x :: r, s, h => by
    unfold wideF
    split
    · exact wideF_le r _ (wdF_le _ _ (by omega))
    · exact h
theorem wdF_ge : ∀ (l : List (List UInt8)) (s : Nat), s ≤ wdF l s
  | [], s => Nat.le_refl _
  | d :: r, s => by
    unfold wdF
    split
    · have := wdF_ge r (s + 4 + min 4000 d.length); omega
    · exact Nat.le_refl _
theorem wideF_ge : ∀ (l : List SetD) (s : Nat), s ≤ wideF l s
  | [], s => Nat.le_refl _
  | x :: r, s => by
    unfold wideF
    split
    · have := wideF_ge r (wdF x.data (s + 40 + min 4000 x.name.length)); have := wdF_ge x.data (s + 40 + min 4000 x.name.length); omega
    · exact Nat.le_refl _
theorem wdF_sum : ∀ (l : List (List UInt8)) (s : Nat), wdF l s < 4000 → s + (l.flatMap keyD).length ≤ wdF l s ∧ s + 4 * l.length ≤ wdF l s ∧ ∀ d ∈ l, d.length < 4000
  | [], s, h => by simp [wdF]
  | d :: r, s, h => by
    unfold wdF at h ⊢
    split at h
    · rename_i h4
      rw [if_pos h4]
      obtain ⟨h1, h2, h3⟩ := wdF_sum r _ h
      have h5 := wdF_ge r (s + 4 + min 4000 d.length)
      refine ⟨?_, ?_, fun x hx => ?_⟩
      · rw [List.flatMap_cons, List.length_append]
        have : (keyD d).length = 2 + d.length := by unfold keyD; rw [List.length_append]; rfl
        omega
      · rw [List.length_cons]; omega
      · rcases List.mem_cons.1 hx with rfl | hx
        · omega
        · exact h3 x hx
    · omega
structure WideOk (s : SetD) : Prop where
  nm : s.name.length < 4000
  dn : s.data.length ≤ 1000
  dl : ∀ d ∈ s.data, d.length < 4000
theorem wideF_sum : ∀ (l : List SetD) (s : Nat), wideF l s < 4000 → s + (l.flatMap keyS1).length ≤ wideF l s ∧ s + 40 * l.length ≤ wideF l s ∧ ∀ x ∈ l, WideOk x
  | [], s, h => by simp [wideF]
  | x :: r, s, h => by
    unfold wideF at h ⊢
    split at h
    · rename_i h4
      rw [if_pos h4]
      obtain ⟨h1, h2, h3⟩ := wideF_sum r _ h
      have h5 := wideF_ge r (wdF x.data (s + 40 + min 4000 x.name.length))
      obtain ⟨h6, h7, h8⟩ := wdF_sum x.data (s + 40 + min 4000 x.name.length) (by omega)
      refine ⟨?_, ?_, fun y hy => ?_⟩
      · rw [List.flatMap_cons, List.length_append, keyS1_len]
        omega
      · rw [List.length_cons]; omega
      · rcases List.mem_cons.1 hy with rfl | hy
        · exact ⟨by omega, by omega, h8⟩
        · exact h3 y hy
    · omega
theorem wide_no {l : List SetD} (h : wideB l = false) : (l.flatMap keyS1).length < 4000 ∧ l.length ≤ 100 ∧ ∀ x ∈ l, WideOk x := by
  unfold wideB at h
  rw [decide_eq_false_iff_not] at h
  obtain ⟨h1, h2, h3⟩ := wideF_sum l 0 (by omega)
  exact ⟨by omega, by omega, h3⟩
end Go.Proofs.YtbdjoihckienbaaGreatDoor
namespace Go.Proofs.YtbdjoihckienbaaGreatDoor
set_option linter.unusedSimpArgs false
set_option linter.unusedVariables false
open Go.RowKit
set_option maxRecDepth 100000

set_option maxHeartbeats 4000000 in
theorem law11_wide (lo : Nat) (code : Int) (vs vo : Value) (ss oo : List SetD) (w : World) (h1 : Sets w lo vs ss) (h2 : Sets w lo vo oo) (hok : ∀ s ∈ ss ++ oo, s.name.length ≤ maxLen ∧ ∀ d ∈ s.data, d.length ≤ maxLen) (hb1 : ss.length ≤ 140737488351232) (hb2 : oo.length ≤ 140737488351232) :
    Calls Tryz.prog 24 #[.agg #[.int .u8 code, vs, vo]] w fun e w' => e = .returned (.bool (wideB (ss ++ oo))) ∧ Ext w w' := by
  obtain ⟨vps, vA, vc, hl1, rfl, hv1, hv2, hrd1, hst1⟩ := h1
  obtain ⟨ops_, oA, oc, hl2, rfl, ho1, ho2, hrd2, hst2⟩ := h2
  unfold maxLen at hv2 ho2
  have hn1 : vps.length = ss.length := by rw [← hl1]; simp
  have hn2 : ops_.length = oo.length := by rw [← hl2]; simp
  rw [← hn1] at hb1
  rw [← hn2] at hb2
  obtain ⟨L, hL⟩ : ∃ L, L = ss ++ oo := ⟨_, rfl⟩
  have hLl : L.length = vps.length + ops_.length := by rw [hL, List.length_append]; omega
  have hatA : ∀ (k : Nat) (h : k < vps.length), L[k]? = some vps[k].1 := fun k h => by rw [hL, List.getElem?_append_left (by omega), ← hl1, List.getElem?_map, List.getElem?_eq_getElem h]; rfl
  have hatB : ∀ (m : Nat) (h : m < ops_.length), L[vps.length + m]? = some ops_[m].1 := fun m h => by
    rw [hL, List.getElem?_append_right (by omega), show vps.length + m - ss.length = m by omega, ← hl2, List.getElem?_map, List.getElem?_eq_getElem h]; rfl
  rw [← hL] at hok ⊢
  obtain ⟨R, hR⟩ : ∃ R, R = wideF L 0 := ⟨_, rfl⟩
  have hB : wideB L = decide (4000 ≤ R) := by rw [hR]; rfl
  rw [hB]
  have HR := Lib.hid hR
  have HLl := Lib.hid hLl
  clear hR hB hL hl1 hl2 hn1 hn2 hLl
  obtain ⟨X, hX⟩ : ∃ X, X = w.alloc (.cells #[.int .u8 code, .slice vA vps.length vc, .slice oA ops_.length oc] 38) := ⟨_, rfl⟩
  obtain ⟨kv, _, zv⟩ := ext_new (Ext.refl (w.alloc (.cells #[.int .u8 code, .slice vA vps.length vc, .slice oA ops_.length oc] 38)))
  rw [← hX] at kv zv
  have hwX : Ext w X := by rw [hX]; exact (Ext.refl _).alloc _
  have HK := Lib.hid (show ∀ V, Ext X V → V.cell? ⟨w.heap.size, 1, none⟩ = some (.slice vA vps.length vc) ∧ V.cell? ⟨w.heap.size, 2, none⟩ = some (.slice oA ops_.length oc) from fun V hV => ⟨(hV.cell (p := ⟨w.heap.size, 1, none⟩) zv).trans (kv 1), (hV.cell (p := ⟨w.heap.size, 2, none⟩) zv).trans (kv 2)⟩)
  clear kv
  go_enter Tryz.func24, Tryz.ntmps24
  go_upto_region 1 with fail
  rw [← hX]
  clear hX
  go_wp2_with fail
  go_loopw [3, 4] (fun n i wr => ∃ k s : Nat, k ≤ L.length ∧ i = .int .i64 k ∧ n = .int .i64 s ∧ s ≤ 12012 ∧ wideF (L.drop k) s = R ∧ Ext X wr) (fun _ i _ => L.length - (intOf i).toNat)
  case atStart => exact ⟨0, 0, by omega, rfl, rfl, by omega, by rw [HR.out]; rfl, Ext.refl _⟩
  case round =>
    obtain ⟨k, s, hk, rfl, rfl, hs, hwf, hEx⟩ := hrel
    obtain ⟨wo, rfl⟩ : ∃ wo : World, wo = wr := ⟨_, rfl⟩
    have hE := hwX.trans hEx
    obtain ⟨q1, q2⟩ := HK.out wo hEx
    have hLl := HLl.out
    by_cases hkl : k < L.length
    · rw [List.drop_eq_getElem_cons hkl, wideF] at hwf
      have hkl2 : k < vps.length + ops_.length := by omega
      clear hLl
      have hkb := hok L[k] (List.getElem_mem hkl)
      by_cases hs4 : s < 4000
      · rw [if_pos hs4] at hwf
        have hdrop := hwf
        clear hwf
        by_cases hlt : k < vps.length
        · skip
          have hp : vps[k]? = some vps[k] := List.getElem?_eq_getElem hlt
          have hpl : L[k] = vps[k].1 := by have := hatA k hlt; rw [List.getElem?_eq_getElem hkl] at this; exact Option.some.inj this
          have hstr := hst1 vps[k] (List.getElem_mem hlt)
          have hdr := hdrop
          rw [hpl] at hdr hkb
          generalize vps[k] = p at *
          obtain ⟨b, off, rfl, _, hbz, hc⟩ := hrd1.2 (by omega)
          obtain ⟨c0, c1, c2, c3, c4⟩ := sets_cells hc k p hp
          rw [← hE.cell (p := ⟨b, _, none⟩) hbz] at c0 c1 c2 c3 c4
          have hbz2 : b < wo.heap.size := Nat.lt_of_lt_of_le hbz hE.size
          clear hc hp hpl hdrop hst1 hst2 hrd1 hrd2 hatA hatB
          obtain ⟨⟨nm, ty, cl, tt, da⟩, d⟩ := p
          dsimp only at *
          obtain ⟨dA, dc, rfl, hd1, hd2, hdrd⟩ := hstr
          unfold maxLen at hd2 hkb
          have hki : (k : Int) < (vps.length : Int) + (ops_.length : Int) := by omega
          have hkj : (k : Int) < (vps.length : Int) := by omega


          have hk0 : (0 : Int) ≤ (k : Int) := by omega
          have hsi : (s : Int) < 4000 := by omega
          have hsz : w.heap.size < wo.heap.size := Nat.lt_of_lt_of_le zv hEx.size
          go_wp2_with fail
          obtain ⟨Y, hY⟩ : ∃ Y, Y = wo.alloc (.cells #[S nm, .int .u16 ty, .int .u16 cl, .int .u32 tt, .slice dA da.length dc] 55) := ⟨_, rfl⟩
          obtain ⟨hbY, _, hzY⟩ := ext_new (Ext.refl (wo.alloc (.cells #[S nm, .int .u16 ty, .int .u16 cl, .int .u32 tt, .slice dA da.length dc] 55)))
          rw [← hY] at hbY hzY
          have hEY : Ext wo Y := by rw [hY]; exact (Ext.refl _).alloc _
          rw [← hY]
          clear hY c0 c1 c2 c3 c4
          generalize hT : wdF da (s + 40 + min 4000 nm.length) = T at *
          have HT := Lib.hid hT
          have hTl : T ≤ 12012 := by rw [← hT]; exact wdF_le _ _ (by omega)
          clear hT
          have Hdr := Lib.hid hdr
          clear hdr
          go_loopw [3, 6] (fun n j wi => ∃ i s' : Nat, i ≤ da.length ∧ j = .int .i64 i ∧ n = .int .i64 s' ∧ s' ≤ 12012 ∧ wdF (da.drop i) s' = T ∧ wi = Y) (fun _ j _ => da.length - (intOf j).toNat)
          case atStart => exact ⟨0, s + 40 + min 4000 nm.length, by omega, rfl, int_eq (by omega), by omega, HT.out, rfl⟩
          case round =>
            obtain ⟨i, s', hi, rfl, rfl, hs', hwd, rfl⟩ := hrel
            by_cases hil : i < da.length
            · have hii : (i : Int) < (da.length : Int) := by omega
              have hi0 : (0 : Int) ≤ (i : Int) := by omega
              rw [List.drop_eq_getElem_cons hil, wdF] at hwd
              have hxl := hkb.2 da[i] (List.getElem_mem hil)
              obtain ⟨db, do_, rfl, _, hdz, hdc⟩ := hdrd.2 (by omega)
              have hx0 := hdc i (S da[i]) (by simp [List.getElem?_eq_getElem hil])
              rw [← (hE.trans hEY).cell (p := ⟨db, _, none⟩) hdz] at hx0
              generalize da[i] = x at *
              have Hwd := Lib.hid hwd
              clear hwd hdc
              by_cases hs4 : s' < 4000
              · have HF := Lib.hid (show wdF (da.drop (i + 1)) (s' + 4 + min 4000 x.length) = T by rw [← Hwd.out, if_pos hs4])
                have hsi' : (s' : Int) < 4000 := by omega
                go_wp2_with fail
                go_roundw
                case rel => exact ⟨i + 1, s' + 4 + min 4000 x.length, by omega, by go_num, int_eq (by omega), by omega, HF.out, by first | rfl | trivial⟩
                case measure => simp [intOf]; omega
              · have HF := Lib.hid (show s' = T by rw [← Hwd.out, if_neg hs4])
                have hsi' : decide ((s' : Int) < 4000) = false := by simp; omega
                go_wp2_with fail
                go_roundw
                case rel => exact ⟨k + 1, s', by omega, by go_num, rfl, hs', by rw [HF.out]; exact Hdr.out, hEx.trans hEY⟩
                case measure => simp [intOf]; omega
            · have e1 : da.drop i = [] := List.drop_of_length_le (by omega)
              rw [e1] at hwd
              have HF := Lib.hid (show s' = T from hwd)
              clear hwd e1
              have hii : ¬ (i : Int) < (da.length : Int) := by omega
              go_wp2_with fail
              go_roundw
              case rel => exact ⟨k + 1, s', by omega, by go_num, rfl, hs', by rw [HF.out]; exact Hdr.out, hEx.trans hEY⟩
              case measure => simp [intOf]; omega
        · obtain ⟨m, rfl⟩ : ∃ m, k = vps.length + m := ⟨k - vps.length, by omega⟩
          have hlt : m < ops_.length := by omega
          have hp : ops_[m]? = some ops_[m] := List.getElem?_eq_getElem hlt
          have hpl : L[vps.length + m] = ops_[m].1 := by have := hatB m hlt; rw [List.getElem?_eq_getElem (by have := HLl.out; omega)] at this; exact Option.some.inj this
          have hstr := hst2 ops_[m] (List.getElem_mem hlt)
          have hdr := hdrop
          rw [hpl] at hdr hkb
          generalize ops_[m] = p at *
          obtain ⟨b, off, rfl, _, hbz, hc⟩ := hrd2.2 (by omega)
          obtain ⟨c0, c1, c2, c3, c4⟩ := sets_cells hc m p hp
          rw [← hE.cell (p := ⟨b, _, none⟩) hbz] at c0 c1 c2 c3 c4
          have hbz2 : b < wo.heap.size := Nat.lt_of_lt_of_le hbz hE.size
          clear hc hp hpl hdrop hst1 hst2 hrd1 hrd2 hatA hatB
          obtain ⟨⟨nm, ty, cl, tt, da⟩, d⟩ := p
          dsimp only at *
          obtain ⟨dA, dc, rfl, hd1, hd2, hdrd⟩ := hstr
          unfold maxLen at hd2 hkb
          have hki : ((vps.length + m : Nat) : Int) < (vps.length : Int) + (ops_.length : Int) := by omega
          have hkj : ¬ ((vps.length + m : Nat) : Int) < (vps.length : Int) := by omega
          have hkm : ((vps.length + m : Nat) : Int) - (vps.length : Int) = (m : Int) := by omega
          have hmi : (m : Int) < (ops_.length : Int) := by omega
          have hk0 : (0 : Int) ≤ (m : Int) := by omega
          have hsi : (s : Int) < 4000 := by omega
          have hsz : w.heap.size < wo.heap.size := Nat.lt_of_lt_of_le zv hEx.size
          go_wp2_with fail
          obtain ⟨Y, hY⟩ : ∃ Y, Y = wo.alloc (.cells #[S nm, .int .u16 ty, .int .u16 cl, .int .u32 tt, .slice dA da.length dc] 55) := ⟨_, rfl⟩
          obtain ⟨hbY, _, hzY⟩ := ext_new (Ext.refl (wo.alloc (.cells #[S nm, .int .u16 ty, .int .u16 cl, .int .u32 tt, .slice dA da.length dc] 55)))
          rw [← hY] at hbY hzY
          have hEY : Ext wo Y := by rw [hY]; exact (Ext.refl _).alloc _
          rw [← hY]
          clear hY c0 c1 c2 c3 c4
          generalize hT : wdF da (s + 40 + min 4000 nm.length) = T at *
          have HT := Lib.hid hT
          have hTl : T ≤ 12012 := by rw [← hT]; exact wdF_le _ _ (by omega)
          clear hT
          have Hdr := Lib.hid hdr
          clear hdr
          go_loopw [3, 6] (fun n j wi => ∃ i s' : Nat, i ≤ da.length ∧ j = .int .i64 i ∧ n = .int .i64 s' ∧ s' ≤ 12012 ∧ wdF (da.drop i) s' = T ∧ wi = Y) (fun _ j _ => da.length - (intOf j).toNat)
          case atStart => exact ⟨0, s + 40 + min 4000 nm.length, by omega, rfl, int_eq (by omega), by omega, HT.out, rfl⟩
          case round =>
            obtain ⟨i, s', hi, rfl, rfl, hs', hwd, rfl⟩ := hrel
            by_cases hil : i < da.length
            · have hii : (i : Int) < (da.length : Int) := by omega
              have hi0 : (0 : Int) ≤ (i : Int) := by omega
              rw [List.drop_eq_getElem_cons hil, wdF] at hwd
              have hxl := hkb.2 da[i] (List.getElem_mem hil)
              obtain ⟨db, do_, rfl, _, hdz, hdc⟩ := hdrd.2 (by omega)
              have hx0 := hdc i (S da[i]) (by simp [List.getElem?_eq_getElem hil])
              rw [← (hE.trans hEY).cell (p := ⟨db, _, none⟩) hdz] at hx0
              generalize da[i] = x at *
              have Hwd := Lib.hid hwd
              clear hwd hdc
              by_cases hs4 : s' < 4000
              · have HF := Lib.hid (show wdF (da.drop (i + 1)) (s' + 4 + min 4000 x.length) = T by rw [← Hwd.out, if_pos hs4])
                have hsi' : (s' : Int) < 4000 := by omega
                go_wp2_with fail
                go_roundw
                case rel => exact ⟨i + 1, s' + 4 + min 4000 x.length, by omega, by go_num, int_eq (by omega), by omega, HF.out, by first | rfl | trivial⟩
                case measure => simp [intOf]; omega
              · have HF := Lib.hid (show s' = T by rw [← Hwd.out, if_neg hs4])
                have hsi' : decide ((s' : Int) < 4000) = false := by simp; omega
                go_wp2_with fail
                go_roundw
                case rel => exact ⟨vps.length + m + 1, s', by omega, by go_num, rfl, hs', by rw [HF.out]; exact Hdr.out, hEx.trans hEY⟩
                case measure => simp [intOf]; omega
            · have e1 : da.drop i = [] := List.drop_of_length_le (by omega)
              rw [e1] at hwd
              have HF := Lib.hid (show s' = T from hwd)
              clear hwd e1
              have hii : ¬ (i : Int) < (da.length : Int) := by omega
              go_wp2_with fail
              go_roundw
              case rel => exact ⟨vps.length + m + 1, s', by omega, by go_num, rfl, hs', by rw [HF.out]; exact Hdr.out, hEx.trans hEY⟩
              case measure => simp [intOf]; omega
      · rw [if_neg hs4] at hwf
        have HF := Lib.hid (show s = R from hwf)
        have hki : (k : Int) < (vps.length : Int) + (ops_.length : Int) := by omega
        have hsi : decide ((s : Int) < 4000) = false := by simp; omega
        have hge : (4000 : Int) ≤ (s : Int) := by omega
        clear hwf
        go_wp2_with fail
        go_ret
        exact ⟨ret_bool (by rw [← HF.out]; simp; omega), hE⟩
    · have hkl2 : ¬ k < vps.length + ops_.length := by omega
      clear hLl
      have e1 : L.drop k = [] := List.drop_of_length_le (by omega)
      rw [e1] at hwf
      have HF := Lib.hid (show s = R from hwf)
      clear hwf e1
      have hki : ¬ (k : Int) < (vps.length : Int) + (ops_.length : Int) := by omega
      go_wp2_with fail
      go_ret
      exact ⟨ret_bool (by rw [← HF.out]; simp; try omega), hE⟩
end Go.Proofs.YtbdjoihckienbaaGreatDoor
namespace Go.Proofs.YtbdjoihckienbaaGreatDoor
set_option linter.unusedSimpArgs false
set_option linter.unusedVariables false
open Go.RowKit
set_option maxRecDepth 100000

theorem endV_last {ty : Int} {ss : List SetD} {m : Nat} (h : ss.length = m + 1) (s : SetD) (hs : ss[m]? = some s) : endV ty ss = if s.typ = ty then some s else none := by
  unfold endV
  have e : ss.getLast? = some s := by rw [List.getLast?_eq_getElem?, h]; exact hs
  rw [e]
/-- What a caller sees of an end that is not copied. -/
def REndPost (lo : Nat) (r : Option SetD) (w : World) (e : Ending) (w' : World) : Prop :=
  ∃ d, e = .returned (.tuple #[setVal (r.getD SetD.zero) d, .bool r.isSome]) ∧ Strs w' lo d (r.getD SetD.zero).data ∧ Ext w w'

set_option maxHeartbeats 2000000 in
theorem ver_end (n : List UInt8) (ty cls code : Int) (lo : Nat) (vs : Value) (ss : List SetD) (uA : Option Addr) (un uc : Nat) (w : World) (hv : Sets w lo vs ss) (hbd : SetsBd ss) :
    Calls Tryz.prog 19 #[.agg #[S n, .int .u16 ty, .int .u16 cls], .agg #[.int .u8 code, vs, .slice uA un uc]] w (FindPost (endV ty ss) w) := by
  obtain ⟨ps, A, c, hl, rfl, h1, h2, hrd, hst⟩ := hv
  unfold maxLen at h2
  have hlen : ps.length = ss.length := by rw [← hl]; simp
  obtain ⟨R, hR⟩ : ∃ R, R = endV ty ss := ⟨_, rfl⟩
  rw [← hR]
  have HR := Lib.hid hR
  clear hR
  obtain ⟨N, hN⟩ : ∃ N, ps.length = N := ⟨_, rfl⟩
  rw [hN] at h1 hrd hlen ⊢
  obtain ⟨X, hX⟩ : ∃ X, X = ((w.alloc (.cells #[S n, .int .u16 ty, .int .u16 cls] 24)).alloc (.cells #[.int .u8 code, .slice A N c, .slice uA un uc] 38)).alloc (.cells #[S [], .int .u16 0, .int .u16 0, .int .u32 0, .slice none 0 0] 55) := ⟨_, rfl⟩
  obtain ⟨kq, _, zq⟩ := ext_new_at (w.heap.size) rfl (((Ext.refl (w.alloc (.cells #[S n, .int .u16 ty, .int .u16 cls] 24))).alloc (.cells #[.int .u8 code, .slice A N c, .slice uA un uc] 38)).alloc (.cells #[S [], .int .u16 0, .int .u16 0, .int .u32 0, .slice none 0 0] 55))
  obtain ⟨kv, _, zv⟩ := ext_new_at (w.heap.size + 1) (by simp) ((Ext.refl ((w.alloc (.cells #[S n, .int .u16 ty, .int .u16 cls] 24)).alloc (.cells #[.int .u8 code, .slice A N c, .slice uA un uc] 38))).alloc (.cells #[S [], .int .u16 0, .int .u16 0, .int .u32 0, .slice none 0 0] 55))
  obtain ⟨kr, kf, zr⟩ := ext_new_at (w.heap.size + 1 + 1) (by simp) (Ext.refl (((w.alloc (.cells #[S n, .int .u16 ty, .int .u16 cls] 24)).alloc (.cells #[.int .u8 code, .slice A N c, .slice uA un uc] 38)).alloc (.cells #[S [], .int .u16 0, .int .u16 0, .int .u32 0, .slice none 0 0] 55)))
  rw [← hX] at kq zq kv zv kr kf zr
  have hwX : Ext w X := by rw [hX]; exact (((Ext.refl _).alloc _).alloc _).alloc _
  rcases N with _ | m
  · have HF : Hid (R = none) := Lib.hid (by
      rw [HR.out]
      have : ss = [] := List.eq_nil_of_length_eq_zero (by omega)
      rw [this]; rfl)
    clear hlen hl hst hrd h1 kq zq zv hN
    go_enter Tryz.func19, Tryz.ntmps19
    go_upto_region 1 with fail
    rw [← hX]
    clear hX
    go_wp2_with fail
    obtain ⟨Y, hY⟩ : ∃ Y, Y = ((((X.setCell ⟨w.heap.size + 1 + 1, 0, none⟩ (S [])).setCell ⟨w.heap.size + 1 + 1, 1, none⟩ (.int .u16 0)).setCell ⟨w.heap.size + 1 + 1, 2, none⟩ (.int .u16 0)).setCell ⟨w.heap.size + 1 + 1, 3, none⟩ (.int .u32 0)).setCell ⟨w.heap.size + 1 + 1, 4, none⟩ (.slice none 0 0) := ⟨_, rfl⟩
    have hbY := box5 kr (S []) (.int .u16 0) (.int .u16 0) (.int .u32 0) (.slice none 0 0)
    rw [← hY] at hbY
    have hEY : Ext w Y := by rw [hY]; (repeat (first | with_reducible exact Ext.refl _ | with_reducible assumption | with_reducible refine Ext.alloc ?_ _ | with_reducible refine Ext.drewN ?_ _ | with_reducible refine Ext.drew ?_ | (with_reducible refine Ext.setCell ?_ ?hp _; case hp => (simp <;> omega))))
    have hzY : w.heap.size + 1 + 1 < Y.heap.size := by rw [hY]; simpa using zr
    rw [← hY]
    refine bodyPost_ret (v := .tuple #[setVal SetD.zero (.slice none 0 0), .bool false]) (by simp [results, Tryz.results19, go_sem, hbY, hzY, SetD.zero]) rfl ?_
    exact ⟨_, by rw [HF.out]; rfl, by rw [HF.out]; exact ⟨none, 0, rfl, Own.nil _ _ _ _⟩, hEY⟩
  · have hp : ps[m]? = some ps[m] := List.getElem?_eq_getElem (by omega)
    have hstr := hst ps[m] (List.getElem_mem (by omega))
    have hsm : ss[m]? = some ps[m].1 := by have h := congrArg (fun l => l[m]?) hl; simp only [List.getElem?_map, hp] at h; exact h.symm
    have hbs := hbd ps[m].1 (List.mem_of_getElem? hsm)
    have HE := Lib.hid (endV_last (ty := ty) (show ss.length = m + 1 by omega) _ hsm)
    generalize ps[m] = p at *
    obtain ⟨b, off, rfl, _, hbz, hc⟩ := hrd.2 (by omega)
    obtain ⟨c0, c1, c2, c3, c4⟩ := sets_cells hc m p hp
    rw [← hwX.cell (p := ⟨b, _, none⟩) hbz] at c0 c1 c2 c3 c4
    have hbX : b < X.heap.size := Nat.lt_of_lt_of_le hbz hwX.size
    clear hc hp hrd hst hsm hl hlen hN
    obtain ⟨⟨nm, ty1, cl, tt, da⟩, d⟩ := p
    dsimp only at *
    obtain ⟨dA, dc, rfl⟩ := hstr.shape
    have hq1 : ((m : Int) + 1 == 0) = false := by rw [beq_eq_false_iff_ne]; omega
    have hq2 : (m : Int) + 1 - 1 = m := by omega
    have hq3 : (m : Int) < (m : Int) + 1 := by omega
    by_cases hty : ty1 = ty
    · have HF := Lib.hid (HR.out.trans (HE.out.trans (if_pos hty)))
      subst hty
      go_enter Tryz.func19, Tryz.ntmps19
      go_upto_region 1 with fail
      rw [← hX]
      clear hX
      go_wp2_with fail
      refine (sl_clone lo _ da _ ((hstr.ext hwX).ext ((Ext.refl _).alloc _)) hbs.2.1).mono ?_; rintro e w2 ⟨v2, rfl, ⟨dA2, dc2, rfl, ho2⟩, hE2⟩
      obtain ⟨hq, hqf, hqz⟩ := ext_new hE2
      have hX2 : Ext X w2 := ((Ext.refl _).alloc _).trans hE2
      have kr2 : ∀ j, w2.cell? ⟨w.heap.size + 1 + 1, j, none⟩ = _ := fun j => (hX2.cell (p := ⟨_, j, none⟩) zr).trans (kr j)
      have kf2 : ∀ j, w2.frozen? ⟨w.heap.size + 1 + 1, j, none⟩ = false := fun j => (hX2.frozen (p := ⟨_, j, none⟩) zr).trans (kf j)
      have hw2 := hwX.trans hX2
      have zr2 : w.heap.size + 1 + 1 < w2.heap.size := Nat.lt_of_lt_of_le zr hX2.size
      have hz2 : X.heap.size < w2.heap.size := hqz
      have hwXz : w.heap.size < X.heap.size := by omega
      go_wp2_with fail
      refine bodyPost_ret (v := .tuple #[setVal ⟨nm, ty1, cl, tt, da⟩ (.slice dA2 da.length dc2), .bool true]) ?_ rfl ?_
      · simp [results, Tryz.results19, go_sem, kr2, kf2, zr2]
      · refine ⟨_, by rw [HF.out]; rfl, ?_, ?_⟩
        · rw [HF.out]
          refine ⟨dA2, dc2, rfl, Own.lower (lo := X.heap.size + 1) ?_ (by omega)⟩
          repeat (with_reducible refine Own.set_other ?_ ?hp _; case hp => (simp <;> omega))
          exact ho2.lower (by simp)
        · (repeat (first | with_reducible exact Ext.refl _ | with_reducible assumption | with_reducible refine Ext.alloc ?_ _ | with_reducible refine Ext.drewN ?_ _ | with_reducible refine Ext.drew ?_ | (with_reducible refine Ext.setCell ?_ ?hp _; case hp => (simp <;> omega))))
    · have HF := Lib.hid (HR.out.trans (HE.out.trans (if_neg hty)))
      have f1 : (ty1 == ty) = false := by rw [beq_eq_false_iff_ne]; exact hty
      clear hty
      go_enter Tryz.func19, Tryz.ntmps19
      go_upto_region 1 with fail
      rw [← hX]
      clear hX
      go_wp2_with fail
      refine bodyPost_ret (v := .tuple #[setVal SetD.zero (.slice none 0 0), .bool false]) ?_ rfl ?_
      · simp [results, Tryz.results19, go_sem, kr, kf, zr, SetD.zero]
      · refine ⟨_, by rw [HF.out]; rfl, by rw [HF.out]; exact ⟨none, 0, rfl, Own.nil _ _ _ _⟩, ?_⟩
        (repeat (first | with_reducible exact Ext.refl _ | with_reducible assumption | with_reducible refine Ext.alloc ?_ _ | with_reducible refine Ext.drewN ?_ _ | with_reducible refine Ext.drew ?_ | (with_reducible refine Ext.setCell ?_ ?hp _; case hp => (simp <;> omega))))
set_option maxHeartbeats 2000000 in
theorem ref11_end (n : List UInt8) (ty cls code : Int) (lo : Nat) (vs : Value) (ss : List SetD) (uA : Option Addr) (un uc : Nat) (w : World) (hv : Sets w lo vs ss) (hbd : SetsBd ss) :
    Calls Tryz.prog 25 #[.agg #[S n, .int .u16 ty, .int .u16 cls], .agg #[.int .u8 code, vs, .slice uA un uc]] w (REndPost lo (endV ty ss) w) := by
  obtain ⟨ps, A, c, hl, rfl, h1, h2, hrd, hst⟩ := hv
  unfold maxLen at h2
  have hlen : ps.length = ss.length := by rw [← hl]; simp
  obtain ⟨R, hR⟩ : ∃ R, R = endV ty ss := ⟨_, rfl⟩
  rw [← hR]
  have HR := Lib.hid hR
  clear hR
  obtain ⟨N, hN⟩ : ∃ N, ps.length = N := ⟨_, rfl⟩
  rw [hN] at h1 hrd hlen ⊢
  obtain ⟨X, hX⟩ : ∃ X, X = ((w.alloc (.cells #[S n, .int .u16 ty, .int .u16 cls] 24)).alloc (.cells #[.int .u8 code, .slice A N c, .slice uA un uc] 38)).alloc (.cells #[S [], .int .u16 0, .int .u16 0, .int .u32 0, .slice none 0 0] 55) := ⟨_, rfl⟩
  obtain ⟨kq, _, zq⟩ := ext_new_at (w.heap.size) rfl (((Ext.refl (w.alloc (.cells #[S n, .int .u16 ty, .int .u16 cls] 24))).alloc (.cells #[.int .u8 code, .slice A N c, .slice uA un uc] 38)).alloc (.cells #[S [], .int .u16 0, .int .u16 0, .int .u32 0, .slice none 0 0] 55))
  obtain ⟨kv, _, zv⟩ := ext_new_at (w.heap.size + 1) (by simp) ((Ext.refl ((w.alloc (.cells #[S n, .int .u16 ty, .int .u16 cls] 24)).alloc (.cells #[.int .u8 code, .slice A N c, .slice uA un uc] 38))).alloc (.cells #[S [], .int .u16 0, .int .u16 0, .int .u32 0, .slice none 0 0] 55))
  obtain ⟨kr, kf, zr⟩ := ext_new_at (w.heap.size + 1 + 1) (by simp) (Ext.refl (((w.alloc (.cells #[S n, .int .u16 ty, .int .u16 cls] 24)).alloc (.cells #[.int .u8 code, .slice A N c, .slice uA un uc] 38)).alloc (.cells #[S [], .int .u16 0, .int .u16 0, .int .u32 0, .slice none 0 0] 55)))
  rw [← hX] at kq zq kv zv kr kf zr
  have hwX : Ext w X := by rw [hX]; exact (((Ext.refl _).alloc _).alloc _).alloc _
  rcases N with _ | m
  · have HF : Hid (R = none) := Lib.hid (by
      rw [HR.out]
      have : ss = [] := List.eq_nil_of_length_eq_zero (by omega)
      rw [this]; rfl)
    clear hlen hl hst hrd h1 kq zq zv hN
    go_enter Tryz.func25, Tryz.ntmps25
    go_upto_region 1 with fail
    rw [← hX]
    clear hX
    go_wp2_with fail
    go_quiet (fail)
    go_wp2_with fail
    refine bodyPost_ret (v := .tuple #[setVal SetD.zero (.slice none 0 0), .bool false]) ?_ rfl ?_
    · simp [results, Tryz.results25, go_sem, kr, kf, zr, SetD.zero]
    · refine ⟨_, by rw [HF.out]; rfl, by rw [HF.out]; exact (OStrs.strs (v := .slice none 0 0) (l := []) (lo := lo) ⟨none, 0, rfl, Own.nil _ _ _ _⟩), ?_⟩
      (repeat (first | with_reducible exact Ext.refl _ | with_reducible assumption | with_reducible refine Ext.alloc ?_ _ | with_reducible refine Ext.drewN ?_ _ | with_reducible refine Ext.drew ?_ | (with_reducible refine Ext.setCell ?_ ?hp _; case hp => (simp <;> omega))))
  · have hp : ps[m]? = some ps[m] := List.getElem?_eq_getElem (by omega)
    have hstr := hst ps[m] (List.getElem_mem (by omega))
    have hsm : ss[m]? = some ps[m].1 := by have h := congrArg (fun l => l[m]?) hl; simp only [List.getElem?_map, hp] at h; exact h.symm
    have hbs := hbd ps[m].1 (List.mem_of_getElem? hsm)
    have HE := Lib.hid (endV_last (ty := ty) (show ss.length = m + 1 by omega) _ hsm)
    generalize ps[m] = p at *
    obtain ⟨b, off, rfl, _, hbz, hc⟩ := hrd.2 (by omega)
    obtain ⟨c0, c1, c2, c3, c4⟩ := sets_cells hc m p hp
    rw [← hwX.cell (p := ⟨b, _, none⟩) hbz] at c0 c1 c2 c3 c4
    have hbX : b < X.heap.size := Nat.lt_of_lt_of_le hbz hwX.size
    clear hc hp hrd hst hsm hl hlen hN
    obtain ⟨⟨nm, ty1, cl, tt, da⟩, d⟩ := p
    dsimp only at *
    obtain ⟨dA, dc, rfl⟩ := hstr.shape
    have hq1 : ((m : Int) + 1 == 0) = false := by rw [beq_eq_false_iff_ne]; omega
    have hq2 : (m : Int) + 1 - 1 = m := by omega
    have hq3 : (m : Int) < (m : Int) + 1 := by omega
    by_cases hty : ty1 = ty
    · have HF := Lib.hid (HR.out.trans (HE.out.trans (if_pos hty)))
      subst hty
      go_enter Tryz.func25, Tryz.ntmps25
      go_upto_region 1 with fail
      rw [← hX]
      clear hX
      go_wp2_with fail
      go_quiet (fail)
      go_wp2_with fail
      refine bodyPost_ret (v := .tuple #[setVal ⟨nm, ty1, cl, tt, da⟩ (.slice dA da.length dc), .bool true]) ?_ rfl ?_
      · simp [results, Tryz.results25, go_sem, kr, kf, zr]
      · refine ⟨_, by rw [HF.out]; rfl, ?_, ?_⟩
        · rw [HF.out]
          have hEz : Ext w X := hwX
          refine hstr.ext ?_
          (repeat (first | with_reducible exact Ext.refl _ | with_reducible assumption | with_reducible refine Ext.alloc ?_ _ | with_reducible refine Ext.drewN ?_ _ | with_reducible refine Ext.drew ?_ | (with_reducible refine Ext.setCell ?_ ?hp _; case hp => (simp <;> omega))))
        · (repeat (first | with_reducible exact Ext.refl _ | with_reducible assumption | with_reducible refine Ext.alloc ?_ _ | with_reducible refine Ext.drewN ?_ _ | with_reducible refine Ext.drew ?_ | (with_reducible refine Ext.setCell ?_ ?hp _; case hp => (simp <;> omega))))
    · have HF := Lib.hid (HR.out.trans (HE.out.trans (if_neg hty)))
      have f1 : (ty1 == ty) = false := by rw [beq_eq_false_iff_ne]; exact hty
      clear hty
      go_enter Tryz.func25, Tryz.ntmps25
      go_upto_region 1 with fail
      rw [← hX]
      clear hX
      go_wp2_with fail
      go_quiet (fail)
      go_wp2_with fail
      refine bodyPost_ret (v := .tuple #[setVal SetD.zero (.slice none 0 0), .bool false]) ?_ rfl ?_
      · simp [results, Tryz.results25, go_sem, kr, kf, zr, SetD.zero]
      · refine ⟨_, by rw [HF.out]; rfl, by rw [HF.out]; exact (OStrs.strs (v := .slice none 0 0) (l := []) (lo := lo) ⟨none, 0, rfl, Own.nil _ _ _ _⟩), ?_⟩
        (repeat (first | with_reducible exact Ext.refl _ | with_reducible assumption | with_reducible refine Ext.alloc ?_ _ | with_reducible refine Ext.drewN ?_ _ | with_reducible refine Ext.drew ?_ | (with_reducible refine Ext.setCell ?_ ?hp _; case hp => (simp <;> omega))))
end Go.Proofs.YtbdjoihckienbaaGreatDoor
namespace Go.Proofs.YtbdjoihckienbaaGreatDoor
set_option linter.unusedSimpArgs false
set_option linter.unusedVariables false
open Go.RowKit
set_option maxRecDepth 100000

theorem conv2 (W : World) (g : Nat) (hg : g = W.heap.size) (x y : Int) (c d : UInt8) (h : x = c.toNat) (h' : y = d.toNat) : (convert 79 9 (.slice (some ⟨g, 0, none⟩) 2 2)).run Tryz.prog (W.alloc (.cells #[.int .u8 x, .int .u8 y] 5)) = .ok (S [c, d]) (W.alloc (.cells #[.int .u8 x, .int .u8 y] 5)) := by
  subst hg h h'
  exact conv_str (lo := 0) 2 (l := [c, d]) (rd_new W _ rfl _ _ 2 1 rfl)

set_option maxHeartbeats 1000000 in
theorem ref11_two (n : Nat) (w : World) (hn : n < 9223372036854775808) :
    Calls Tryz.prog 82 #[.int .i64 n] w fun e w' => e = .returned (S (num2 n)) ∧ Ext w w' := by
  have hq : Int.tdiv (n : Int) 256 = ((n / 256 : Nat) : Int) := rfl
  have hr : Int.tmod ((n / 256 : Nat) : Int) 256 = ((n / 256 % 256 : Nat) : Int) := rfl
  have hr2 : Int.tmod (n : Int) 256 = ((n % 256 : Nat) : Int) := rfl
  have HC := Lib.hid (fun W : World => conv2 W W.heap.size rfl ((n : Int) / 256 % 256) ((n : Int) % 256) (UInt8.ofNat (n / 256)) (UInt8.ofNat n) (by rw [UInt8.toNat_ofNat']; omega) (by rw [UInt8.toNat_ofNat']; omega))
  go_enter Tryz.func82, Tryz.ntmps82
  go_wp2_with fail
  rw [HC.out]
  go_wp2_with fail
  go_ret
  exact ⟨rfl, (Ext.refl _).alloc _⟩
end Go.Proofs.YtbdjoihckienbaaGreatDoor
namespace Go.Proofs.YtbdjoihckienbaaGreatDoor
set_option linter.unusedSimpArgs false
set_option linter.unusedVariables false
open Go.RowKit
set_option maxRecDepth 100000

structure KeyOk (s : SetD) : Prop where
  t0 : 0 ≤ s.typ
  t1 : s.typ ≤ 65535
  c0 : 0 ≤ s.cls
  c1 : s.cls ≤ 65535

set_option maxHeartbeats 4000000 in
theorem ref11_sets (lo : Nat) (v : Value) (l : List SetD) (w : World) (h : Sets w lo v l) (hok : ∀ s ∈ l, KeyOk s) (hlen : (keySs l).length ≤ 1048576) :
    Calls Tryz.prog 55 #[v] w fun e w' => e = .returned (S (keySs l)) ∧ Ext w w' := by
  obtain ⟨ps, A, c, hl, rfl, h1, h2, hrd, hst⟩ := h
  unfold maxLen at h2
  have hpl : ps.length = l.length := by rw [← hl]; simp
  have Hl := Lib.hid hl
  have Hpl := Lib.hid hpl
  have Hst := Lib.hid hst
  have Hok := Lib.hid hok
  have HR : Hid (keySs l = UInt8.ofNat ps.length :: l.flatMap keyS1) := Lib.hid (by rw [hpl]; rfl)
  have Hbd := Lib.hid hlen
  generalize keySs l = R at *
  clear hl hpl hst hok hlen
  have HC := Lib.hid (fun W : World => conv1 W W.heap.size rfl ((ps.length : Int) % 256) (UInt8.ofNat ps.length) (by rw [UInt8.toNat_ofNat']; omega))
  go_enter Tryz.func55, Tryz.ntmps55
  go_wp2_with fail
  rw [HC.out]
  go_wp2_with fail
  go_loopw [3, 4] (fun s i wr => ∃ k : Nat, k ≤ ps.length ∧ i = .int .i64 k ∧ s = S (UInt8.ofNat ps.length :: (l.take k).flatMap keyS1) ∧ Ext w wr) (fun _ i _ => ps.length - (intOf i).toNat)
  case atStart => exact ⟨0, by omega, rfl, rfl, by (repeat (first | with_reducible exact Ext.refl _ | with_reducible assumption | with_reducible refine Ext.alloc ?_ _ | with_reducible refine Ext.drewN ?_ _ | with_reducible refine Ext.drew ?_ | (with_reducible refine Ext.setCell ?_ ?hp _; case hp => (simp <;> omega))))⟩
  case round =>
    obtain ⟨k, hk, rfl, rfl, hE⟩ := hrel
    obtain ⟨wo, rfl⟩ : ∃ wo : World, wo = wr := ⟨_, rfl⟩
    by_cases hlt : k < ps.length
    · have hp : ps[k]? = some ps[k] := List.getElem?_eq_getElem hlt
      have hpl : l[k]? = some ps[k].1 := by rw [← Hl.out, List.getElem?_map, hp]; rfl
      have hkl : k < l.length := by rw [← Hpl.out]; exact hlt
      have hke : l[k] = ps[k].1 := by rw [List.getElem?_eq_getElem hkl] at hpl; exact Option.some.inj hpl
      have hko := Hok.out ps[k].1 (List.mem_of_getElem? hpl)
      have Hsn := Lib.hid (flat_snoc keyS1 l k hkl)
      rw [hke] at Hsn
      have hpre : Hid (∃ z, l.flatMap keyS1 = ((l.take k).flatMap keyS1 ++ keyS1 ps[k].1) ++ z) := Lib.hid ⟨(l.drop (k + 1)).flatMap keyS1, by rw [← Hsn.out, ← List.flatMap_append, List.take_append_drop]⟩
      have hstr := Hst.out ps[k] (List.getElem_mem hlt)
      generalize ps[k] = p at *
      obtain ⟨b, off, rfl, _, hbz, hc⟩ := hrd.2 (by omega)
      obtain ⟨c0, c1, c2, c3, c4⟩ := sets_cells hc k p hp
      rw [← hE.cell (p := ⟨b, _, none⟩) hbz] at c0 c1 c2 c3 c4
      clear hc hp hrd hpl hke
      obtain ⟨⟨nm, ty, cl, tt, da⟩, d⟩ := p
      dsimp only at *
      obtain ⟨k0, k1, k2, k3⟩ := hko
      dsimp only at k0 k1 k2 k3
      obtain ⟨tn, rfl⟩ : ∃ tn : Nat, ty = (tn : Int) := ⟨ty.toNat, by omega⟩
      obtain ⟨cn, rfl⟩ : ∃ cn : Nat, cl = (cn : Int) := ⟨cl.toNat, by omega⟩
      obtain ⟨dA, dc, rfl, hd1, hd2, hdr⟩ := hstr
      unfold maxLen at hd2
      have hki : (k : Int) < (ps.length : Int) := by omega
      have hk0 : (0 : Int) ≤ (k : Int) := by omega
      have hbz2 : b < wo.heap.size := by have := hE.size; omega
      have HS := Lib.hid (show ∀ V, Ext wo V → V.cell? ⟨b, off + k * 5, none⟩ = some (S nm) ∧ V.cell? ⟨b, off + k * 5 + 1, none⟩ = some (.int .u16 (tn : Int)) ∧ V.cell? ⟨b, off + k * 5 + 2, none⟩ = some (.int .u16 (cn : Int)) ∧ V.cell? ⟨b, off + k * 5 + 4, none⟩ = some (.slice dA da.length dc) from fun V hV => ⟨(hV.cell (p := ⟨b, _, none⟩) hbz2).trans c0, (hV.cell (p := ⟨b, _, none⟩) hbz2).trans c1, (hV.cell (p := ⟨b, _, none⟩) hbz2).trans c2, (hV.cell (p := ⟨b, _, none⟩) hbz2).trans c4⟩)
      have Hc4 := Lib.hid (show ∀ V, Ext wo V → V.cell? ⟨b, off + k * 5 + 4, none⟩ = some (.slice dA da.length dc) from fun V hV => (hV.cell (p := ⟨b, _, none⟩) hbz2).trans c4)
      have hpb : Hid ((UInt8.ofNat ps.length :: ((l.take k).flatMap keyS1 ++ keyS1 ⟨nm, tn, cn, tt, da⟩)).length ≤ 1048576) := Lib.hid (by
        obtain ⟨z, hz⟩ := hpre.out
        have := Hbd.out
        rw [HR.out, hz] at this
        simp only [List.length_cons, List.length_append] at this ⊢
        omega)
      obtain ⟨P, hP⟩ : ∃ P, UInt8.ofNat ps.length :: (l.take k).flatMap keyS1 = P := ⟨_, rfl⟩
      rw [hP]
      have HP := Lib.hid hP
      have hPl : P.length ≤ 1048576 ∧ nm.length ≤ 1048576 := by
        have h1 := hpb.out
        have h2 : (keyS1 ⟨nm, (tn : Int), (cn : Int), tt, da⟩).length = nm.length + 6 + (da.flatMap keyD).length := keyS1_len _
        rw [← hP]
        simp only [List.length_cons, List.length_append] at h1 ⊢
        omega
      have hn2 : ∀ n, (num2 n).length = 2 := fun n => rfl
      have hs1 : ¬ 9223372036854775807 < P.length + nm.length := by omega
      have hs2 : ¬ 9223372036854775807 < P.length + nm.length + (num2 tn).length := by rw [hn2]; omega
      have hs3 : ¬ 9223372036854775807 < P.length + nm.length + (num2 tn).length + (num2 cn).length := by rw [hn2, hn2]; omega
      have hs4 : ¬ 9223372036854775807 < P.length + nm.length + (num2 tn).length + (num2 cn).length + (num2 da.length).length := by rw [hn2, hn2, hn2]; omega
      have ht1 : ¬ 9223372036854775807 < (P ++ nm).length + (num2 tn).length := by rw [List.length_append]; exact hs2
      have ht2 : ¬ 9223372036854775807 < (P ++ (nm ++ num2 tn)).length + (num2 cn).length := by simp only [List.length_append, hn2]; omega
      have ht3 : ¬ 9223372036854775807 < (P ++ (nm ++ (num2 tn ++ num2 cn))).length + (num2 da.length).length := by simp only [List.length_append, hn2]; omega
      have hs5 : ¬ 9223372036854775807 < P.length + (nm.length + (num2 tn).length) + (num2 cn).length := by rw [hn2, hn2]; omega
      have hs6 : ¬ 9223372036854775807 < P.length + (nm.length + ((num2 tn).length + (num2 cn).length)) + (num2 da.length).length := by rw [hn2, hn2, hn2]; omega
      have hw1 : IntKind.i64.wrap (tn : Int) = (tn : Int) := IntWalk.i64_in _ (by omega)
      have hw2 : IntKind.i64.wrap (cn : Int) = (cn : Int) := IntWalk.i64_in _ (by omega)
      clear hn2
      clear hP c0 c1 c2 c3 c4
      go_wp2_with fail
      refine wp_region_noPanic ?_
      refine wp_region_seq (S := (fun V => V.cell? ⟨b, off + k * 5, none⟩ = some (S nm) ∧ V.cell? ⟨b, off + k * 5 + 1, none⟩ = some (.int .u16 (tn : Int)) ∧ V.cell? ⟨b, off + k * 5 + 2, none⟩ = some (.int .u16 (cn : Int)) ∧ V.cell? ⟨b, off + k * 5 + 4, none⟩ = some (.slice dA da.length dc))) [(0, true), (1, true), (2, true), (3, true), (4, true), (5, true), (6, true), (7, true), (8, true), (9, true), (10, true), (11, true), (12, true), (15, true), (16, true), (17, true), (18, true), (19, true), (20, true), (23, true), (24, true), (25, true), (26, true), (27, true), (28, true), (13, false), (14, true), (21, false), (22, true), (29, false), (30, true), (31, true)] (by kernel_rfl) (by kernel_rfl) (fun _ _ _ _ _ h => h) (HS.out _ ((Ext.refl wo).drew)) ?_
      repeat ((with_reducible refine heldIs ?_); first
        | (refine heldTake (v := ?_) (by rfl) (by rfl) ?_ ?_; rotate_left; (focus (intro V hV; (try dsimp only at hV); (go_simp <;> with_reducible rfl))); (try simp only [Act.put, List.setIfInBounds_toArray, List.set_cons_zero, List.set_cons_succ]))
        | (refine heldSkip (by rfl) (by rfl) ?_; (try simp only [Act.put, List.setIfInBounds_toArray, List.set_cons_zero, List.set_cons_succ])))
      refine heldRun (by rfl) (fun K hK => ?_)
      go_simp
      refine (ref11_two tn _ (by omega)).mono ?_; rintro e w1 ⟨rfl, hE1⟩
      refine hK.out _ _ ?_ ?_
      · exact HS.out _ (Ext.trans ((Ext.refl wo).drew) hE1)
      clear hK K
      (try simp only [Act.put, List.setIfInBounds_toArray, List.set_cons_zero, List.set_cons_succ])
      have hE01 : Ext wo w1 := Ext.trans ((Ext.refl wo).drew) hE1
      repeat ((with_reducible refine heldIs ?_); first
        | (refine heldTake (v := ?_) (by rfl) (by rfl) ?_ ?_; rotate_left; (focus (intro V hV; (try dsimp only at hV); (go_simp <;> with_reducible rfl))); (try simp only [Act.put, List.setIfInBounds_toArray, List.set_cons_zero, List.set_cons_succ]))
        | (refine heldSkip (by rfl) (by rfl) ?_; (try simp only [Act.put, List.setIfInBounds_toArray, List.set_cons_zero, List.set_cons_succ])))
      refine heldRun (by rfl) (fun K hK => ?_)
      go_simp
      refine (ref11_two cn _ (by omega)).mono ?_; rintro e w2 ⟨rfl, hE2⟩
      refine hK.out _ _ ?_ ?_
      · exact HS.out _ (hE01.trans hE2)
      clear hK K
      (try simp only [Act.put, List.setIfInBounds_toArray, List.set_cons_zero, List.set_cons_succ])
      have hE02 : Ext wo w2 := hE01.trans hE2
      repeat ((with_reducible refine heldIs ?_); first
        | (refine heldTake (v := ?_) (by rfl) (by rfl) ?_ ?_; rotate_left; (focus (intro V hV; (try dsimp only at hV); (go_simp <;> with_reducible rfl))); (try simp only [Act.put, List.setIfInBounds_toArray, List.set_cons_zero, List.set_cons_succ]))
        | (refine heldSkip (by rfl) (by rfl) ?_; (try simp only [Act.put, List.setIfInBounds_toArray, List.set_cons_zero, List.set_cons_succ])))
      refine heldRun (by rfl) (fun K hK => ?_)
      go_simp
      refine (ref11_two da.length _ (by omega)).mono ?_; rintro e w3 ⟨rfl, hE3⟩
      refine hK.out _ _ ?_ ?_
      · exact HS.out _ (hE02.trans hE3)
      clear hK K
      (try simp only [Act.put, List.setIfInBounds_toArray, List.set_cons_zero, List.set_cons_succ])
      have hE03 : Ext wo w3 := hE02.trans hE3
      repeat ((with_reducible refine heldIs ?_); first
        | (refine heldTake (v := ?_) (by rfl) (by rfl) ?_ ?_; rotate_left; (focus (intro V hV; (try dsimp only at hV); (go_simp <;> with_reducible rfl))); (try simp only [Act.put, List.setIfInBounds_toArray, List.set_cons_zero, List.set_cons_succ]))
        | (refine heldSkip (by rfl) (by rfl) ?_; (try simp only [Act.put, List.setIfInBounds_toArray, List.set_cons_zero, List.set_cons_succ])))
      refine heldDone ?_
      refine NoPanic.normal ?_
      obtain ⟨Q, hQ⟩ : ∃ Q, (((P ++ nm) ++ num2 tn) ++ num2 cn) ++ num2 da.length = Q := ⟨_, rfl⟩
      have HQ : Hid (UInt8.ofNat ps.length :: (l.take (k + 1)).flatMap keyS1 = Q ++ da.flatMap keyD) := Lib.hid (by
        rw [Hsn.out, ← hQ, ← HP.out]
        simp only [keyS1, List.cons_append, List.append_assoc, Int.toNat_natCast])
      have hQb : Q.length + (da.flatMap keyD).length ≤ 1048576 := by
        have h1 := hpb.out
        rw [← Hsn.out, HQ.out, List.length_append] at h1
        exact h1
      simp only [List.append_assoc] at hQ ⊢
      try rw [hQ]
      have hE3 : Ext wo w3 := hE03
      clear hQ hs1 hs2 hs3 hs4 ht1 ht2 ht3 hs5 hs6 hPl
      go_wp2_with fail
      go_loopw [3, 5] (fun s j wi => ∃ i : Nat, i ≤ da.length ∧ j = .int .i64 i ∧ s = S (Q ++ (da.take i).flatMap keyD) ∧ Ext wo wi) (fun _ j _ => da.length - (intOf j).toNat)
      case atStart => exact ⟨0, by omega, rfl, by simp, hE03⟩
      case round =>
        obtain ⟨i, hi, rfl, rfl, hEi⟩ := hrel
        obtain ⟨wi, rfl⟩ : ∃ wi : World, wi = wr := ⟨_, rfl⟩
        have q4 := Hc4.out _ hEi
        by_cases hil : i < da.length
        · obtain ⟨db, do_, rfl, _, hdz, hdc⟩ := hdr.2 (by omega)
          have Hds := Lib.hid (flat_snoc keyD da i hil)
          have Hdl := Lib.hid (flat_at_le keyD da i hil)
          have hx0 := hdc i (S da[i]) (by simp [List.getElem?_eq_getElem hil])
          generalize da[i] = x at *
          have HT := Lib.hid (show ∀ V, Ext wi V → V.cell? ⟨b, off + k * 5 + 4, none⟩ = some (.slice (some ⟨db, do_, none⟩) da.length dc) ∧ V.cell? ⟨db, do_ + i, none⟩ = some (S x) from fun V hV => ⟨Hc4.out _ (hEi.trans hV), (Below.cell (p := ⟨db, _, none⟩) ((hE.trans hEi).trans hV) hdz).trans hx0⟩)
          have hxl : x.length + 2 ≤ 1048576 ∧ (Q ++ (da.take i).flatMap keyD).length + 2 + x.length ≤ 1048576 := by
            have h1 := Hdl.out
            have h2 : (keyD x).length = 2 + x.length := by unfold keyD; rw [List.length_append]; rfl
            rw [List.length_append]
            omega
          generalize hT : Q ++ (da.take i).flatMap keyD = T at *
          have HT1 := Lib.hid hT
          clear hT hdc hx0 hQb
          have hn2 : (num2 x.length).length = 2 := rfl
          have hs1 : ¬ 9223372036854775807 < T.length + (num2 x.length).length := by omega
          have hs2 : ¬ 9223372036854775807 < T.length + (num2 x.length).length + x.length := by omega
          have hs3 : ¬ 9223372036854775807 < (T ++ num2 x.length).length + x.length := by rw [List.length_append]; omega
          clear hn2
          have hii : (i : Int) < (da.length : Int) := by omega
          have hi0 : (0 : Int) ≤ (i : Int) := by omega
          go_wp2_with fail
          refine wp_region_noPanic ?_
          refine wp_region_seq (S := (fun V => V.cell? ⟨b, off + k * 5 + 4, none⟩ = some (.slice (some ⟨db, do_, none⟩) da.length dc) ∧ V.cell? ⟨db, do_ + i, none⟩ = some (S x))) [(0, true), (1, true), (2, true), (3, true), (4, true), (5, true), (6, true), (7, true), (8, true), (9, true), (12, true), (13, true), (14, true), (15, true), (16, true), (17, true), (18, true), (19, true), (10, false), (11, true), (20, true), (21, true)] (by kernel_rfl) (by kernel_rfl) (fun _ _ _ _ _ h => h) (HT.out _ ((Ext.refl wi).drew)) ?_
          repeat ((with_reducible refine heldIs ?_); first
            | (refine heldTake (v := ?_) (by rfl) (by rfl) ?_ ?_; rotate_left; (focus (intro V hV; (try dsimp only at hV); (go_simp <;> with_reducible rfl))); (try simp only [Act.put, List.setIfInBounds_toArray, List.set_cons_zero, List.set_cons_succ]))
            | (refine heldSkip (by rfl) (by rfl) ?_; (try simp only [Act.put, List.setIfInBounds_toArray, List.set_cons_zero, List.set_cons_succ])))
          refine heldRun (by rfl) (fun K hK => ?_)
          go_simp
          refine (ref11_two x.length _ (by omega)).mono ?_; rintro e w4 ⟨rfl, hE4⟩
          refine hK.out _ _ ?_ ?_
          · exact HT.out _ (Ext.trans ((Ext.refl wi).drew) hE4)
          clear hK K
          (try simp only [Act.put, List.setIfInBounds_toArray, List.set_cons_zero, List.set_cons_succ])
          have hE04 : Ext wi w4 := Ext.trans ((Ext.refl wi).drew) hE4
          repeat ((with_reducible refine heldIs ?_); first
            | (refine heldTake (v := ?_) (by rfl) (by rfl) ?_ ?_; rotate_left; (focus (intro V hV; (try dsimp only at hV); (go_simp <;> with_reducible rfl))); (try simp only [Act.put, List.setIfInBounds_toArray, List.set_cons_zero, List.set_cons_succ]))
            | (refine heldSkip (by rfl) (by rfl) ?_; (try simp only [Act.put, List.setIfInBounds_toArray, List.set_cons_zero, List.set_cons_succ])))
          refine heldDone ?_
          refine NoPanic.normal ?_
          go_wp2_with fail
          go_roundw
          case rel => exact ⟨i + 1, by omega, by go_num, by rw [Hds.out, ← List.append_assoc Q, HT1.out]; first | rfl | (show S ((T ++ num2 x.length) ++ x) = S (T ++ (num2 x.length ++ x)); rw [List.append_assoc]), hEi.trans hE04⟩
          case measure => simp [intOf]; omega
        · obtain rfl : i = da.length := by omega
          go_wp2_with fail
          go_roundw
          case rel => exact ⟨k + 1, by omega, by go_num, by rw [HQ.out, List.take_length], hE.trans hEi⟩
          case measure => simp [intOf]; omega
    · obtain rfl : k = ps.length := by omega
      have e1 : Hid (UInt8.ofNat ps.length :: (l.take ps.length).flatMap keyS1 = R) := Lib.hid (by rw [HR.out, List.take_of_length_le (Nat.le_of_eq Hpl.out.symm)])
      rw [e1.out]
      go_wp2_with fail
      go_ret
      exact ⟨rfl, hE⟩
end Go.Proofs.YtbdjoihckienbaaGreatDoor
namespace Go.Proofs.YtbdjoihckienbaaGreatDoor
set_option linter.unusedSimpArgs false
set_option linter.unusedVariables false
open Go.RowKit
set_option maxRecDepth 100000

set_option maxHeartbeats 4000000 in
theorem ref11_key (lo : Nat) (code : Nat) (vs vo : Value) (ss oo : List SetD) (w : World) (hv : Sets w lo vs ss) (hu : Sets w lo vo oo) (hok : ∀ s ∈ ss, KeyOk s) (hoo : ∀ s ∈ oo, KeyOk s) (hc : code ≤ 255)
    (hl1 : (keySs ss).length ≤ 1048576) (hl2 : (keySs oo).length ≤ 1048576) :
    Calls Tryz.prog 26 #[.agg #[.int .u8 (code : Int), vs, vo]] w fun e w' => e = .returned (S (keyV3 (code : Int) ss oo)) ∧ Ext w w' := by
  have H1 := Lib.hid (fun V (hV : Ext w V) => ref11_sets lo vs ss V (hv.ext hV) hok hl1)
  have H2 := Lib.hid (fun V (hV : Ext w V) => ref11_sets lo vo oo V (hu.ext hV) hoo hl2)
  obtain ⟨vps, vA, vc, _, rfl, _⟩ := hv
  obtain ⟨ups, uA, uc, _, rfl, _⟩ := hu
  have HK : Hid (keyV3 (code : Int) ss oo = UInt8.ofNat code :: (keySs ss ++ keySs oo)) := rfl
  generalize keyV3 (code : Int) ss oo = K at *
  generalize keySs ss = K1 at *
  generalize keySs oo = K2 at *
  have hcd : (code : Int) = ((UInt8.ofNat code).toNat : Int) := by rw [UInt8.toNat_ofNat']; omega
  generalize UInt8.ofNat code = b at *
  rw [hcd]
  clear hcd hc hok hoo
  have hs1 : ¬ 9223372036854775807 < 1 + K1.length := by omega
  have hs2 : ¬ 9223372036854775807 < K1.length + 1 + K2.length := by omega
  have hs3 : ¬ 9223372036854775807 < 1 + K1.length + K2.length := by omega
  have hs4 : ¬ 9223372036854775807 < (b :: K1).length + K2.length := by rw [List.length_cons]; omega
  have hs5 : ¬ 9223372036854775807 < [b].length + K1.length := by simpa using hs1
  obtain ⟨X, hX⟩ : ∃ X, X = w.alloc (.cells #[.int .u8 (b.toNat : Int), .slice vA vps.length vc, .slice uA ups.length uc] 38) := ⟨_, rfl⟩
  obtain ⟨kv, _, zv⟩ := ext_new (Ext.refl (w.alloc (.cells #[.int .u8 (b.toNat : Int), .slice vA vps.length vc, .slice uA ups.length uc] 38)))
  rw [← hX] at kv zv
  have hwX : Ext w X := by rw [hX]; exact (Ext.refl _).alloc _
  have HS := Lib.hid (show ∀ V, Ext X V → V.cell? ⟨w.heap.size, 0, none⟩ = some (.int .u8 (b.toNat : Int)) ∧ V.cell? ⟨w.heap.size, 1, none⟩ = some (.slice vA vps.length vc) ∧ V.cell? ⟨w.heap.size, 2, none⟩ = some (.slice uA ups.length uc) from fun V hV => ⟨(hV.cell (p := ⟨w.heap.size, 0, none⟩) zv).trans (kv 0), (hV.cell (p := ⟨w.heap.size, 1, none⟩) zv).trans (kv 1), (hV.cell (p := ⟨w.heap.size, 2, none⟩) zv).trans (kv 2)⟩)
  clear hl1 hl2 kv
  go_enter Tryz.func26, Tryz.ntmps26
  go_wp2_with fail
  rw [← hX]
  clear hX
  refine wp_region_noPanic ?_
  refine wp_region_tree (S := (fun V => V.cell? ⟨w.heap.size, 0, none⟩ = some (.int .u8 (b.toNat : Int)) ∧ V.cell? ⟨w.heap.size, 1, none⟩ = some (.slice vA vps.length vc) ∧ V.cell? ⟨w.heap.size, 2, none⟩ = some (.slice uA ups.length uc))) (.take 0 (.take 1 (.take 4 (.take 5 (.take 8 (.take 9 (.run2 2 (.run2 3 (.run 6 (.take 7 (.run 10 (.take 11 (.take 12 (.done)))))) 6 (.run2 3 (.take 7 (.run 10 (.take 11 (.take 12 (.done))))) 10 (.run 3 (.take 7 (.take 11 (.take 12 (.done))))))) 6 (.run2 2 (.run2 3 (.take 7 (.run 10 (.take 11 (.take 12 (.done))))) 10 (.run 3 (.take 7 (.take 11 (.take 12 (.done)))))) 10 (.run 2 (.run 3 (.take 7 (.take 11 (.take 12 (.done)))))))))))))) (by kernel_rfl) (by kernel_rfl) (fun _ _ _ _ _ h => h) (HS.out _ ((Ext.refl X).drew)) ?_
  repeat ((with_reducible refine treeIs ?_); first
    | (refine treeTake (v := ?_) (by rfl) (by rfl) ?_ ?_; rotate_left; (focus (intro V hV; (try dsimp only at hV); (go_simp <;> with_reducible rfl))); (try simp only [Act.put, List.setIfInBounds_toArray, List.set_cons_zero, List.set_cons_succ]))
    | (refine treeSkip (by rfl) (by rfl) ?_; (try simp only [Act.put, List.setIfInBounds_toArray, List.set_cons_zero, List.set_cons_succ])))
  refine treeRun2 ?_ ?_
  · refine treeRun (by rfl) (fun K hK => ?_)
    go_simp
    have hc1 : (X.drew.alloc (.cells #[.int .u8 (b.toNat : Int)] 5)).cell? ⟨X.drew.heap.size, 0, none⟩ = some (.int .u8 (b.toNat : Int)) := World.cell?_alloc_mark X.drew _ _ _ 0
    refine hK.out _ _ ?_ ?_
    · exact HS.out _ (Ext.alloc ((Ext.refl X).drew) _)
    clear hK K
    (try simp only [Act.put, List.setIfInBounds_toArray, List.set_cons_zero, List.set_cons_succ])
    refine treeRun2 ?_ ?_
    · refine treeRun (by rfl) (fun K hK => ?_)
      rw [if_pos (by rfl)]
      refine wp_conv1 (.tmp 5) rfl _ b rfl hc1 ?_
      refine hK.out _ _ ?_ ?_
      · exact HS.out _ (Ext.alloc ((Ext.refl X).drew) _)
      clear hK K
      (try simp only [Act.put, List.setIfInBounds_toArray, List.set_cons_zero, List.set_cons_succ])
      refine treeRun (by rfl) (fun K hK => ?_)
      go_simp
      refine (H1.out _ (hwX.trans (Ext.alloc ((Ext.refl X).drew) _))).mono ?_; rintro e w1 ⟨rfl, hE1⟩
      have hc2 : w1.cell? ⟨X.drew.heap.size, 0, none⟩ = some (.int .u8 (b.toNat : Int)) := (hE1.cell (p := ⟨X.drew.heap.size, 0, none⟩) (spot_of hc1).2).trans hc1
      refine hK.out _ _ ?_ ?_
      · exact HS.out _ (Ext.trans (Ext.alloc ((Ext.refl X).drew) _) hE1)
      clear hK K
      (try simp only [Act.put, List.setIfInBounds_toArray, List.set_cons_zero, List.set_cons_succ])
      repeat ((with_reducible refine treeIs ?_); first
        | (refine treeTake (v := ?_) (by rfl) (by rfl) ?_ ?_; rotate_left; (focus (intro V hV; (try dsimp only at hV); (go_simp <;> with_reducible rfl))); (try simp only [Act.put, List.setIfInBounds_toArray, List.set_cons_zero, List.set_cons_succ]))
        | (refine treeSkip (by rfl) (by rfl) ?_; (try simp only [Act.put, List.setIfInBounds_toArray, List.set_cons_zero, List.set_cons_succ])))
      refine treeRun (by rfl) (fun K hK => ?_)
      go_simp
      refine (H2.out _ (hwX.trans (Ext.trans (Ext.alloc ((Ext.refl X).drew) _) hE1))).mono ?_; rintro e w2 ⟨rfl, hE2⟩
      have hc3 : w2.cell? ⟨X.drew.heap.size, 0, none⟩ = some (.int .u8 (b.toNat : Int)) := (hE2.cell (p := ⟨X.drew.heap.size, 0, none⟩) (spot_of hc2).2).trans hc2
      refine hK.out _ _ ?_ ?_
      · exact HS.out _ (Ext.trans (Ext.trans (Ext.alloc ((Ext.refl X).drew) _) hE1) hE2)
      clear hK K
      (try simp only [Act.put, List.setIfInBounds_toArray, List.set_cons_zero, List.set_cons_succ])
      repeat ((with_reducible refine treeIs ?_); first
        | (refine treeTake (v := ?_) (by rfl) (by rfl) ?_ ?_; rotate_left; (focus (intro V hV; (try dsimp only at hV); (go_simp <;> with_reducible rfl))); (try simp only [Act.put, List.setIfInBounds_toArray, List.set_cons_zero, List.set_cons_succ]))
        | (refine treeSkip (by rfl) (by rfl) ?_; (try simp only [Act.put, List.setIfInBounds_toArray, List.set_cons_zero, List.set_cons_succ])))
      refine treeDone ?_
      refine NoPanic.normal ?_
      go_wp2_with fail
      go_ret
      refine ⟨?_, hwX.trans (Ext.trans (Ext.trans (Ext.alloc ((Ext.refl X).drew) _) hE1) hE2)⟩
      rw [HK.out]
      first | rfl | simp
    · refine treeRun (by rfl) (fun K hK => ?_)
      go_simp
      refine (H1.out _ (hwX.trans (Ext.alloc ((Ext.refl X).drew) _))).mono ?_; rintro e w1 ⟨rfl, hE1⟩
      have hc2 : w1.cell? ⟨X.drew.heap.size, 0, none⟩ = some (.int .u8 (b.toNat : Int)) := (hE1.cell (p := ⟨X.drew.heap.size, 0, none⟩) (spot_of hc1).2).trans hc1
      refine hK.out _ _ ?_ ?_
      · exact HS.out _ (Ext.trans (Ext.alloc ((Ext.refl X).drew) _) hE1)
      clear hK K
      (try simp only [Act.put, List.setIfInBounds_toArray, List.set_cons_zero, List.set_cons_succ])
      refine treeRun2 ?_ ?_
      · refine treeRun (by rfl) (fun K hK => ?_)
        rw [if_pos (by rfl)]
        refine wp_conv1 (.tmp 5) rfl _ b rfl hc2 ?_
        refine hK.out _ _ ?_ ?_
        · exact HS.out _ (Ext.trans (Ext.alloc ((Ext.refl X).drew) _) hE1)
        clear hK K
        (try simp only [Act.put, List.setIfInBounds_toArray, List.set_cons_zero, List.set_cons_succ])
        repeat ((with_reducible refine treeIs ?_); first
          | (refine treeTake (v := ?_) (by rfl) (by rfl) ?_ ?_; rotate_left; (focus (intro V hV; (try dsimp only at hV); (go_simp <;> with_reducible rfl))); (try simp only [Act.put, List.setIfInBounds_toArray, List.set_cons_zero, List.set_cons_succ]))
          | (refine treeSkip (by rfl) (by rfl) ?_; (try simp only [Act.put, List.setIfInBounds_toArray, List.set_cons_zero, List.set_cons_succ])))
        refine treeRun (by rfl) (fun K hK => ?_)
        go_simp
        refine (H2.out _ (hwX.trans (Ext.trans (Ext.alloc ((Ext.refl X).drew) _) hE1))).mono ?_; rintro e w2 ⟨rfl, hE2⟩
        have hc3 : w2.cell? ⟨X.drew.heap.size, 0, none⟩ = some (.int .u8 (b.toNat : Int)) := (hE2.cell (p := ⟨X.drew.heap.size, 0, none⟩) (spot_of hc2).2).trans hc2
        refine hK.out _ _ ?_ ?_
        · exact HS.out _ (Ext.trans (Ext.trans (Ext.alloc ((Ext.refl X).drew) _) hE1) hE2)
        clear hK K
        (try simp only [Act.put, List.setIfInBounds_toArray, List.set_cons_zero, List.set_cons_succ])
        repeat ((with_reducible refine treeIs ?_); first
          | (refine treeTake (v := ?_) (by rfl) (by rfl) ?_ ?_; rotate_left; (focus (intro V hV; (try dsimp only at hV); (go_simp <;> with_reducible rfl))); (try simp only [Act.put, List.setIfInBounds_toArray, List.set_cons_zero, List.set_cons_succ]))
          | (refine treeSkip (by rfl) (by rfl) ?_; (try simp only [Act.put, List.setIfInBounds_toArray, List.set_cons_zero, List.set_cons_succ])))
        refine treeDone ?_
        refine NoPanic.normal ?_
        go_wp2_with fail
        go_ret
        refine ⟨?_, hwX.trans (Ext.trans (Ext.trans (Ext.alloc ((Ext.refl X).drew) _) hE1) hE2)⟩
        rw [HK.out]
        first | rfl | simp
      · refine treeRun (by rfl) (fun K hK => ?_)
        go_simp
        refine (H2.out _ (hwX.trans (Ext.trans (Ext.alloc ((Ext.refl X).drew) _) hE1))).mono ?_; rintro e w2 ⟨rfl, hE2⟩
        have hc3 : w2.cell? ⟨X.drew.heap.size, 0, none⟩ = some (.int .u8 (b.toNat : Int)) := (hE2.cell (p := ⟨X.drew.heap.size, 0, none⟩) (spot_of hc2).2).trans hc2
        refine hK.out _ _ ?_ ?_
        · exact HS.out _ (Ext.trans (Ext.trans (Ext.alloc ((Ext.refl X).drew) _) hE1) hE2)
        clear hK K
        (try simp only [Act.put, List.setIfInBounds_toArray, List.set_cons_zero, List.set_cons_succ])
        refine treeRun (by rfl) (fun K hK => ?_)
        rw [if_pos (by rfl)]
        refine wp_conv1 (.tmp 5) rfl _ b rfl hc3 ?_
        refine hK.out _ _ ?_ ?_
        · exact HS.out _ (Ext.trans (Ext.trans (Ext.alloc ((Ext.refl X).drew) _) hE1) hE2)
        clear hK K
        (try simp only [Act.put, List.setIfInBounds_toArray, List.set_cons_zero, List.set_cons_succ])
        repeat ((with_reducible refine treeIs ?_); first
          | (refine treeTake (v := ?_) (by rfl) (by rfl) ?_ ?_; rotate_left; (focus (intro V hV; (try dsimp only at hV); (go_simp <;> with_reducible rfl))); (try simp only [Act.put, List.setIfInBounds_toArray, List.set_cons_zero, List.set_cons_succ]))
          | (refine treeSkip (by rfl) (by rfl) ?_; (try simp only [Act.put, List.setIfInBounds_toArray, List.set_cons_zero, List.set_cons_succ])))
        refine treeDone ?_
        refine NoPanic.normal ?_
        go_wp2_with fail
        go_ret
        refine ⟨?_, hwX.trans (Ext.trans (Ext.trans (Ext.alloc ((Ext.refl X).drew) _) hE1) hE2)⟩
        rw [HK.out]
        first | rfl | simp
  · refine treeRun (by rfl) (fun K hK => ?_)
    go_simp
    refine (H1.out _ (hwX.trans ((Ext.refl X).drew))).mono ?_; rintro e w1 ⟨rfl, hE1⟩
    refine hK.out _ _ ?_ ?_
    · exact HS.out _ (Ext.trans ((Ext.refl X).drew) hE1)
    clear hK K
    (try simp only [Act.put, List.setIfInBounds_toArray, List.set_cons_zero, List.set_cons_succ])
    refine treeRun2 ?_ ?_
    · refine treeRun (by rfl) (fun K hK => ?_)
      go_simp
      have hc2 : (w1.alloc (.cells #[.int .u8 (b.toNat : Int)] 5)).cell? ⟨w1.heap.size, 0, none⟩ = some (.int .u8 (b.toNat : Int)) := World.cell?_alloc_mark w1 _ _ _ 0
      refine hK.out _ _ ?_ ?_
      · exact HS.out _ (Ext.alloc (Ext.trans ((Ext.refl X).drew) hE1) _)
      clear hK K
      (try simp only [Act.put, List.setIfInBounds_toArray, List.set_cons_zero, List.set_cons_succ])
      refine treeRun2 ?_ ?_
      · refine treeRun (by rfl) (fun K hK => ?_)
        rw [if_pos (by rfl)]
        refine wp_conv1 (.tmp 5) rfl _ b rfl hc2 ?_
        refine hK.out _ _ ?_ ?_
        · exact HS.out _ (Ext.alloc (Ext.trans ((Ext.refl X).drew) hE1) _)
        clear hK K
        (try simp only [Act.put, List.setIfInBounds_toArray, List.set_cons_zero, List.set_cons_succ])
        repeat ((with_reducible refine treeIs ?_); first
          | (refine treeTake (v := ?_) (by rfl) (by rfl) ?_ ?_; rotate_left; (focus (intro V hV; (try dsimp only at hV); (go_simp <;> with_reducible rfl))); (try simp only [Act.put, List.setIfInBounds_toArray, List.set_cons_zero, List.set_cons_succ]))
          | (refine treeSkip (by rfl) (by rfl) ?_; (try simp only [Act.put, List.setIfInBounds_toArray, List.set_cons_zero, List.set_cons_succ])))
        refine treeRun (by rfl) (fun K hK => ?_)
        go_simp
        refine (H2.out _ (hwX.trans (Ext.alloc (Ext.trans ((Ext.refl X).drew) hE1) _))).mono ?_; rintro e w2 ⟨rfl, hE2⟩
        have hc3 : w2.cell? ⟨w1.heap.size, 0, none⟩ = some (.int .u8 (b.toNat : Int)) := (hE2.cell (p := ⟨w1.heap.size, 0, none⟩) (spot_of hc2).2).trans hc2
        refine hK.out _ _ ?_ ?_
        · exact HS.out _ (Ext.trans (Ext.alloc (Ext.trans ((Ext.refl X).drew) hE1) _) hE2)
        clear hK K
        (try simp only [Act.put, List.setIfInBounds_toArray, List.set_cons_zero, List.set_cons_succ])
        repeat ((with_reducible refine treeIs ?_); first
          | (refine treeTake (v := ?_) (by rfl) (by rfl) ?_ ?_; rotate_left; (focus (intro V hV; (try dsimp only at hV); (go_simp <;> with_reducible rfl))); (try simp only [Act.put, List.setIfInBounds_toArray, List.set_cons_zero, List.set_cons_succ]))
          | (refine treeSkip (by rfl) (by rfl) ?_; (try simp only [Act.put, List.setIfInBounds_toArray, List.set_cons_zero, List.set_cons_succ])))
        refine treeDone ?_
        refine NoPanic.normal ?_
        go_wp2_with fail
        go_ret
        refine ⟨?_, hwX.trans (Ext.trans (Ext.alloc (Ext.trans ((Ext.refl X).drew) hE1) _) hE2)⟩
        rw [HK.out]
        first | rfl | simp
      · refine treeRun (by rfl) (fun K hK => ?_)
        go_simp
        refine (H2.out _ (hwX.trans (Ext.alloc (Ext.trans ((Ext.refl X).drew) hE1) _))).mono ?_; rintro e w2 ⟨rfl, hE2⟩
        have hc3 : w2.cell? ⟨w1.heap.size, 0, none⟩ = some (.int .u8 (b.toNat : Int)) := (hE2.cell (p := ⟨w1.heap.size, 0, none⟩) (spot_of hc2).2).trans hc2
        refine hK.out _ _ ?_ ?_
        · exact HS.out _ (Ext.trans (Ext.alloc (Ext.trans ((Ext.refl X).drew) hE1) _) hE2)
        clear hK K
        (try simp only [Act.put, List.setIfInBounds_toArray, List.set_cons_zero, List.set_cons_succ])
        refine treeRun (by rfl) (fun K hK => ?_)
        rw [if_pos (by rfl)]
        refine wp_conv1 (.tmp 5) rfl _ b rfl hc3 ?_
        refine hK.out _ _ ?_ ?_
        · exact HS.out _ (Ext.trans (Ext.alloc (Ext.trans ((Ext.refl X).drew) hE1) _) hE2)
        clear hK K
        (try simp only [Act.put, List.setIfInBounds_toArray, List.set_cons_zero, List.set_cons_succ])
        repeat ((with_reducible refine treeIs ?_); first
          | (refine treeTake (v := ?_) (by rfl) (by rfl) ?_ ?_; rotate_left; (focus (intro V hV; (try dsimp only at hV); (go_simp <;> with_reducible rfl))); (try simp only [Act.put, List.setIfInBounds_toArray, List.set_cons_zero, List.set_cons_succ]))
          | (refine treeSkip (by rfl) (by rfl) ?_; (try simp only [Act.put, List.setIfInBounds_toArray, List.set_cons_zero, List.set_cons_succ])))
        refine treeDone ?_
        refine NoPanic.normal ?_
        go_wp2_with fail
        go_ret
        refine ⟨?_, hwX.trans (Ext.trans (Ext.alloc (Ext.trans ((Ext.refl X).drew) hE1) _) hE2)⟩
        rw [HK.out]
        first | rfl | simp
    · refine treeRun (by rfl) (fun K hK => ?_)
      go_simp
      refine (H2.out _ (hwX.trans (Ext.trans ((Ext.refl X).drew) hE1))).mono ?_; rintro e w2 ⟨rfl, hE2⟩
      refine hK.out _ _ ?_ ?_
      · exact HS.out _ (Ext.trans (Ext.trans ((Ext.refl X).drew) hE1) hE2)
      clear hK K
      (try simp only [Act.put, List.setIfInBounds_toArray, List.set_cons_zero, List.set_cons_succ])
      refine treeRun (by rfl) (fun K hK => ?_)
      go_simp
      have hc3 : (w2.alloc (.cells #[.int .u8 (b.toNat : Int)] 5)).cell? ⟨w2.heap.size, 0, none⟩ = some (.int .u8 (b.toNat : Int)) := World.cell?_alloc_mark w2 _ _ _ 0
      refine hK.out _ _ ?_ ?_
      · exact HS.out _ (Ext.alloc (Ext.trans (Ext.trans ((Ext.refl X).drew) hE1) hE2) _)
      clear hK K
      (try simp only [Act.put, List.setIfInBounds_toArray, List.set_cons_zero, List.set_cons_succ])
      refine treeRun (by rfl) (fun K hK => ?_)
      rw [if_pos (by rfl)]
      refine wp_conv1 (.tmp 5) rfl _ b rfl hc3 ?_
      refine hK.out _ _ ?_ ?_
      · exact HS.out _ (Ext.alloc (Ext.trans (Ext.trans ((Ext.refl X).drew) hE1) hE2) _)
      clear hK K
      (try simp only [Act.put, List.setIfInBounds_toArray, List.set_cons_zero, List.set_cons_succ])
      repeat ((with_reducible refine treeIs ?_); first
        | (refine treeTake (v := ?_) (by rfl) (by rfl) ?_ ?_; rotate_left; (focus (intro V hV; (try dsimp only at hV); (go_simp <;> with_reducible rfl))); (try simp only [Act.put, List.setIfInBounds_toArray, List.set_cons_zero, List.set_cons_succ]))
        | (refine treeSkip (by rfl) (by rfl) ?_; (try simp only [Act.put, List.setIfInBounds_toArray, List.set_cons_zero, List.set_cons_succ])))
      refine treeDone ?_
      refine NoPanic.normal ?_
      go_wp2_with fail
      go_ret
      refine ⟨?_, hwX.trans (Ext.alloc (Ext.trans (Ext.trans ((Ext.refl X).drew) hE1) hE2) _)⟩
      rw [HK.out]
      first | rfl | simp
end Go.Proofs.YtbdjoihckienbaaGreatDoor
namespace Go.Proofs.YtbdjoihckienbaaGreatDoor
set_option linter.unusedSimpArgs false
set_option linter.unusedVariables false
open Go.RowKit
set_option maxRecDepth 100000

theorem Sets.shape {w : World} {lo : Nat} {v : Value} {l : List SetD} (h : Sets w lo v l) : ∃ A c, v = .slice A l.length c ∧ l.length ≤ c ∧ c ≤ maxLen := by
  obtain ⟨ps, A, c, h1, h2, h3, h4, _⟩ := h
  have hl : ps.length = l.length := by rw [← h1]; simp
  exact ⟨A, c, by rw [h2, hl], by rw [← hl]; exact h3, h4⟩
structure ArgOk (ss oo : List SetD) : Prop where
  mx : ∀ s ∈ ss ++ oo, s.name.length ≤ maxLen ∧ ∀ d ∈ s.data, d.length ≤ maxLen
  b1 : ss.length ≤ 140737488351232
  b2 : oo.length ≤ 140737488351232
  key : ∀ s ∈ ss ++ oo, SetKeyOk s
theorem endV_in {ty : Int} {ss : List SetD} (h : SetsBd ss) : ((endV ty ss).getD SetD.zero).data.length ≤ 65536 := by
  unfold endV
  rcases hl : ss.getLast? with _ | s
  · simp [SetD.zero]
  · dsimp only
    split
    · exact (h s (List.mem_of_getLast? hl)).2.1
    · simp [SetD.zero]
theorem wide_bd {ss oo : List SetD} (h : wideB (ss ++ oo) = false) : SetsBd ss ∧ (keySs ss).length ≤ 1048576 ∧ (keySs oo).length ≤ 1048576 ∧ 4 + (ss.flatMap keyS1).length + (oo.flatMap keyS1).length ≤ 1073741824 := by
  obtain ⟨h1, h2, h3⟩ := wide_no h
  rw [List.flatMap_append, List.length_append] at h1
  refine ⟨fun s hs => ?_, by rw [keySs_cons, List.length_cons]; omega, by rw [keySs_cons, List.length_cons]; omega, by omega⟩
  have := h3 s (List.mem_append.2 (.inl hs))
  exact ⟨by have := this.nm; omega, by have := this.dn; omega, fun d hd => by have := this.dl d hd; omega⟩

set_option maxHeartbeats 8000000 in
theorem law_verdictTells (c1 : Nat) (c2 : Int) (v1 u1 v2 u2 : Value) (s1 o1 s2 o2 : List SetD) (n : List UInt8) (ty cls : Int) (w : World) (hg : Laid w) (h1 : Sets w 0 v1 s1) (g1 : Sets w 0 u1 o1) (h2 : Sets w 0 v2 s2) (g2 : Sets w 0 u2 o2)
    (ha1 : ArgOk s1 o1) (ha2 : ArgOk s2 o2) (hc1 : c1 ≤ 255) :
    Calls Tryz.prog 8 #[.agg #[.int .u8 (c1 : Int), v1, u1], .agg #[.int .u8 c2, v2, u2], .agg #[S n, .int .u16 ty, .int .u16 cls]] w fun e w' => e = .returned (.bool true) ∧ Ext w w' := by
  have HW1 := Lib.hid (fun V (hV : Ext w V) => law11_wide 0 c1 v1 u1 s1 o1 V (h1.ext hV) (g1.ext hV) ha1.mx ha1.b1 ha1.b2)
  have HW2 := Lib.hid (fun V (hV : Ext w V) => law11_wide 0 c2 v2 u2 s2 o2 V (h2.ext hV) (g2.ext hV) ha2.mx ha2.b1 ha2.b2)
  have HA := Lib.hid (fun W (hW : Ext w W) => law11_awake W (hg.ext hW))
  obtain ⟨vA1, vc1, rfl, _, _⟩ := h1.shape
  obtain ⟨oA1, oc1, rfl, _, _⟩ := g1.shape
  obtain ⟨vA2, vc2, rfl, _, _⟩ := h2.shape
  obtain ⟨oA2, oc2, rfl, _, _⟩ := g2.shape
  rcases hb1 : wideB (s1 ++ o1) with _ | _
  rotate_left
  · rw [hb1] at HW1
    clear hb1
    obtain ⟨X, hX⟩ : ∃ X, X = (((w.alloc (.cells #[.int .u8 (c1 : Int), .slice vA1 s1.length vc1, .slice oA1 o1.length oc1] 38)).alloc (.cells #[.int .u8 c2, .slice vA2 s2.length vc2, .slice oA2 o2.length oc2] 38)).alloc (.cells #[S n, .int .u16 ty, .int .u16 cls] 24)) := ⟨_, rfl⟩
    obtain ⟨ka, _, za⟩ := ext_new_at (w.heap.size) rfl (((Ext.refl (w.alloc (.cells #[.int .u8 (c1 : Int), .slice vA1 s1.length vc1, .slice oA1 o1.length oc1] 38))).alloc (.cells #[.int .u8 c2, .slice vA2 s2.length vc2, .slice oA2 o2.length oc2] 38)).alloc (.cells #[S n, .int .u16 ty, .int .u16 cls] 24))
    obtain ⟨kb, _, zb⟩ := ext_new_at (w.heap.size + 1) (by simp) ((Ext.refl ((w.alloc (.cells #[.int .u8 (c1 : Int), .slice vA1 s1.length vc1, .slice oA1 o1.length oc1] 38)).alloc (.cells #[.int .u8 c2, .slice vA2 s2.length vc2, .slice oA2 o2.length oc2] 38))).alloc (.cells #[S n, .int .u16 ty, .int .u16 cls] 24))
    obtain ⟨kq, _, zq⟩ := ext_new_at (w.heap.size + 1 + 1) (by simp) (Ext.refl (((w.alloc (.cells #[.int .u8 (c1 : Int), .slice vA1 s1.length vc1, .slice oA1 o1.length oc1] 38)).alloc (.cells #[.int .u8 c2, .slice vA2 s2.length vc2, .slice oA2 o2.length oc2] 38)).alloc (.cells #[S n, .int .u16 ty, .int .u16 cls] 24)))
    rw [← hX] at ka za kb zb kq zq
    have hwX : Ext w X := by rw [hX]; exact (((Ext.refl _).alloc _).alloc _).alloc _
    have HK := Lib.hid (show ∀ V, Ext X V → (∀ j, V.cell? ⟨w.heap.size, j, none⟩ = #[.int .u8 (c1 : Int), .slice vA1 s1.length vc1, .slice oA1 o1.length oc1][j]?) ∧ (∀ j, V.cell? ⟨w.heap.size + 1, j, none⟩ = #[.int .u8 c2, .slice vA2 s2.length vc2, .slice oA2 o2.length oc2][j]?) ∧ (∀ j, V.cell? ⟨w.heap.size + 1 + 1, j, none⟩ = #[S n, .int .u16 ty, .int .u16 cls][j]?) from fun V hV => ⟨fun j => (hV.cell (p := ⟨w.heap.size, j, none⟩) za).trans (ka j), fun j => (hV.cell (p := ⟨w.heap.size + 1, j, none⟩) zb).trans (kb j), fun j => (hV.cell (p := ⟨w.heap.size + 1 + 1, j, none⟩) zq).trans (kq j)⟩)
    have HC0 := Lib.hid (show ∀ V, Ext X V → V.cell? ⟨w.heap.size, 0, none⟩ = some (.int .u8 (c1 : Int)) ∧ V.cell? ⟨w.heap.size, 1, none⟩ = some (.slice vA1 s1.length vc1) ∧ V.cell? ⟨w.heap.size, 2, none⟩ = some (.slice oA1 o1.length oc1) ∧ V.cell? ⟨w.heap.size + 1, 0, none⟩ = some (.int .u8 c2) ∧ V.cell? ⟨w.heap.size + 1, 1, none⟩ = some (.slice vA2 s2.length vc2) ∧ V.cell? ⟨w.heap.size + 1, 2, none⟩ = some (.slice oA2 o2.length oc2) from fun V hV => ⟨(hV.cell (p := ⟨w.heap.size, 0, none⟩) za).trans (ka 0), (hV.cell (p := ⟨w.heap.size, 1, none⟩) za).trans (ka 1), (hV.cell (p := ⟨w.heap.size, 2, none⟩) za).trans (ka 2), (hV.cell (p := ⟨w.heap.size + 1, 0, none⟩) zb).trans (kb 0), (hV.cell (p := ⟨w.heap.size + 1, 1, none⟩) zb).trans (kb 1), (hV.cell (p := ⟨w.heap.size + 1, 2, none⟩) zb).trans (kb 2)⟩)
    clear ka kb kq
    obtain ⟨k1, k2, k3⟩ := HK.out X (Ext.refl _)
    go_enter Tryz.func8, Tryz.ntmps8
    go_upto_region 1 with fail
    rw [← hX]
    clear hX
    go_wp2_with fail
    refine (HW1.out _ hwX).mono ?_; rintro e w1 ⟨rfl, hE1⟩
    go_wp2_with fail
    refine (HA.out _ (hwX.trans hE1)).mono ?_; rintro e w2 ⟨rfl, hE2⟩
    go_wp2_with fail
    go_ret
    exact ⟨rfl, (hwX.trans hE1).trans hE2⟩
  rcases hb2 : wideB (s2 ++ o2) with _ | _
  rotate_left
  · rw [hb1] at HW1
    rw [hb2] at HW2
    clear hb1 hb2
    obtain ⟨X, hX⟩ : ∃ X, X = (((w.alloc (.cells #[.int .u8 (c1 : Int), .slice vA1 s1.length vc1, .slice oA1 o1.length oc1] 38)).alloc (.cells #[.int .u8 c2, .slice vA2 s2.length vc2, .slice oA2 o2.length oc2] 38)).alloc (.cells #[S n, .int .u16 ty, .int .u16 cls] 24)) := ⟨_, rfl⟩
    obtain ⟨ka, _, za⟩ := ext_new_at (w.heap.size) rfl (((Ext.refl (w.alloc (.cells #[.int .u8 (c1 : Int), .slice vA1 s1.length vc1, .slice oA1 o1.length oc1] 38))).alloc (.cells #[.int .u8 c2, .slice vA2 s2.length vc2, .slice oA2 o2.length oc2] 38)).alloc (.cells #[S n, .int .u16 ty, .int .u16 cls] 24))
    obtain ⟨kb, _, zb⟩ := ext_new_at (w.heap.size + 1) (by simp) ((Ext.refl ((w.alloc (.cells #[.int .u8 (c1 : Int), .slice vA1 s1.length vc1, .slice oA1 o1.length oc1] 38)).alloc (.cells #[.int .u8 c2, .slice vA2 s2.length vc2, .slice oA2 o2.length oc2] 38))).alloc (.cells #[S n, .int .u16 ty, .int .u16 cls] 24))
    obtain ⟨kq, _, zq⟩ := ext_new_at (w.heap.size + 1 + 1) (by simp) (Ext.refl (((w.alloc (.cells #[.int .u8 (c1 : Int), .slice vA1 s1.length vc1, .slice oA1 o1.length oc1] 38)).alloc (.cells #[.int .u8 c2, .slice vA2 s2.length vc2, .slice oA2 o2.length oc2] 38)).alloc (.cells #[S n, .int .u16 ty, .int .u16 cls] 24)))
    rw [← hX] at ka za kb zb kq zq
    have hwX : Ext w X := by rw [hX]; exact (((Ext.refl _).alloc _).alloc _).alloc _
    have HK := Lib.hid (show ∀ V, Ext X V → (∀ j, V.cell? ⟨w.heap.size, j, none⟩ = #[.int .u8 (c1 : Int), .slice vA1 s1.length vc1, .slice oA1 o1.length oc1][j]?) ∧ (∀ j, V.cell? ⟨w.heap.size + 1, j, none⟩ = #[.int .u8 c2, .slice vA2 s2.length vc2, .slice oA2 o2.length oc2][j]?) ∧ (∀ j, V.cell? ⟨w.heap.size + 1 + 1, j, none⟩ = #[S n, .int .u16 ty, .int .u16 cls][j]?) from fun V hV => ⟨fun j => (hV.cell (p := ⟨w.heap.size, j, none⟩) za).trans (ka j), fun j => (hV.cell (p := ⟨w.heap.size + 1, j, none⟩) zb).trans (kb j), fun j => (hV.cell (p := ⟨w.heap.size + 1 + 1, j, none⟩) zq).trans (kq j)⟩)
    have HC0 := Lib.hid (show ∀ V, Ext X V → V.cell? ⟨w.heap.size, 0, none⟩ = some (.int .u8 (c1 : Int)) ∧ V.cell? ⟨w.heap.size, 1, none⟩ = some (.slice vA1 s1.length vc1) ∧ V.cell? ⟨w.heap.size, 2, none⟩ = some (.slice oA1 o1.length oc1) ∧ V.cell? ⟨w.heap.size + 1, 0, none⟩ = some (.int .u8 c2) ∧ V.cell? ⟨w.heap.size + 1, 1, none⟩ = some (.slice vA2 s2.length vc2) ∧ V.cell? ⟨w.heap.size + 1, 2, none⟩ = some (.slice oA2 o2.length oc2) from fun V hV => ⟨(hV.cell (p := ⟨w.heap.size, 0, none⟩) za).trans (ka 0), (hV.cell (p := ⟨w.heap.size, 1, none⟩) za).trans (ka 1), (hV.cell (p := ⟨w.heap.size, 2, none⟩) za).trans (ka 2), (hV.cell (p := ⟨w.heap.size + 1, 0, none⟩) zb).trans (kb 0), (hV.cell (p := ⟨w.heap.size + 1, 1, none⟩) zb).trans (kb 1), (hV.cell (p := ⟨w.heap.size + 1, 2, none⟩) zb).trans (kb 2)⟩)
    clear ka kb kq
    obtain ⟨k1, k2, k3⟩ := HK.out X (Ext.refl _)
    go_enter Tryz.func8, Tryz.ntmps8
    go_upto_region 1 with fail
    rw [← hX]
    clear hX
    go_wp2_with fail
    refine (HW1.out _ hwX).mono ?_; rintro e w1 ⟨rfl, hE1⟩
    obtain ⟨d1, d2, d3⟩ := HK.out w1 hE1
    clear k1 k2 k3
    go_wp2_with fail
    refine (HW2.out _ (hwX.trans hE1)).mono ?_; rintro e w2 ⟨rfl, hE2⟩
    go_wp2_with fail
    refine (HA.out _ ((hwX.trans hE1).trans hE2)).mono ?_; rintro e w3 ⟨rfl, hE3⟩
    go_wp2_with fail
    go_ret
    exact ⟨rfl, ((hwX.trans hE1).trans hE2).trans hE3⟩
  obtain ⟨bd1, kl1, ko1, kk1⟩ := wide_bd hb1
  rw [hb1] at HW1
  rw [hb2] at HW2
  have HRE := Lib.hid (fun V (hV : Ext w V) => ref11_end n ty cls c1 0 _ s1 oA1 o1.length oc1 V (h1.ext hV) bd1)
  have HVE := Lib.hid (fun V (hV : Ext w V) => ver_end n ty cls c1 0 _ s1 oA1 o1.length oc1 V (h1.ext hV) bd1)
  have HRK := Lib.hid (fun V (hV : Ext w V) => ref11_key 0 c1 _ _ s1 o1 V (h1.ext hV) (g1.ext hV) (fun s hs => have h := ha1.key s (List.mem_append.2 (.inl hs)); ⟨h.1.1, h.1.2, h.2.1, h.2.2⟩) (fun s hs => have h := ha1.key s (List.mem_append.2 (.inr hs)); ⟨h.1.1, h.1.2, h.2.1, h.2.2⟩) hc1 kl1 ko1)
  have HVK := Lib.hid (fun V (hV : Ext w V) => ver_key 0 c1 _ _ s1 o1 V (h1.ext hV) (g1.ext hV) (fun s hs => ha1.key s (List.mem_append.2 (.inl hs))) (fun s hs => ha1.key s (List.mem_append.2 (.inr hs))) ⟨by omega, by omega⟩ kk1)
  have hdl := endV_in (ty := ty) bd1
  clear hb1 hb2 kl1 ko1 kk1 bd1 hc1
  generalize (endV ty s1) = r0 at *
  obtain ⟨s0, hs0⟩ : ∃ s0, s0 = r0.getD SetD.zero := ⟨_, rfl⟩
  unfold REndPost at HRE
  unfold FindPost at HVE
  rw [← hs0] at HRE HVE hdl
  generalize r0.isSome = b0 at *
  generalize keyV3 (c1 : Int) s1 o1 = K at *
  clear hs0
  obtain ⟨X, hX⟩ : ∃ X, X = (((w.alloc (.cells #[.int .u8 (c1 : Int), .slice vA1 s1.length vc1, .slice oA1 o1.length oc1] 38)).alloc (.cells #[.int .u8 c2, .slice vA2 s2.length vc2, .slice oA2 o2.length oc2] 38)).alloc (.cells #[S n, .int .u16 ty, .int .u16 cls] 24)) := ⟨_, rfl⟩
  obtain ⟨ka, _, za⟩ := ext_new_at (w.heap.size) rfl (((Ext.refl (w.alloc (.cells #[.int .u8 (c1 : Int), .slice vA1 s1.length vc1, .slice oA1 o1.length oc1] 38))).alloc (.cells #[.int .u8 c2, .slice vA2 s2.length vc2, .slice oA2 o2.length oc2] 38)).alloc (.cells #[S n, .int .u16 ty, .int .u16 cls] 24))
  obtain ⟨kb, _, zb⟩ := ext_new_at (w.heap.size + 1) (by simp) ((Ext.refl ((w.alloc (.cells #[.int .u8 (c1 : Int), .slice vA1 s1.length vc1, .slice oA1 o1.length oc1] 38)).alloc (.cells #[.int .u8 c2, .slice vA2 s2.length vc2, .slice oA2 o2.length oc2] 38))).alloc (.cells #[S n, .int .u16 ty, .int .u16 cls] 24))
  obtain ⟨kq, _, zq⟩ := ext_new_at (w.heap.size + 1 + 1) (by simp) (Ext.refl (((w.alloc (.cells #[.int .u8 (c1 : Int), .slice vA1 s1.length vc1, .slice oA1 o1.length oc1] 38)).alloc (.cells #[.int .u8 c2, .slice vA2 s2.length vc2, .slice oA2 o2.length oc2] 38)).alloc (.cells #[S n, .int .u16 ty, .int .u16 cls] 24)))
  rw [← hX] at ka za kb zb kq zq
  have hwX : Ext w X := by rw [hX]; exact (((Ext.refl _).alloc _).alloc _).alloc _
  have HK := Lib.hid (show ∀ V, Ext X V → (∀ j, V.cell? ⟨w.heap.size, j, none⟩ = #[.int .u8 (c1 : Int), .slice vA1 s1.length vc1, .slice oA1 o1.length oc1][j]?) ∧ (∀ j, V.cell? ⟨w.heap.size + 1, j, none⟩ = #[.int .u8 c2, .slice vA2 s2.length vc2, .slice oA2 o2.length oc2][j]?) ∧ (∀ j, V.cell? ⟨w.heap.size + 1 + 1, j, none⟩ = #[S n, .int .u16 ty, .int .u16 cls][j]?) from fun V hV => ⟨fun j => (hV.cell (p := ⟨w.heap.size, j, none⟩) za).trans (ka j), fun j => (hV.cell (p := ⟨w.heap.size + 1, j, none⟩) zb).trans (kb j), fun j => (hV.cell (p := ⟨w.heap.size + 1 + 1, j, none⟩) zq).trans (kq j)⟩)
  have HC0 := Lib.hid (show ∀ V, Ext X V → V.cell? ⟨w.heap.size, 0, none⟩ = some (.int .u8 (c1 : Int)) ∧ V.cell? ⟨w.heap.size, 1, none⟩ = some (.slice vA1 s1.length vc1) ∧ V.cell? ⟨w.heap.size, 2, none⟩ = some (.slice oA1 o1.length oc1) ∧ V.cell? ⟨w.heap.size + 1, 0, none⟩ = some (.int .u8 c2) ∧ V.cell? ⟨w.heap.size + 1, 1, none⟩ = some (.slice vA2 s2.length vc2) ∧ V.cell? ⟨w.heap.size + 1, 2, none⟩ = some (.slice oA2 o2.length oc2) from fun V hV => ⟨(hV.cell (p := ⟨w.heap.size, 0, none⟩) za).trans (ka 0), (hV.cell (p := ⟨w.heap.size, 1, none⟩) za).trans (ka 1), (hV.cell (p := ⟨w.heap.size, 2, none⟩) za).trans (ka 2), (hV.cell (p := ⟨w.heap.size + 1, 0, none⟩) zb).trans (kb 0), (hV.cell (p := ⟨w.heap.size + 1, 1, none⟩) zb).trans (kb 1), (hV.cell (p := ⟨w.heap.size + 1, 2, none⟩) zb).trans (kb 2)⟩)
  clear ka kb kq
  obtain ⟨k1, k2, k3⟩ := HK.out X (Ext.refl _)
  go_enter Tryz.func8, Tryz.ntmps8
  go_upto_region 1 with fail
  rw [← hX]
  clear hX
  go_wp2_with fail
  refine (HW1.out _ hwX).mono ?_; rintro e w1 ⟨rfl, hE1⟩
  obtain ⟨d1, d2, d3⟩ := HK.out w1 hE1
  clear k1 k2 k3
  go_wp2_with fail
  refine (HW2.out _ (hwX.trans hE1)).mono ?_; rintro e w2 ⟨rfl, hE2⟩
  have hX2 := hE1.trans hE2
  obtain ⟨k1, k2, k3⟩ := HK.out w2 hX2
  clear d1 d2 d3
  go_wp2_with fail
  refine (HRE.out _ (hwX.trans hX2)).mono ?_; rintro e w3 ⟨dv0, rfl, hd0, hE3⟩
  obtain ⟨dA0, dc0, rfl⟩ := hd0.shape
  have hX3 := hX2.trans hE3
  have hX3' : Ext X (w3.alloc (.cells #[S s0.name, .int .u16 s0.typ, .int .u16 s0.cls, .int .u32 s0.ttl, .slice dA0 s0.data.length dc0] 55)) := hX3.alloc _
  obtain ⟨d1, d2, d3⟩ := HK.out _ hX3'
  clear k1 k2 k3
  go_wp2_with fail
  refine (HRK.out _ (hwX.trans hX3')).mono ?_; rintro e w4 ⟨rfl, hE4⟩
  obtain ⟨ks, _, zs⟩ := ext_new hE4
  have hX4 := hX3'.trans hE4
  have hw4 := hwX.trans hX4
  have HT := Lib.hid (show ∀ V, Ext w4 V → ∀ j, V.cell? ⟨w3.heap.size, j, none⟩ = #[S s0.name, .int .u16 s0.typ, .int .u16 s0.cls, .int .u32 s0.ttl, .slice dA0 s0.data.length dc0][j]? from fun V hV j => (hV.cell (p := ⟨w3.heap.size, j, none⟩) zs).trans (ks j))
  have Hd0 := Lib.hid (show ∀ V, Ext w4 V → Strs V 0 (.slice dA0 s0.data.length dc0) s0.data from fun V hV => hd0.ext ((((Ext.refl _).alloc _).trans hE4).trans hV))
  clear d1 d2 d3 ks hd0
  go_wp2_with fail
  go_loopw [10] (fun i wr => ∃ k : Nat, k ≤ 2 ∧ i = .int .i64 k ∧ Ext w4 wr) (fun i _ => 2 - (intOf i).toNat)
  case atStart => exact ⟨0, by omega, rfl, Ext.refl _⟩
  case round =>
    obtain ⟨k, hk, rfl, hEx⟩ := hrel
    obtain ⟨wo, rfl⟩ : ∃ wo : World, wo = wr := ⟨_, rfl⟩
    have hXo := hX4.trans hEx
    obtain ⟨k1, k2, k3⟩ := HK.out _ hXo
    have hwo := hwX.trans hXo
    by_cases hlt : k < 2
    · have hki : (k : Int) < 2 := by omega
      go_wp2_with fail
      refine (HVE.out _ hwo).mono ?_; rintro e w5 ⟨dv1, rfl, ⟨dA1, dc1, rfl, hod1⟩, hE5⟩
      have hE5' : Ext wo (w5.alloc (.cells #[S s0.name, .int .u16 s0.typ, .int .u16 s0.cls, .int .u32 s0.ttl, .slice dA1 s0.data.length dc1] 55)) := hE5.alloc _
      have t0 := HT.out _ (hEx.trans hE5')
      have HSm := Lib.hid (fun V (hV : Ext (w5.alloc (.cells #[S s0.name, .int .u16 s0.typ, .int .u16 s0.cls, .int .u32 s0.ttl, .slice dA1 s0.data.length dc1] 55)) V) => ref_sameSet s0 s0 _ _ 0 0 V ((((show OStrs w5 wo.heap.size (.slice dA1 s0.data.length dc1) s0.data from ⟨dA1, dc1, rfl, hod1⟩).strs.lower (Nat.zero_le _)).ext ((Ext.refl _).alloc (.cells #[S s0.name, .int .u16 s0.typ, .int .u16 s0.cls, .int .u32 s0.ttl, .slice dA1 s0.data.length dc1] 55))).ext hV) (Hd0.out _ ((hEx.trans hE5').trans hV)))
      rw [decide_eq_true rfl] at HSm
      clear k1 k2 k3
      go_wp2_with fail
      refine (HSm.out _ (Ext.refl _)).mono ?_; rintro e w6 ⟨rfl, hE6⟩
      obtain ⟨m1, _, zm⟩ := ext_new hE6
      clear t0
      go_wp2_with fail
      have hE56 : Ext w5 w6 := ((Ext.refl _).alloc _).trans hE6
      have hEo6 : Ext wo w6 := hE5.trans hE56
      have hos : OSets (w6.alloc (.cells #[S s0.name, .int .u16 s0.typ, .int .u16 s0.cls, .int .u32 s0.ttl, .slice dA1 s0.data.length dc1] 55)) wo.heap.size (.slice (some ⟨w6.heap.size, 0, none⟩) 1 1) [s0] := by
        refine osets_mk (ps := [(s0, .slice dA1 s0.data.length dc1)]) rfl rfl ?_ (fun p hp => ?_)
        · exact own_lit w6 w6.heap.size wo.heap.size rfl hEo6.size 55 (setCells (s0, .slice dA1 s0.data.length dc1)) 1 5 rfl (by unfold maxLen; omega)
        · rw [List.mem_singleton] at hp
          subst hp
          exact (show OStrs w5 wo.heap.size (.slice dA1 s0.data.length dc1) s0.data from ⟨dA1, dc1, rfl, hod1⟩).ext (hE56.alloc _)
      refine (law11_spoil wo.heap.size 0 _ (.slice none 0 0) [s0] [] (w6.alloc (.cells #[S s0.name, .int .u16 s0.typ, .int .u16 s0.cls, .int .u32 s0.ttl, .slice dA1 s0.data.length dc1] 55)) _ hos (OSets.nil _ _) (.inl rfl) (Ext.refl _)).mono ?_; rintro e w7 ⟨rfl, hB7⟩
      have hE7 : Ext wo w7 := Betw.ext (hEo6.alloc _) hB7 (Nat.le_refl _)
      clear m1 hos hB7
      go_wp2_with fail
      go_roundw
      case rel => exact ⟨k + 1, by omega, by go_num, hEx.trans hE7⟩
      case measure => simp [intOf]; omega
    · have hki : ¬ (k : Int) < 2 := by omega
      obtain ⟨Y, rfl⟩ : ∃ Y : World, Y = wo := ⟨_, rfl⟩
      have hwY := hwo
      have HC := Lib.hid (show ∀ V, Ext Y V → V.cell? ⟨w.heap.size, 0, none⟩ = some (.int .u8 (c1 : Int)) ∧ V.cell? ⟨w.heap.size, 1, none⟩ = some (.slice vA1 s1.length vc1) ∧ V.cell? ⟨w.heap.size, 2, none⟩ = some (.slice oA1 o1.length oc1) ∧ V.cell? ⟨w.heap.size + 1, 0, none⟩ = some (.int .u8 c2) ∧ V.cell? ⟨w.heap.size + 1, 1, none⟩ = some (.slice vA2 s2.length vc2) ∧ V.cell? ⟨w.heap.size + 1, 2, none⟩ = some (.slice oA2 o2.length oc2) from fun V hV => HC0.out V (hXo.trans hV))
      have HS1 := Lib.hid (fun V (hV : Ext Y V) => ver_same 0 0 c1 c2 _ _ _ _ s1 o1 s2 o2 V (h1.ext (hwY.trans hV)) (g1.ext (hwY.trans hV)) (h2.ext (hwY.trans hV)) (g2.ext (hwY.trans hV)))
      have HR1 := Lib.hid (fun V (hV : Ext Y V) => ref11_same 0 0 c1 c2 _ _ _ _ s1 o1 s2 o2 V (h1.ext (hwY.trans hV)) (g1.ext (hwY.trans hV)) (h2.ext (hwY.trans hV)) (g2.ext (hwY.trans hV)))
      have HS2 := Lib.hid (fun V (hV : Ext Y V) => ver_same 0 0 c1 c1 _ _ _ _ s1 o1 s1 o1 V (h1.ext (hwY.trans hV)) (g1.ext (hwY.trans hV)) (h1.ext (hwY.trans hV)) (g1.ext (hwY.trans hV)))
      rw [show verSame (c1 : Int) s1 o1 c1 s1 o1 = true by unfold verSame; simp] at HS2
      have HKy := Lib.hid (fun V (hV : Ext Y V) => HVK.out V (hwY.trans hV))
      generalize verSame (c1 : Int) s1 o1 c2 s2 o2 = B at *
      clear k1 k2 k3
      go_wp2_with fail
      refine wp_region_noPanic ?_
      refine wp_region_tree (S := (fun V => V.cell? ⟨w.heap.size, 0, none⟩ = some (.int .u8 (c1 : Int)) ∧ V.cell? ⟨w.heap.size, 1, none⟩ = some (.slice vA1 s1.length vc1) ∧ V.cell? ⟨w.heap.size, 2, none⟩ = some (.slice oA1 o1.length oc1) ∧ V.cell? ⟨w.heap.size + 1, 0, none⟩ = some (.int .u8 c2) ∧ V.cell? ⟨w.heap.size + 1, 1, none⟩ = some (.slice vA2 s2.length vc2) ∧ V.cell? ⟨w.heap.size + 1, 2, none⟩ = some (.slice oA2 o2.length oc2))) (.take 0 (.take 1 (.take 3 (.take 4 (.run 2 (.run 5 (.take 6 (.take 7 (.take 8 (.take 9 (.run 10 (.take 11 (.take 12 (.take 13 (.take 15 (.run 14 (.take 16 (.take 17 (.take 18 (.run 19 (.take 20 (.take 21 (.done))))))))))))))))))))))) (by kernel_rfl) (by kernel_rfl) (fun _ _ _ _ _ h => h) (HC.out _ ((Ext.refl Y).drew)) ?_
      repeat ((with_reducible refine treeIs ?_); first
        | (refine treeTake (v := ?_) (by rfl) (by rfl) ?_ ?_; rotate_left; (focus (intro V hV; (try dsimp only at hV); (go_simp <;> with_reducible rfl))); (try simp only [Act.put, List.setIfInBounds_toArray, List.set_cons_zero, List.set_cons_succ]))
        | (refine treeSkip (by rfl) (by rfl) ?_; (try simp only [Act.put, List.setIfInBounds_toArray, List.set_cons_zero, List.set_cons_succ])))
      refine treeRun (by rfl) (fun K hK => ?_)
      go_simp
      refine (HS1.out _ ((Ext.refl Y).drew)).mono ?_; rintro e y0 ⟨rfl, hF0⟩
      refine hK.out _ _ ?_ ?_
      · exact HC.out _ (Ext.trans ((Ext.refl Y).drew) hF0)
      clear hK K
      (try simp only [Act.put, List.setIfInBounds_toArray, List.set_cons_zero, List.set_cons_succ])
      refine treeRun (by rfl) (fun K hK => ?_)
      go_simp
      refine (HR1.out _ (Ext.trans ((Ext.refl Y).drew) hF0)).mono ?_; rintro e y1 ⟨rfl, hF1⟩
      refine hK.out _ _ ?_ ?_
      · exact HC.out _ (Ext.trans (Ext.trans ((Ext.refl Y).drew) hF0) hF1)
      clear hK K
      (try simp only [Act.put, List.setIfInBounds_toArray, List.set_cons_zero, List.set_cons_succ])
      repeat ((with_reducible refine treeIs ?_); first
        | (refine treeTake (v := ?_) (by rfl) (by rfl) ?_ ?_; rotate_left; (focus (intro V hV; (try dsimp only at hV); (go_simp <;> with_reducible rfl))); (try simp only [Act.put, List.setIfInBounds_toArray, List.set_cons_zero, List.set_cons_succ]))
        | (refine treeSkip (by rfl) (by rfl) ?_; (try simp only [Act.put, List.setIfInBounds_toArray, List.set_cons_zero, List.set_cons_succ])))
      refine treeRun (by rfl) (fun K hK => ?_)
      go_simp
      refine (HS2.out _ (Ext.trans (Ext.trans ((Ext.refl Y).drew) hF0) hF1)).mono ?_; rintro e y2 ⟨rfl, hF2⟩
      refine hK.out _ _ ?_ ?_
      · exact HC.out _ (Ext.trans (Ext.trans (Ext.trans ((Ext.refl Y).drew) hF0) hF1) hF2)
      clear hK K
      (try simp only [Act.put, List.setIfInBounds_toArray, List.set_cons_zero, List.set_cons_succ])
      repeat ((with_reducible refine treeIs ?_); first
        | (refine treeTake (v := ?_) (by rfl) (by rfl) ?_ ?_; rotate_left; (focus (intro V hV; (try dsimp only at hV); (go_simp <;> with_reducible rfl))); (try simp only [Act.put, List.setIfInBounds_toArray, List.set_cons_zero, List.set_cons_succ]))
        | (refine treeSkip (by rfl) (by rfl) ?_; (try simp only [Act.put, List.setIfInBounds_toArray, List.set_cons_zero, List.set_cons_succ])))
      refine treeRun (by rfl) (fun K hK => ?_)
      go_simp
      refine (HKy.out _ (Ext.trans (Ext.trans (Ext.trans ((Ext.refl Y).drew) hF0) hF1) hF2)).mono ?_; rintro e y3 ⟨rfl, hF3⟩
      refine hK.out _ _ ?_ ?_
      · exact HC.out _ (Ext.trans (Ext.trans (Ext.trans (Ext.trans ((Ext.refl Y).drew) hF0) hF1) hF2) hF3)
      clear hK K
      (try simp only [Act.put, List.setIfInBounds_toArray, List.set_cons_zero, List.set_cons_succ])
      repeat ((with_reducible refine treeIs ?_); first
        | (refine treeTake (v := ?_) (by rfl) (by rfl) ?_ ?_; rotate_left; (focus (intro V hV; (try dsimp only at hV); (go_simp <;> with_reducible rfl))); (try simp only [Act.put, List.setIfInBounds_toArray, List.set_cons_zero, List.set_cons_succ]))
        | (refine treeSkip (by rfl) (by rfl) ?_; (try simp only [Act.put, List.setIfInBounds_toArray, List.set_cons_zero, List.set_cons_succ])))
      refine treeRun (by rfl) (fun K hK => ?_)
      go_simp
      refine (HA.out _ (hwY.trans (Ext.trans (Ext.trans (Ext.trans (Ext.trans ((Ext.refl Y).drew) hF0) hF1) hF2) hF3))).mono ?_; rintro e y4 ⟨rfl, hF4⟩
      refine hK.out _ _ ?_ ?_
      · exact HC.out _ (Ext.trans (Ext.trans (Ext.trans (Ext.trans (Ext.trans ((Ext.refl Y).drew) hF0) hF1) hF2) hF3) hF4)
      clear hK K
      (try simp only [Act.put, List.setIfInBounds_toArray, List.set_cons_zero, List.set_cons_succ])
      repeat ((with_reducible refine treeIs ?_); first
        | (refine treeTake (v := ?_) (by rfl) (by rfl) ?_ ?_; rotate_left; (focus (intro V hV; (try dsimp only at hV); (go_simp <;> with_reducible rfl))); (try simp only [Act.put, List.setIfInBounds_toArray, List.set_cons_zero, List.set_cons_succ]))
        | (refine treeSkip (by rfl) (by rfl) ?_; (try simp only [Act.put, List.setIfInBounds_toArray, List.set_cons_zero, List.set_cons_succ])))
      refine treeDone ?_
      refine NoPanic.normal ?_
      go_wp2_with fail
      go_ret
      exact ⟨rfl, hwY.trans (Ext.trans (Ext.trans (Ext.trans (Ext.trans (Ext.trans ((Ext.refl Y).drew) hF0) hF1) hF2) hF3) hF4)⟩
end Go.Proofs.YtbdjoihckienbaaGreatDoor
namespace Go.Proofs.YtbdjoihckienbaaGreatDoor
set_option linter.unusedSimpArgs false
set_option linter.unusedVariables false
open Go.ChangeShapes Go.WideShapes Go.RowKit Go.Deep Go.Joins
set_option maxRecDepth 100000

theorem bytes_set : Tryz.prog.bytesOf 55 = 48 := by kernel_rfl
theorem weights_row {H : Type} {d : DataW H} {elems sp : List (DataW H)} (h : d = .slice elems sp) : (elems.length + sp.length) * 48 ∈ d.weights Tryz.prog 36 := by
  subst h
  simp only [DataW.weights, Tryz.underlying36, bytes_set, List.mem_cons, true_or]
theorem sets_trod {H : Type} {enc : TypeId × Value → H} {W : World} {fuel : Nat} {v : Value} {y : DataW H × List MemPlace}
    (hf : DataW.trod enc Tryz.prog W 0 (fun _ => true) true fuel 36 [v] = some y) :
    ∃ l : List SetD, Sets W 0 v l ∧ (∀ s ∈ l, SetIn s ∧ s.name.length ∈ y.1.weights Tryz.prog 36 ∧ ∀ x ∈ s.data, x.length ∈ y.1.weights Tryz.prog 36) ∧ (l.length = 0 ∨ ∃ m, m ∈ y.1.weights Tryz.prog 36 ∧ l.length ≤ m) := by
  rcases open_slice_fields Tryz.underlying36 Tryz.underlying55 (by kernel_rfl) (by kernel_rfl) hf with ⟨e, _⟩ | ⟨a, len, cap, m, D, Pl, e, _, hl, hm, hmm, hdp, hi⟩
  · simp only [List.cons.injEq, and_true] at e
    rw [e]
    exact ⟨[], ⟨[], none, 0, rfl, rfl, Nat.le_refl _, by unfold maxLen; omega, Rd.nil _ _ _ _, by simp⟩, by simp, .inl rfl⟩
  · simp only [List.cons.injEq, and_true] at e
    rw [e]
    have hmc : len ≤ m := by rw [hmm]; split <;> omega
    have hdd := (Prod.mk.inj hdp).1
    obtain ⟨l, hll, hq⟩ := pick ((SetD.zero, .slice none 0 0) : SetD × Value) len (fun i r => (W.cell? (a.add (i * 5 + 0)) = some (S r.1.name) ∧ W.cell? (a.add (i * 5 + 1)) = some (.int .u16 r.1.typ) ∧ W.cell? (a.add (i * 5 + 2)) = some (.int .u16 r.1.cls) ∧ W.cell? (a.add (i * 5 + 3)) = some (.int .u32 r.1.ttl) ∧ W.cell? (a.add (i * 5 + 4)) = some r.2) ∧ Strs W 0 r.2 r.1.data ∧ SetIn r.1 ∧ r.1.name.length ∈ y.1.weights Tryz.prog 36 ∧ ∀ x ∈ r.1.data, x.length ∈ y.1.weights Tryz.prog 36) (fun i hi' => by
      obtain ⟨ys, n, hD, _, _, hy⟩ := hi i (by omega)
      obtain ⟨v0, y0, c0, g0, t0⟩ := hy 0 _ rfl
      obtain ⟨v1, y1, c1, _, t1⟩ := hy 1 _ rfl
      obtain ⟨v2, y2, c2, _, t2⟩ := hy 2 _ rfl
      obtain ⟨v3, y3, c3, _, t3⟩ := hy 3 _ rfl
      obtain ⟨v4, y4, c4, g4, t4⟩ := hy 4 _ rfl
      obtain ⟨s, e0, z0, hs⟩ := DataW.trod_string Tryz.underlying9 t0
      obtain ⟨x1, e1, _, w1⟩ := DataW.trod_int Tryz.underlying22 t1
      obtain ⟨x2, e2, _, w2⟩ := DataW.trod_int Tryz.underlying22 t2
      obtain ⟨x3, e3, _, w3⟩ := DataW.trod_int Tryz.underlying39 t3
      obtain ⟨sl, hsl, hsw⟩ := open_strs t4
      injection e0 with e0 _
      injection e1 with e1 _
      injection e2 with e2 _
      injection e3 with e3 _
      subst e0 e1 e2 e3
      rw [S_of] at c0
      have hmem : D i ∈ (List.range len).map D := List.mem_map.2 ⟨i, List.mem_range.2 hi', rfl⟩
      refine ⟨(⟨s.data.toList, x1, x2, x3, sl⟩, v4), ⟨c0, c1, c2, c3, c4⟩, hsl, ⟨wf_u16 w1, wf_u16 w2, wf_u32 w3⟩, ?_, fun x hx => ?_⟩
      · rw [hdd]
        refine weights_elem Tryz.underlying36 hmem ?_
        rw [hD]
        refine weights_field (j := 0) (d := y0.1) Tryz.underlying55 rfl (by simp [g0]) ?_
        rw [z0]; exact weights_str _ s
      · rw [hdd]
        refine weights_elem Tryz.underlying36 hmem ?_
        rw [hD]
        exact weights_field (j := 4) (d := y4.1) Tryz.underlying55 rfl (by simp [g4]) (hsw x hx))
    subst hll
    refine ⟨l.map Prod.fst, ⟨l, some a, cap, rfl, rfl, hl, hm, ?_, fun p hp => ?_⟩, fun s hs => ?_, .inr ⟨_, weights_row (by rw [hdd]), by simp only [List.length_map, List.length_range]; omega⟩⟩
    · refine ⟨flatS_len l, fun h0 => ?_⟩
      have hz := (hq 0 h0).1.1
      rw [show a.add (0 * 5 + 0) = a from rfl] at hz
      obtain ⟨ea, hb⟩ := spot_of hz
      refine ⟨a.block, a.off, by rw [← ea], Nat.zero_le _, hb, sets_of fun i hi' => ?_⟩
      have := (hq i hi').1
      rw [ea] at this
      simp only [add_none] at this
      exact this
    · obtain ⟨i, hi', rfl⟩ := List.getElem_of_mem hp
      exact (hq i hi').2.1
    · obtain ⟨p, hp, rfl⟩ := List.mem_map.1 hs
      obtain ⟨i, hi', rfl⟩ := List.getElem_of_mem hp
      exact (hq i hi').2.2
/-- What the form's reach says of a text's length. -/
theorem open_verdict {H : Type} {enc : TypeId × Value → H} {W : World} {r : Reach} {b0 : Nat} {v : Value} {d : DataW H} {p : List MemPlace}
    (hv : Value.okWide Tryz.prog W r b0 38 v) (h : DataW.Trod enc Tryz.prog W 0 (fun _ => true) true 38 v d p) :
    ∃ (code : Int) (vs vo : Value) (ss oo : List SetD), v = .agg #[.int .u8 code, vs, vo] ∧ Sets W 0 vs ss ∧ Sets W 0 vo oo ∧ (0 ≤ code ∧ code ≤ 255) ∧
      (∀ s ∈ ss ++ oo, SetIn s ∧ s.name.length ∈ d.weights Tryz.prog 38 ∧ ∀ x ∈ s.data, x.length ∈ d.weights Tryz.prog 38) ∧
      (ss.length = 0 ∨ ∃ m, m ∈ d.weights Tryz.prog 38 ∧ ss.length ≤ m) ∧ (oo.length = 0 ∨ ∃ m, m ∈ d.weights Tryz.prog 38 ∧ oo.length ≤ m) := by
  obtain ⟨cs, rfl, hsz⟩ := okWide_struct Tryz.underlying38 hv
  obtain ⟨l⟩ := cs
  have hC : Tryz.prog.cellsOf 38 = 3 := by kernel_rfl
  match l, hsz.trans hC with
  | [c0, c1, c2], _ =>
    obtain ⟨fuel, hf⟩ := h
    obtain ⟨xs, n, _, hd, _, hlen, hg⟩ := DataW.trod_struct Tryz.underlying38 hf
    have hd1 := (Prod.mk.inj hd).1
    obtain ⟨y0, hy0⟩ := some_at hlen (show 0 < _ by decide)
    obtain ⟨y1, hy1⟩ := some_at hlen (show 1 < _ by decide)
    obtain ⟨y2, hy2⟩ := some_at hlen (show 2 < _ by decide)
    have g0 : DataW.trod enc Tryz.prog W 0 (fun _ => true) true n 5 ((([c0, c1, c2] : List Value).drop 0).take (Tryz.prog.cellsOf 5)) = some y0 := (hg 0 _ rfl).trans hy0
    have g1 : DataW.trod enc Tryz.prog W 0 (fun _ => true) true n 36 ((([c0, c1, c2] : List Value).drop 1).take (Tryz.prog.cellsOf 36)) = some y1 := (hg 1 _ rfl).trans hy1
    have g2 : DataW.trod enc Tryz.prog W 0 (fun _ => true) true n 36 ((([c0, c1, c2] : List Value).drop 2).take (Tryz.prog.cellsOf 36)) = some y2 := (hg 2 _ rfl).trans hy2
    rw [show Tryz.prog.cellsOf 5 = 1 by kernel_rfl] at g0
    rw [show Tryz.prog.cellsOf 36 = 1 by kernel_rfl] at g1 g2
    simp only [List.drop_succ_cons, List.drop_zero, List.take_succ_cons, List.take_zero] at g0 g1 g2
    obtain ⟨x, e0, _, w0⟩ := DataW.trod_int Tryz.underlying5 g0
    simp only [List.cons.injEq, and_true] at e0
    subst e0
    obtain ⟨ss, hs, hsw, hsl⟩ := sets_trod g1
    obtain ⟨oo, ho, how, hol⟩ := sets_trod g2
    have up1 : ∀ {m : Nat}, m ∈ y1.1.weights Tryz.prog 36 → m ∈ d.weights Tryz.prog 38 := fun hm => by
      rw [hd1]; exact weights_field (j := 1) (d := y1.1) Tryz.underlying38 rfl (by simp [hy1]) hm
    have up2 : ∀ {m : Nat}, m ∈ y2.1.weights Tryz.prog 36 → m ∈ d.weights Tryz.prog 38 := fun hm => by
      rw [hd1]; exact weights_field (j := 2) (d := y2.1) Tryz.underlying38 rfl (by simp [hy2]) hm
    refine ⟨x, c1, c2, ss, oo, rfl, hs, ho, wf_u8 w0, fun s hm => ?_, ?_, ?_⟩
    · rcases List.mem_append.1 hm with hm | hm
      · exact ⟨(hsw s hm).1, up1 (hsw s hm).2.1, fun x hx => up1 ((hsw s hm).2.2 x hx)⟩
      · exact ⟨(how s hm).1, up2 (how s hm).2.1, fun x hx => up2 ((how s hm).2.2 x hx)⟩
    · exact hsl.imp id fun ⟨m, h1, h2⟩ => ⟨m, up1 h1, h2⟩
    · exact hol.imp id fun ⟨m, h1, h2⟩ => ⟨m, up2 h1, h2⟩
end Go.Proofs.YtbdjoihckienbaaGreatDoor
namespace Go.Proofs.YtbdjoihckienbaaGreatDoor
set_option linter.unusedSimpArgs false
set_option linter.unusedVariables false
open Go.ChangeShapes Go.WideShapes Go.ChangeAt Go.RowKit
set_option maxRecDepth 100000

theorem verdictTells_contract (H : Type) (enc : TypeId × Value → H) (W : World) (base : Nat) (args : Array Value) (ds gs : List (DataW H)) (before : List MemPlace)
    (hval : ∀ (j : Nat) t v, Tryz.f8.params[j]? = some t → args[j]? = some v → Value.okWide Tryz.prog W .any base t v)
    (hW : DataW.Whole enc Tryz.prog Tryz.f8.params.toList Rows.verdictTellsSpec.vars false W args.toList ds gs before)
    (hsz : (DataW.weightsEach Tryz.prog (Tryz.f8.params.toList ++ (OpenSpec.ofChange Rows.verdictTellsSpec).bare.plain.varTypes Tryz.prog) (ds ++ gs)).all (· ≤ reachBytes) = true)
    (hL : laidMetH Tryz.prog laidL W) :
    Calls Tryz.prog 8 args W fun e W' => ∃ v, e = .returned v ∧ Rows.verdictTellsSpec.post enc Tryz.prog Tryz.f8 false true false false W args v W' := by
  have hW' := hW
  have hp : ∀ t ∈ Tryz.f8.params.toList, Tryz.prog.readableRec t = true ∧ t < Tryz.prog.types.size := by
    have h : (Tryz.f8.params.toList.all fun t => Tryz.prog.readableRec t && decide (t < Tryz.prog.types.size)) = true := by kernel_rfl
    simpa only [List.all_eq_true, Bool.and_eq_true, decide_eq_true_eq] using h
  have hg := laid_of hL
  obtain ⟨p, q, hA0, hV, rfl, _, _⟩ := hW
  have hA : DataW.TrodAll enc Tryz.prog W 0 (fun _ => true) true Tryz.f8.params.toList args.toList ds p := hA0
  clear hA0
  rw [Tryz.params8] at hA hval hsz
  obtain ⟨rfl, rfl⟩ := trodVars_none hV
  obtain ⟨v0, v1, v2, d0, d1, d2, p0, p1, p2, rfl, rfl, rfl, h0, h1, h2⟩ := trodAll_three hA
  obtain ⟨c1, vs1, vo1, ss1, oo1, rfl, hv1, hu1, hc1, hin1, hls1, hlo1⟩ := open_verdict (hval 0 _ _ rfl rfl) h0
  have hok1 : ArgOk ss1 oo1 := ⟨fun s hs => ⟨by have := reach_of hsz (j := 0) rfl rfl (hin1 s hs).2.1; unfold maxLen; omega, fun x hx => by have := reach_of hsz (j := 0) rfl rfl ((hin1 s hs).2.2 x hx); unfold maxLen; omega⟩, by
    rcases hls1 with h | ⟨m, h, hle⟩
    · omega
    · have := reach_of hsz (j := 0) rfl rfl h; omega, by
    rcases hlo1 with h | ⟨m, h, hle⟩
    · omega
    · have := reach_of hsz (j := 0) rfl rfl h; omega, fun s hs => ⟨(hin1 s hs).1.1, (hin1 s hs).1.2.1⟩⟩
  obtain ⟨c2, vs2, vo2, ss2, oo2, rfl, hv2, hu2, hc2, hin2, hls2, hlo2⟩ := open_verdict (hval 1 _ _ rfl rfl) h1
  have hok2 : ArgOk ss2 oo2 := ⟨fun s hs => ⟨by have := reach_of hsz (j := 1) rfl rfl (hin2 s hs).2.1; unfold maxLen; omega, fun x hx => by have := reach_of hsz (j := 1) rfl rfl ((hin2 s hs).2.2 x hx); unfold maxLen; omega⟩, by
    rcases hls2 with h | ⟨m, h, hle⟩
    · omega
    · have := reach_of hsz (j := 1) rfl rfl h; omega, by
    rcases hlo2 with h | ⟨m, h, hle⟩
    · omega
    · have := reach_of hsz (j := 1) rfl rfl h; omega, fun s hs => ⟨(hin2 s hs).1.1, (hin2 s hs).1.2.1⟩⟩
  obtain ⟨n3, ty3, cl3, rfl, hn3, _, _⟩ := open_question (hval 2 _ _ rfl rfl) h2
  obtain ⟨k1, rfl⟩ : ∃ k1 : Nat, c1 = (k1 : Int) := ⟨c1.toNat, by omega⟩
  refine (law_verdictTells k1 c2 vs1 vo1 vs2 vo2 ss1 oo1 ss2 oo2 n3 ty3 cl3 W hg hv1 hu1 hv2 hu2 hok1 hok2 (by omega)).mono ?_
  rintro e W' ⟨rfl, hE⟩
  exact ⟨_, rfl, post_true laid_out rfl (by kernel_rfl) Tryz.underlying4 hp hW' rfl hE⟩

theorem verdictTells_reads (os : Os) {H : Type} (enc : TypeId × Value → H) : ∃ places, DataW.whole enc Tryz.prog ((laidWorld os).forCall (fun _ _ => 0) ⟨#[], #[.agg #[.int .u8 0, .slice none 0 0, .slice none 0 0], .agg #[.int .u8 0, .slice none 0 0, .slice none 0 0], .agg #[.string ⟨#[]⟩, .int .u16 0, .int .u16 0]], []⟩).memory Tryz.f8.params.toList Rows.verdictTellsSpec.vars false (#[.agg #[.int .u8 0, .slice none 0 0, .slice none 0 0], .agg #[.int .u8 0, .slice none 0 0, .slice none 0 0], .agg #[.string ⟨#[]⟩, .int .u16 0, .int .u16 0]] : Array Value).toList 8 = some ([.agg [.lit (.int .u8 0), .nil, .nil], .agg [.lit (.int .u8 0), .nil, .nil], .agg [.lit (.string []), .lit (.int .u16 0), .lit (.int .u16 0)]], [], places) :=
  ⟨[], by kernel_rfl⟩
theorem verdictTells_lifted (os : Os) (started : os.Started) (H : Type) (enc : TypeId × Value → H) (F : Stop.Interp) :
    ReturnsInHanded {} Tryz.checked os 8 .any ((OpenSpec.ofChange Rows.verdictTellsSpec).preRow enc Tryz.prog Tryz.f8 Rows.verdictTellsRow.domain false Rows.verdictTellsRow.laid) (((OpenSpec.ofChange Rows.verdictTellsSpec).at F).post enc Tryz.prog Tryz.f8 false true false false) := by
  obtain ⟨places, hx⟩ := verdictTells_reads os enc
  refine returnsInHanded_of_row (C := Tryz.checked) (s := OpenSpec.ofChange Rows.verdictTellsSpec) own_knob started (by kernel_rfl) Tryz.func8
    (witness_row_at (enc := enc) (C := Tryz.checked) false (laidWorld os) #[.agg #[.int .u8 0, .slice none 0 0, .slice none 0 0], .agg #[.int .u8 0, .slice none 0 0, .slice none 0 0], .agg #[.string ⟨#[]⟩, .int .u16 0, .int .u16 0]] rfl (by kernel_rfl) (by kernel_rfl) (by kernel_rfl)
      (OpenSpec.preRow_of_cond 8 hx (by kernel_rfl) (fun k hk => by cases hk) (by kernel_rfl) (laid_met os _))) ?_
  intro W base args ds gs before hval hW _ _ hsz hL _ _
  exact verdictTells_contract H enc W base args ds gs before hval hW hsz hL
theorem verdictTells_said : Rows.VerdictTellsSaid :=
  OpenClaim.holds_of_cond 8 Tryz.f8 rfl rfl rfl rfl rfl rfl rfl ⟨rfl, rfl, rfl, rfl, rfl⟩ rfl rfl rfl rfl rfl (by kernel_rfl) Tryz.func8 (by kernel_rfl)
    (of_decide_eq_true (by kernel_rfl)) (by unfold Func.isWrapper; first | (rw [if_pos (by decide +kernel)]; kernel_rfl) | (rw [if_neg (by decide +kernel)]; exact ⟨rfl, rfl⟩))
    (fun os started H enc _ F => by rw [OpenClaim.pre_eq_preRow]; exact verdictTells_lifted os started H enc F)
/-- THE CARD. -/
theorem verdictTells_card : Rows.VerdictTellsCardSaid :=
  Claim7.holds_tied_plain_at .later [] _ _ _ _ verdictTells_said (fun _ h => by cases h) (by kernel_rfl) (fun _ h => by cases h) verdictTells_row_tie rfl ⟨rfl, rfl⟩ (by kernel_rfl) rfl
    (fun f fn hf hfn => by
      obtain rfl : f = 8 := Option.some.inj ((show Tryz.prog.funcNamed Rows.verdictTellsRow.func = some 8 by kernel_rfl).symm.trans hf) |>.symm
      obtain rfl : fn = Tryz.f8 := (Option.some.inj (Tryz.func8.symm.trans hfn)).symm
      refine ⟨by kernel_rfl, fun j t ht => ?_⟩
      have h : (Tryz.f8.params.toList.all fun t => !Tryz.prog.wantsStandIn t) = true := by kernel_rfl
      have h2 := List.all_eq_true.1 h t (by simpa using Array.mem_of_getElem? ht)
      exact (by simpa using h2 : Tryz.prog.wantsStandIn t = false))
    (by kernel_rfl)
#print axioms verdictTells_card
end Go.Proofs.YtbdjoihckienbaaGreatDoor
