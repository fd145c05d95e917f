/- hustingslaw11.VerdictTime returns true for every input, and every argument reads behind the call as it read before; the listed variable (errors.errorType) is tied to the program's text. No condition of ours. -/
import Derived.Test.YtbdjoihckienbaaGreatDoorBx
import Derived.Test.YtbdjoihckienbaaGreatDoorBrl
import Derived.Test.YtbdjoihckienbaaGreatDoorBu
import Derived.Test.YtbdjoihckienbaaGreatDoorBz
import Derived.Test.YtbdjoihckienbaaGreatDoorBg1
import Derived.Test.YtbdjoihckienbaaGreatDoorBht
import Derived.Great.Walk
import Derived.Great.BuildSlice
import Derived.Test.YtbdjoihckienbaaGreatDoorBn
import Derived.Test.YtbdjoihckienbaaGreatDoorBy
namespace Go.Proofs.YtbdjoihckienbaaGreatDoor
set_option linter.unusedSimpArgs false
set_option linter.unusedVariables false
open Go.RowKit
set_option maxRecDepth 100000

theorem group_find {l : List RecD} {s : SetD} (hs : s ∈ groupR l) : findS (groupR l) s.name s.typ s.cls = some s := by
  have hn := group_name hs
  have hm := (group_mem l s).1 hs
  have hk : keyT s = (low s.name, s.typ, s.cls) := by rw [hn.2]; rfl
  rw [find_group l s.name s.typ s.cls hn.1, ← hk, if_neg hm.1, ← hm.2]
theorem lowR_bd {l : List RecD} (h : RecsBd l) (k : Nat) (hk : k < l.length) (t : Int) : RecsBd (l.set k (lowR l[k] t)) := by
  refine ⟨by rw [List.length_set]; exact h.1, fun r hr => ?_⟩
  rcases List.mem_or_eq_of_mem_set hr with h1 | h1
  · exact h.2 r h1
  · subst h1; exact h.2 l[k] (List.getElem_mem hk)
theorem lowR_ok {l : List RecD} (h : RecsOk l) (k : Nat) (hk : k < l.length) (t : Int) : RecsOk (l.set k (lowR l[k] t)) := fun r hr => by
  rcases List.mem_or_eq_of_mem_set hr with h1 | h1
  · exact h r h1
  · subst h1; exact h l[k] (List.getElem_mem hk)

set_option maxHeartbeats 8000000 in
theorem law_verdictTime (x : MsgX) (n : List UInt8) (ty cls code : Int) (aA : Option Addr) (ac : Nat) (uA : Option Addr) (uc : Nat) (ans auth ext : List RecD) (wh tl : Int) (w : World) (hg : Laid w) (ha : Recs w 0 (.slice aA ans.length ac) ans) (hu : Recs w 0 (.slice uA auth.length uc) auth) (hx : Recs w 0 (.slice x.xA x.xn x.xc) ext) (hao : ∀ r ∈ ans, RecOk r) (huo : ∀ r ∈ auth, RecOk r) (hxo : ∀ r ∈ ext, RecOk r) (hn : n.length ≤ maxLen) (hq : x.qn ≤ maxLen) (hb1 : -9223372036854775808 ≤ wh) (hb2 : wh ≤ 9223372036854775807) (ht1 : 0 ≤ tl) (ht2 : tl ≤ 4294967295) :
    Calls Tryz.prog 7 #[.agg #[S n, .int .u16 ty, .int .u16 cls], msgV x code (.slice aA ans.length ac) (.slice uA auth.length uc), .int .i64 wh, .int .u32 tl] w fun e w' => e = .returned (.bool true) ∧ Ext w w' := by
  have HL := Lib.hid (fun W (hW : Ext w W) => law11_large x n ty cls code 0 aA ac uA uc ans auth ext W (ha.ext hW) (hu.ext hW) (hx.ext hW) hao huo hxo hn hq)
  have HA := Lib.hid (fun W (hW : Ext w W) => law11_awake W (hg.ext hW))
  rcases hb : largeM n ans auth ext x.qn with _ | _
  rotate_left
  · rw [hb] at HL
    clear hb
    obtain ⟨X, hX⟩ : ∃ X, X = ((w.alloc (.cells #[S n, .int .u16 ty, .int .u16 cls] 24)).alloc (.cells #[.int .u16 x.id, .bool x.qr, .int .u8 x.op, .bool x.aa, .bool x.tc, .bool x.rd, .bool x.ra, .bool x.z, .bool x.ad, .bool x.cd, .int .u8 code, .slice x.qA x.qn x.qc, .slice aA ans.length ac, .slice uA auth.length uc, .slice x.xA x.xn x.xc, .bool x.he, .int .u16 x.es, .int .u8 x.ee, .int .u8 x.ev, .int .u16 x.ef, .slice x.oA x.on x.oc] 33)) := ⟨_, rfl⟩
    obtain ⟨kq, _, zq⟩ := ext_new_at (w.heap.size) rfl ((Ext.refl (w.alloc (.cells #[S n, .int .u16 ty, .int .u16 cls] 24))).alloc (.cells #[.int .u16 x.id, .bool x.qr, .int .u8 x.op, .bool x.aa, .bool x.tc, .bool x.rd, .bool x.ra, .bool x.z, .bool x.ad, .bool x.cd, .int .u8 code, .slice x.qA x.qn x.qc, .slice aA ans.length ac, .slice uA auth.length uc, .slice x.xA x.xn x.xc, .bool x.he, .int .u16 x.es, .int .u8 x.ee, .int .u8 x.ev, .int .u16 x.ef, .slice x.oA x.on x.oc] 33))
    have zm : w.heap.size + 1 < ((w.alloc (.cells #[S n, .int .u16 ty, .int .u16 cls] 24)).alloc (.cells #[.int .u16 x.id, .bool x.qr, .int .u8 x.op, .bool x.aa, .bool x.tc, .bool x.rd, .bool x.ra, .bool x.z, .bool x.ad, .bool x.cd, .int .u8 code, .slice x.qA x.qn x.qc, .slice aA ans.length ac, .slice uA auth.length uc, .slice x.xA x.xn x.xc, .bool x.he, .int .u16 x.es, .int .u8 x.ee, .int .u8 x.ev, .int .u16 x.ef, .slice x.oA x.on x.oc] 33)).heap.size := by simp
    have hkm : ((w.alloc (.cells #[S n, .int .u16 ty, .int .u16 cls] 24)).alloc (.cells #[.int .u16 x.id, .bool x.qr, .int .u8 x.op, .bool x.aa, .bool x.tc, .bool x.rd, .bool x.ra, .bool x.z, .bool x.ad, .bool x.cd, .int .u8 code, .slice x.qA x.qn x.qc, .slice aA ans.length ac, .slice uA auth.length uc, .slice x.xA x.xn x.xc, .bool x.he, .int .u16 x.es, .int .u8 x.ee, .int .u8 x.ev, .int .u16 x.ef, .slice x.oA x.on x.oc] 33)).heap[w.heap.size + 1]? = some (.cells #[.int .u16 x.id, .bool x.qr, .int .u8 x.op, .bool x.aa, .bool x.tc, .bool x.rd, .bool x.ra, .bool x.z, .bool x.ad, .bool x.cd, .int .u8 code, .slice x.qA x.qn x.qc, .slice aA ans.length ac, .slice uA auth.length uc, .slice x.xA x.xn x.xc, .bool x.he, .int .u16 x.es, .int .u8 x.ee, .int .u8 x.ev, .int .u16 x.ef, .slice x.oA x.on x.oc] 33) := heap_new_at (w.alloc (.cells #[S n, .int .u16 ty, .int .u16 cls] 24)) _ (w.heap.size + 1) (by simp)
    rw [← hX] at kq zq zm hkm
    have hwX : Ext w X := by rw [hX]; exact ((Ext.refl _).alloc _).alloc _
    have HK := Lib.hid (show ∀ V, Ext X V → (∀ j, V.cell? ⟨w.heap.size, j, none⟩ = #[S n, .int .u16 ty, .int .u16 cls][j]?) from fun V hV => fun j => (hV.cell (p := ⟨w.heap.size, j, none⟩) zq).trans (kq j))
    have HM := Lib.hid (show ∀ V, Ext X V → V.heap[w.heap.size + 1]? = some (.cells #[.int .u16 x.id, .bool x.qr, .int .u8 x.op, .bool x.aa, .bool x.tc, .bool x.rd, .bool x.ra, .bool x.z, .bool x.ad, .bool x.cd, .int .u8 code, .slice x.qA x.qn x.qc, .slice aA ans.length ac, .slice uA auth.length uc, .slice x.xA x.xn x.xc, .bool x.he, .int .u16 x.es, .int .u8 x.ee, .int .u8 x.ev, .int .u16 x.ef, .slice x.oA x.on x.oc] 33) from fun V hV => (hV.block _ zm).trans hkm)
    clear hkm kq
    have c0 := HK.out X (Ext.refl _)
    go_enter Tryz.func7, Tryz.ntmps7
    go_upto_region 1 with fail
    rw [← hX]
    clear hX
    go_wp2_with (refine wpList_load_rowG (by rfl) 33 (.tmp 5) rfl (w.heap.size + 1) rfl 33 _ _ _ (HM.out _ (Ext.refl _)) Tryz.underlying33 rfl (by kernel_rfl) ?_)
    refine (HL.out _ hwX).mono ?_; rintro e w1 ⟨rfl, hE1⟩
    go_wp2_with fail
    refine (HA.out _ (hwX.trans hE1)).mono ?_; rintro e w2 ⟨rfl, hE2⟩
    go_wp2_with fail
    go_ret
    exact ⟨rfl, (hwX.trans hE1).trans hE2⟩
  obtain ⟨s1, s2, s3, _, _⟩ := largeM_no hb
  rw [hb] at HL
  have hbd := recsBd_of s2
  have hok := recsOk_of hao
  have hal : ans.length ≤ 4096 := hbd.1
  have Hra := Lib.hid (fun V (hV : Ext w V) => (show ∀ {A : Option Addr} {c : Nat}, Recs w 0 (.slice A ans.length c) ans → Rd V 0 5 A ans.length (ans.flatMap recCells) from fun h => by
    obtain ⟨A', c', e, _, _, h⟩ := h
    injection e with e _ _
    subst e
    exact h.ext hV) ha)
  have HV1 := Lib.hid (fun W (hW : Ext w W) => ver_of x n ty cls code 0 aA ac uA uc ans auth W (hg.ext hW) (ha.ext hW) (hu.ext hW) hbd (recsBd_of s3) hok (recsOk_of huo) (by omega))
  have HV2 := Lib.hid (fun W (hW : Ext w W) (L : List RecD) (lo : Nat) (A : Option Addr) (c : Nat) (hl : L.length = ans.length) (hb : RecsBd L) (ho : RecsOk L) (hr : Recs W lo (.slice A L.length c) L) => (show Calls Tryz.prog 13 #[.agg #[S n, .int .u16 ty, .int .u16 cls], msgV x code (.slice A ans.length c) (.slice uA auth.length uc)] W (VerPost (verOf n ty cls code L auth) W) by
    have h := ver_of x n ty cls code 0 A c uA uc L auth W (hg.ext hW) (hr.lower (Nat.zero_le _)) (hu.ext hW) hb (recsBd_of s3) ho (recsOk_of huo) (by omega)
    rw [hl] at h
    exact h))
  have HG := Lib.hid (fun W (hW : Ext w W) => rrset_groupR 0 _ ans W (hg.ext hW) (ha.ext hW) hbd hok)
  have HLo := Lib.hid (fun k (h : k < ans.length) (t : Int) (ht : t ≤ ans[k].ttl) (hm : ans[k].ttl ≤ 2147483647) => ver_lower ans k h t ht hm n ty cls code auth)
  have HSm0 := Lib.hid (show (verOf n ty cls code ans auth).same (verOf n ty cls code ans auth) ∧ (verOf n ty cls code ans auth).time ≤ (verOf n ty cls code ans auth).time from ⟨⟨rfl, rfl, rfl, rfl⟩, Int.le_refl _⟩)
  have Ht := Lib.hid (fun h => ver_time_sets (n := n) (ty := ty) (cls := cls) (code := code) (auth := auth) (fun r hr => (hao r hr).2.2.2.2.1) h)
  have Hbt := Lib.hid (ver_bad_time (n := n) (ty := ty) (cls := cls) (code := code) (ans := ans) (auth := auth))
  have Htb := (ver_time_bd (n := n) (ty := ty) (cls := cls) (code := code) (ans := ans) (auth := auth) (fun r hr => (hao r hr).2.2.2.2.1) (fun r hr => (huo r hr).2.2.2.2.1)).2
  have Hbd := Lib.hid hbd
  have Hok := Lib.hid hok
  have Hgb := Lib.hid (groupR_bd hbd)
  have Hgf := Lib.hid (fun (s : SetD) (hs : s ∈ groupR ans) => And.intro (group_find hs) (may_le (group_name hs).1))
  generalize hR : verOf n ty cls code ans auth = R at *
  have HR := Lib.hid hR
  clear hb s1 s2 s3 hbd hok hR
  obtain ⟨X, hX⟩ : ∃ X, X = ((w.alloc (.cells #[S n, .int .u16 ty, .int .u16 cls] 24)).alloc (.cells #[.int .u16 x.id, .bool x.qr, .int .u8 x.op, .bool x.aa, .bool x.tc, .bool x.rd, .bool x.ra, .bool x.z, .bool x.ad, .bool x.cd, .int .u8 code, .slice x.qA x.qn x.qc, .slice aA ans.length ac, .slice uA auth.length uc, .slice x.xA x.xn x.xc, .bool x.he, .int .u16 x.es, .int .u8 x.ee, .int .u8 x.ev, .int .u16 x.ef, .slice x.oA x.on x.oc] 33)) := ⟨_, rfl⟩
  obtain ⟨kq, _, zq⟩ := ext_new_at (w.heap.size) rfl ((Ext.refl (w.alloc (.cells #[S n, .int .u16 ty, .int .u16 cls] 24))).alloc (.cells #[.int .u16 x.id, .bool x.qr, .int .u8 x.op, .bool x.aa, .bool x.tc, .bool x.rd, .bool x.ra, .bool x.z, .bool x.ad, .bool x.cd, .int .u8 code, .slice x.qA x.qn x.qc, .slice aA ans.length ac, .slice uA auth.length uc, .slice x.xA x.xn x.xc, .bool x.he, .int .u16 x.es, .int .u8 x.ee, .int .u8 x.ev, .int .u16 x.ef, .slice x.oA x.on x.oc] 33))
  have zm : w.heap.size + 1 < ((w.alloc (.cells #[S n, .int .u16 ty, .int .u16 cls] 24)).alloc (.cells #[.int .u16 x.id, .bool x.qr, .int .u8 x.op, .bool x.aa, .bool x.tc, .bool x.rd, .bool x.ra, .bool x.z, .bool x.ad, .bool x.cd, .int .u8 code, .slice x.qA x.qn x.qc, .slice aA ans.length ac, .slice uA auth.length uc, .slice x.xA x.xn x.xc, .bool x.he, .int .u16 x.es, .int .u8 x.ee, .int .u8 x.ev, .int .u16 x.ef, .slice x.oA x.on x.oc] 33)).heap.size := by simp
  have hkm : ((w.alloc (.cells #[S n, .int .u16 ty, .int .u16 cls] 24)).alloc (.cells #[.int .u16 x.id, .bool x.qr, .int .u8 x.op, .bool x.aa, .bool x.tc, .bool x.rd, .bool x.ra, .bool x.z, .bool x.ad, .bool x.cd, .int .u8 code, .slice x.qA x.qn x.qc, .slice aA ans.length ac, .slice uA auth.length uc, .slice x.xA x.xn x.xc, .bool x.he, .int .u16 x.es, .int .u8 x.ee, .int .u8 x.ev, .int .u16 x.ef, .slice x.oA x.on x.oc] 33)).heap[w.heap.size + 1]? = some (.cells #[.int .u16 x.id, .bool x.qr, .int .u8 x.op, .bool x.aa, .bool x.tc, .bool x.rd, .bool x.ra, .bool x.z, .bool x.ad, .bool x.cd, .int .u8 code, .slice x.qA x.qn x.qc, .slice aA ans.length ac, .slice uA auth.length uc, .slice x.xA x.xn x.xc, .bool x.he, .int .u16 x.es, .int .u8 x.ee, .int .u8 x.ev, .int .u16 x.ef, .slice x.oA x.on x.oc] 33) := heap_new_at (w.alloc (.cells #[S n, .int .u16 ty, .int .u16 cls] 24)) _ (w.heap.size + 1) (by simp)
  rw [← hX] at kq zq zm hkm
  have hwX : Ext w X := by rw [hX]; exact ((Ext.refl _).alloc _).alloc _
  have HK := Lib.hid (show ∀ V, Ext X V → (∀ j, V.cell? ⟨w.heap.size, j, none⟩ = #[S n, .int .u16 ty, .int .u16 cls][j]?) from fun V hV => fun j => (hV.cell (p := ⟨w.heap.size, j, none⟩) zq).trans (kq j))
  have HM := Lib.hid (show ∀ V, Ext X V → V.heap[w.heap.size + 1]? = some (.cells #[.int .u16 x.id, .bool x.qr, .int .u8 x.op, .bool x.aa, .bool x.tc, .bool x.rd, .bool x.ra, .bool x.z, .bool x.ad, .bool x.cd, .int .u8 code, .slice x.qA x.qn x.qc, .slice aA ans.length ac, .slice uA auth.length uc, .slice x.xA x.xn x.xc, .bool x.he, .int .u16 x.es, .int .u8 x.ee, .int .u8 x.ev, .int .u16 x.ef, .slice x.oA x.on x.oc] 33) from fun V hV => (hV.block _ zm).trans hkm)
  clear hkm kq
  have c0 := HK.out X (Ext.refl _)
  go_enter Tryz.func7, Tryz.ntmps7
  go_upto_region 1 with fail
  rw [← hX]
  clear hX
  go_wp2_with (refine wpList_load_rowG (by rfl) 33 (.tmp 5) rfl (w.heap.size + 1) rfl 33 _ _ _ (HM.out _ (Ext.refl _)) Tryz.underlying33 rfl (by kernel_rfl) ?_)
  refine (HL.out _ hwX).mono ?_; rintro e w1 ⟨rfl, hE1⟩
  go_wp2_with fail
  refine (HA.out _ (hwX.trans hE1)).mono ?_; rintro e w2 ⟨rfl, hE2⟩
  have hX2 := hE1.trans hE2
  have c2 := HK.out w2 hX2
  clear c0
  go_wp2_with (refine wpList_load_rowG (by rfl) 33 (.tmp 5) rfl (w.heap.size + 1) rfl 33 _ _ _ (HM.out _ hX2) Tryz.underlying33 rfl (by kernel_rfl) ?_)
  refine (HV1.out _ (hwX.trans hX2)).mono ?_; rintro e w3 ⟨vs, vo, rfl, hs, ho, _, hE3⟩
  obtain ⟨sA, sc, rfl, hsl1, hsl2⟩ := hs.shape
  unfold maxLen at hsl2
  obtain ⟨oA, oc, rfl, _, _⟩ := ho.shape
  have hX3 := hX2.trans hE3
  have hX3' : Ext X (w3.alloc (.cells #[.int .u8 R.code, .slice sA R.sets.length sc, .slice oA R.soa.length oc] 38)) := hX3.alloc _
  clear c2
  by_cases he : R.err = 0
  rotate_left
  · have f1 : ((R.err : Int) == 0) = false := by rw [beq_eq_false_iff_ne]; omega
    have f2 : ((R.err : Int) != 0) = true := by rw [bne, f1]; rfl
    have f3 : R.time = 0 := Hbt.out he
    clear he
    go_wp2_with fail
    go_ret
    exact ⟨rfl, hwX.trans hX3'⟩
  have f1 : ((R.err : Int) == 0) = true := by rw [he]; rfl
  have f2 : ((R.err : Int) != 0) = false := by rw [bne, f1]; rfl
  have He := Lib.hid he
  obtain ⟨kv, _, zv⟩ := ext_new (Ext.refl (w3.alloc (.cells #[.int .u8 R.code, .slice sA R.sets.length sc, .slice oA R.soa.length oc] 38)))
  have HV := Lib.hid (show ∀ V, Ext (w3.alloc (.cells #[.int .u8 R.code, .slice sA R.sets.length sc, .slice oA R.soa.length oc] 38)) V → ∀ j, V.cell? ⟨w3.heap.size, j, none⟩ = #[.int .u8 R.code, .slice sA R.sets.length sc, .slice oA R.soa.length oc][j]? from fun V hV j => (hV.cell (p := ⟨w3.heap.size, j, none⟩) zv).trans (kv j))
  have Hs := Lib.hid (show ∀ V, Ext (w3.alloc (.cells #[.int .u8 R.code, .slice sA R.sets.length sc, .slice oA R.soa.length oc] 38)) V → Sets V 0 _ R.sets from fun V hV => ((hs.ext ((Ext.refl _).alloc _)).ext hV).sets.lower (Nat.zero_le _))
  have Ho := Lib.hid (show ∀ V, Ext (w3.alloc (.cells #[.int .u8 R.code, .slice sA R.sets.length sc, .slice oA R.soa.length oc] 38)) V → Sets V 0 _ R.soa from fun V hV => ((ho.ext ((Ext.refl _).alloc _)).ext hV).sets.lower (Nat.zero_le _))
  have cm : (w3.alloc (.cells #[.int .u8 R.code, .slice sA R.sets.length sc, .slice oA R.soa.length oc] 38)).cell? ⟨w.heap.size + 1, 12, none⟩ = some (.slice aA ans.length ac) := heap_cells (HM.out _ hX3') 12
  have hXn := hX3'
  clear he hs ho kv
  go_upto_if 43 with fail
  go_cut [] (fun wx => Ext (w3.alloc (.cells #[.int .u8 R.code, .slice sA R.sets.length sc, .slice oA R.soa.length oc] 38)) wx)
  case first =>
    by_cases hl0 : ans.length = 0
    · have hl1 : ¬ (0 : Int) < (ans.length : Int) := by omega
      have hl2 : decide ((0 : Int) < (ans.length : Int)) = false := by simpa using hl1
      clear hl0
      go_wp2_with fail
      go_meet
      exact Ext.refl _
    have hl1 : (0 : Int) < (ans.length : Int) := by omega
    obtain ⟨i0, hi0, hz0, hz1, hz2⟩ := info_parts info_rec8
    obtain ⟨U, hU, hU2⟩ := u64_natm wh
    have hll := u64_inm ans.length (by omega)
    obtain ⟨r, hr⟩ : ∃ r, U % ans.length = r := ⟨_, rfl⟩
    have hrl : r < ans.length := by rw [← hr]; exact Nat.mod_lt _ (by omega)
    have e1 : (U : Int) % (ans.length : Int) = (r : Int) := by rw [← hr]; rfl
    have hne0 : ¬ ((ans.length : Int) = 0) := by omega
    have hri : (r : Int) < (ans.length : Int) := by omega
    have hr0 : (0 : Int) ≤ (r : Int) := by omega
    have hLo := HLo.out r hrl tl
    have hxo1 := hao ans[r] (List.getElem_mem hrl)
    have HFS := Lib.hid (flat_setRm ans r ans[r] (lowR ans[r] tl) 3 (.int .u32 tl) (List.getElem?_eq_getElem hrl) (by omega) rfl)
    have HFG := Lib.hid (flat_get recCells 5 (fun _ => rfl) ans r 3 ans[r] (List.getElem?_eq_getElem hrl) (by omega))
    have HB2 := Lib.hid (And.intro (lowR_bd Hbd.out r hrl tl) (lowR_ok Hok.out r hrl tl))
    generalize hxr : ans[r] = xr at *
    clear hr hl0 hxr
    obtain ⟨Y0, hYe⟩ : ∃ Y0, Y0 = (w3.alloc (.cells #[.int .u8 R.code, .slice sA R.sets.length sc, .slice oA R.soa.length oc] 38)).alloc (.cells #[.int .u16 x.id, .bool x.qr, .int .u8 x.op, .bool x.aa, .bool x.tc, .bool x.rd, .bool x.ra, .bool x.z, .bool x.ad, .bool x.cd, .int .u8 code, .slice x.qA x.qn x.qc, .slice aA ans.length ac, .slice uA auth.length uc, .slice x.xA x.xn x.xc, .bool x.he, .int .u16 x.es, .int .u8 x.ee, .int .u8 x.ev, .int .u16 x.ef, .slice x.oA x.on x.oc] 33) := ⟨_, rfl⟩
    have hnY : Y0.heap[w3.heap.size + 1]? = some (.cells #[.int .u16 x.id, .bool x.qr, .int .u8 x.op, .bool x.aa, .bool x.tc, .bool x.rd, .bool x.ra, .bool x.z, .bool x.ad, .bool x.cd, .int .u8 code, .slice x.qA x.qn x.qc, .slice aA ans.length ac, .slice uA auth.length uc, .slice x.xA x.xn x.xc, .bool x.he, .int .u16 x.es, .int .u8 x.ee, .int .u8 x.ev, .int .u16 x.ef, .slice x.oA x.on x.oc] 33) := by rw [hYe]; exact heap_new_at _ _ _ (by simp)
    have fY : ∀ j, ((w3.alloc (.cells #[.int .u8 R.code, .slice sA R.sets.length sc, .slice oA R.soa.length oc] 38)).alloc (.cells #[.int .u16 x.id, .bool x.qr, .int .u8 x.op, .bool x.aa, .bool x.tc, .bool x.rd, .bool x.ra, .bool x.z, .bool x.ad, .bool x.cd, .int .u8 code, .slice x.qA x.qn x.qc, .slice aA ans.length ac, .slice uA auth.length uc, .slice x.xA x.xn x.xc, .bool x.he, .int .u16 x.es, .int .u8 x.ee, .int .u8 x.ev, .int .u16 x.ef, .slice x.oA x.on x.oc] 33)).frozen? ⟨w3.heap.size + 1, j, none⟩ = false := (ext_new_at (w3.heap.size + 1) (by simp) (Ext.refl ((w3.alloc (.cells #[.int .u8 R.code, .slice sA R.sets.length sc, .slice oA R.soa.length oc] 38)).alloc (.cells #[.int .u16 x.id, .bool x.qr, .int .u8 x.op, .bool x.aa, .bool x.tc, .bool x.rd, .bool x.ra, .bool x.z, .bool x.ad, .bool x.cd, .int .u8 code, .slice x.qA x.qn x.qc, .slice aA ans.length ac, .slice uA auth.length uc, .slice x.xA x.xn x.xc, .bool x.he, .int .u16 x.es, .int .u8 x.ee, .int .u8 x.ev, .int .u16 x.ef, .slice x.oA x.on x.oc] 33)))).2.1
    have zN : w3.heap.size + 1 < ((w3.alloc (.cells #[.int .u8 R.code, .slice sA R.sets.length sc, .slice oA R.soa.length oc] 38)).alloc (.cells #[.int .u16 x.id, .bool x.qr, .int .u8 x.op, .bool x.aa, .bool x.tc, .bool x.rd, .bool x.ra, .bool x.z, .bool x.ad, .bool x.cd, .int .u8 code, .slice x.qA x.qn x.qc, .slice aA ans.length ac, .slice uA auth.length uc, .slice x.xA x.xn x.xc, .bool x.he, .int .u16 x.es, .int .u8 x.ee, .int .u8 x.ev, .int .u16 x.ef, .slice x.oA x.on x.oc] 33)).heap.size := by simp
    rw [← hYe] at fY zN
    have hvY : Ext (w3.alloc (.cells #[.int .u8 R.code, .slice sA R.sets.length sc, .slice oA R.soa.length oc] 38)) Y0 := by rw [hYe]; exact (Ext.refl _).alloc _
    have hXY : Ext X Y0 := hX3'.trans hvY
    have hY0 : Ext w Y0 := hwX.trans hXY
    go_upto_region 7 with fail
    go_cut [12] (fun s12 wx => s12 = .pointer (some ⟨w3.heap.size + 1, 0, none⟩) ∧ Y0 = wx)
    case first =>
      as_aux_lemma =>
        have hz21 : ((w3.alloc (.cells #[.int .u8 R.code, .slice sA R.sets.length sc, .slice oA R.soa.length oc] 38)).alloc (.cells #[.int .u16 0, .bool false, .int .u8 0, .bool false, .bool false, .bool false, .bool false, .bool false, .bool false, .bool false, .int .u8 0, .slice none 0 0, .slice none 0 0, .slice none 0 0, .slice none 0 0, .bool false, .int .u16 0, .int .u8 0, .int .u8 0, .int .u16 0, .slice none 0 0] 33)).heap[w3.heap.size + 1]? = some (.cells #[.int .u16 0, .bool false, .int .u8 0, .bool false, .bool false, .bool false, .bool false, .bool false, .bool false, .bool false, .int .u8 0, .slice none 0 0, .slice none 0 0, .slice none 0 0, .slice none 0 0, .bool false, .int .u16 0, .int .u8 0, .int .u8 0, .int .u16 0, .slice none 0 0] 33) := heap_new_at _ _ _ (by simp)
        have hsz : (w3.alloc (.cells #[.int .u8 R.code, .slice sA R.sets.length sc, .slice oA R.soa.length oc] 38)).heap.size = w3.heap.size + 1 := by simp
        have h21 : (#[.int .u16 x.id, .bool x.qr, .int .u8 x.op, .bool x.aa, .bool x.tc, .bool x.rd, .bool x.ra, .bool x.z, .bool x.ad, .bool x.cd, .int .u8 code, .slice x.qA x.qn x.qc, .slice aA ans.length ac, .slice uA auth.length uc, .slice x.xA x.xn x.xc, .bool x.he, .int .u16 x.es, .int .u8 x.ee, .int .u8 x.ev, .int .u16 x.ef, .slice x.oA x.on x.oc] : Array Value).all (·.oneCell') = true := by simp [Value.oneCell']
        refine wp_region_lit ?_
        refine wpList_load_rowG (by rfl) 33 (.tmp 5) rfl (w.heap.size + 1) rfl 33 _ _ _ (HM.out _ hX3') Tryz.underlying33 rfl (by kernel_rfl) ?_
        refine Go.Great.wpList_allocTo rfl (some 12) rfl (.pointer (some ⟨(w3.alloc (.cells #[.int .u8 R.code, .slice sA R.sets.length sc, .slice oA R.soa.length oc] 38)).heap.size, 0, none⟩)) (.cells #[.int .u16 0, .bool false, .int .u8 0, .bool false, .bool false, .bool false, .bool false, .bool false, .bool false, .bool false, .int .u8 0, .slice none 0 0, .slice none 0 0, .slice none 0 0, .slice none 0 0, .bool false, .int .u16 0, .int .u8 0, .int .u8 0, .int .u16 0, .slice none 0 0] 33) (by kernel_rfl) ?_
        rw [hsz]
        refine Go.wpList_store_rowTo rfl 33 (.tmp 12) (.tmp 44) rfl rfl (w3.heap.size + 1) #[.int .u16 x.id, .bool x.qr, .int .u8 x.op, .bool x.aa, .bool x.tc, .bool x.rd, .bool x.ra, .bool x.z, .bool x.ad, .bool x.cd, .int .u8 code, .slice x.qA x.qn x.qc, .slice aA ans.length ac, .slice uA auth.length uc, .slice x.xA x.xn x.xc, .bool x.he, .int .u16 x.es, .int .u8 x.ee, .int .u8 x.ev, .int .u16 x.ef, .slice x.oA x.on x.oc] rfl rfl 33 #[.int .u16 0, .bool false, .int .u8 0, .bool false, .bool false, .bool false, .bool false, .bool false, .bool false, .bool false, .int .u8 0, .slice none 0 0, .slice none 0 0, .slice none 0 0, .slice none 0 0, .bool false, .int .u16 0, .int .u8 0, .int .u8 0, .int .u16 0, .slice none 0 0] hz21 (by kernel_rfl) rfl h21 ?_
        rw [alloc_setRow (w3.alloc (.cells #[.int .u8 R.code, .slice sA R.sets.length sc, .slice oA R.soa.length oc] 38)) #[.int .u16 0, .bool false, .int .u8 0, .bool false, .bool false, .bool false, .bool false, .bool false, .bool false, .bool false, .int .u8 0, .slice none 0 0, .slice none 0 0, .slice none 0 0, .slice none 0 0, .bool false, .int .u16 0, .int .u8 0, .int .u8 0, .int .u16 0, .slice none 0 0] #[.int .u16 x.id, .bool x.qr, .int .u8 x.op, .bool x.aa, .bool x.tc, .bool x.rd, .bool x.ra, .bool x.z, .bool x.ad, .bool x.cd, .int .u8 code, .slice x.qA x.qn x.qc, .slice aA ans.length ac, .slice uA auth.length uc, .slice x.xA x.xn x.xc, .bool x.he, .int .u16 x.es, .int .u8 x.ee, .int .u8 x.ev, .int .u16 x.ef, .slice x.oA x.on x.oc] 33 (w3.heap.size + 1) hsz.symm]
        refine wpList_nil ?_
        go_wp2_with fail
        go_meet
        exact ⟨rfl, hYe⟩
    case rest =>
    obtain ⟨rfl, rfl⟩ := hcut
    clear hYe cm
    have cmY : Y0.cell? ⟨w.heap.size + 1, 12, none⟩ = some (.slice aA ans.length ac) := heap_cells (HM.out _ hXY) 12
    have zmY : w.heap.size + 1 < Y0.heap.size := Nat.lt_of_lt_of_le zm hXY.size
    go_upto_region 8 with fail
    go_cut [] (fun wx => ∃ (g c5 : Nat), wx.heap[w3.heap.size + 1]? = some (.cells #[.int .u16 x.id, .bool x.qr, .int .u8 x.op, .bool x.aa, .bool x.tc, .bool x.rd, .bool x.ra, .bool x.z, .bool x.ad, .bool x.cd, .int .u8 code, .slice x.qA x.qn x.qc, .slice (some ⟨g, 0, none⟩) ans.length c5, .slice uA auth.length uc, .slice x.xA x.xn x.xc, .bool x.he, .int .u16 x.es, .int .u8 x.ee, .int .u8 x.ev, .int .u16 x.ef, .slice x.oA x.on x.oc] 33) ∧ Own wx Y0.heap.size 48 5 (some ⟨g, 0, none⟩) ans.length c5 (ans.flatMap recCells) ∧ Ext (w3.alloc (.cells #[.int .u8 R.code, .slice sA R.sets.length sc, .slice oA R.soa.length oc] 38)) wx)
    case first =>
      as_aux_lemma =>
      go_wp2_with (
         at_builtin
         refine wpList_app _ rfl (.tmp 45) (.tmp 47) _ rfl Y0.heap.size 48 i0 _ 5 40 Tryz.underlying28 hi0 hz0 hz1 hz2 rfl (by omega) (some ⟨Y0.heap.size, 0, none⟩) 0 0 [] rfl (own_zero Y0 48 5) 0 aA ans.length ac (ans.flatMap recCells) rfl (Hra.out _ (hY0.alloc _)) (recs_one8 ans) (by omega) (by omega) (by simp) ?_
         intro A5 c5 w5 hown5 hg5 hb5 hat5
         rw [Nat.zero_add, List.nil_append] at hown5
         obtain ⟨g, rfl, hgl, hgz, hgf, hgc⟩ := hown5.addr (by omega)
         have hY5 : Ext Y0 w5 := ((Ext.refl Y0).alloc _).then hb5 (Nat.le_refl _)
         have hn5 := (hY5.block _ zN).trans hnY
         have cN : w5.cell? ⟨w3.heap.size + 1, 12, none⟩ = some (.slice aA ans.length ac) := heap_cells hn5 12
         have fN : w5.frozen? ⟨w3.heap.size + 1, 12, none⟩ = false := (hY5.frozen (p := ⟨_, 12, none⟩) zN).trans (fY 12)
         clear hg5 hb5 hat5 hgf hgc)
      go_meet
      exact ⟨g, c5, heap_set hn5 12 _, Own.set_other hown5 (show w3.heap.size + 1 < Y0.heap.size from zN) _, (hvY.trans hY5).setCell (show (w3.alloc (.cells #[.int .u8 R.code, .slice sA R.sets.length sc, .slice oA R.soa.length oc] 38)).heap.size ≤ w3.heap.size + 1 by simp) _⟩
    case rest =>
    obtain ⟨g, c5, hn7, hown7, hv7⟩ := hcut
    obtain ⟨W7, rfl⟩ : ∃ W7 : World, W7 = wc := ⟨_, rfl⟩
    obtain ⟨gq, hgq, hgl, hgz7, hgf7, hgc7⟩ := hown7.addr (by omega)
    injection hgq with hgq
    injection hgq with hgq _ _
    subst hgq
    have hgn : w3.heap.size + 1 ≠ g := by omega
    have hvsz : (w3.alloc (.cells #[.int .u8 R.code, .slice sA R.sets.length sc, .slice oA R.soa.length oc] 38)).heap.size = w3.heap.size + 1 := by simp
    have cn7 : W7.cell? ⟨w3.heap.size + 1, 12, none⟩ = some (.slice (some ⟨g, 0, none⟩) ans.length c5) := heap_cells hn7 12
    have cT : W7.cell? ⟨g, r * 5 + 3, none⟩ = some (.int .u32 xr.ttl) := hgc7 (r * 5 + 3) _ HFG.out
    have fT := hgf7 (r * 5 + 3)
    clear hgc7 hgf7 cmY
    have hX7 := hX3'.trans hv7
    by_cases hcd : xr.ttl ≤ 2147483647 ∧ tl < xr.ttl
    · obtain ⟨hc1, hc2⟩ := hcd
      have hsame := hLo (by omega) hc1
      have hown8 := hown7.stored (r * 5 + 3) (.int .u32 tl) (by omega)
      rw [HFS.out] at hown8
      have hn8 := heap_off hn7 (r * 5 + 3) (.int .u32 tl) hgn
      have hv8 : Ext (w3.alloc (.cells #[.int .u8 R.code, .slice sA R.sets.length sc, .slice oA R.soa.length oc] 38)) (W7.setCell ⟨g, r * 5 + 3, none⟩ (.int .u32 tl)) := hv7.setCell (show _ ≤ g by omega) _
      have c8 := HK.out _ (hX3'.trans hv8)
      clear hLo
      have hr8 : Recs (W7.setCell ⟨g, r * 5 + 3, none⟩ (.int .u32 tl)) Y0.heap.size (.slice (some ⟨g, 0, none⟩) (ans.set r (lowR xr tl)).length c5) (ans.set r (lowR xr tl)) := ⟨_, c5, rfl, by rw [List.length_set]; exact hown8.cap.1, hown8.cap.2, by rw [List.length_set]; exact hown8.rd⟩
      as_aux_lemma =>
        have HVb := HV2.out _ (hwX.trans (hX3'.trans hv8)) (ans.set r (lowR xr tl)) Y0.heap.size (some ⟨g, 0, none⟩) c5 (by rw [List.length_set]) HB2.out.1 HB2.out.2 hr8
        generalize verOf n ty cls code (ans.set r (lowR xr tl)) auth = R2 at *
        go_wp2_with (refine wpList_load_rowG (by rfl) 33 (.tmp 12) rfl (w3.heap.size + 1) rfl 33 _ _ _ (hn8) Tryz.underlying33 rfl (by kernel_rfl) ?_)
        refine HVb.mono ?_; rintro e w9 ⟨vs2, vo2, rfl, hs2, ho2, _, hE9⟩
        obtain ⟨sA2, sc2, rfl, _, _⟩ := hs2.shape
        obtain ⟨oA2, oc2, rfl, _, _⟩ := ho2.shape
        obtain ⟨hcd, hss, hoo, her⟩ := hsame.1
        have htm := hsame.2
        have g2 : ((R2.err : Int) != 0) = false := by first | (rw [her, He.out]; done) | (rw [her, He.out]; rfl)
        have g3 : decide (R.time < R2.time) = false := by first | (simp; done) | (simp; omega)
        have hv9 : Ext (w3.alloc (.cells #[.int .u8 R.code, .slice sA R.sets.length sc, .slice oA R.soa.length oc] 38)) (w9.alloc (.cells #[.int .u8 R2.code, .slice sA2 R2.sets.length sc2, .slice oA2 R2.soa.length oc2] 38)) := (hv8.trans hE9).alloc _
        have kv9 := HV.out _ hv9
        have HSm := Lib.hid (fun V (hV : Ext (w9.alloc (.cells #[.int .u8 R2.code, .slice sA2 R2.sets.length sc2, .slice oA2 R2.soa.length oc2] 38)) V) => ver_same 0 0 R.code R2.code _ _ _ _ R.sets R.soa R2.sets R2.soa V (Hs.out _ (hv9.trans hV)) (Ho.out _ (hv9.trans hV)) (((hs2.ext ((Ext.refl _).alloc _)).ext hV).sets.lower (Nat.zero_le _)) (((ho2.ext ((Ext.refl _).alloc _)).ext hV).sets.lower (Nat.zero_le _)))
        rw [show verSame R.code R.sets R.soa R2.code R2.sets R2.soa = true by rw [hcd, hss, hoo]; unfold verSame; simp] at HSm
        clear hcd hss hoo her htm
        go_wp2_with fail
        refine (HSm.out _ (Ext.refl _)).mono ?_; rintro e w10 ⟨rfl, hE10⟩
        go_wp2_with fail
        go_meet
        exact hv9.trans hE10
    · have hsame := HSm0.out
      have hv8 := hv7
      have hn8 := hn7
      have c8 := HK.out _ (hX3'.trans hv8)
      have hr8 : Recs W7 Y0.heap.size (.slice (some ⟨g, 0, none⟩) ans.length c5) ans := ⟨_, c5, rfl, hown7.cap.1, hown7.cap.2, hown7.rd⟩
      clear hLo
      by_cases hc1 : xr.ttl ≤ 2147483647
      · have hc2 : decide (tl < xr.ttl) = false := by simp; omega
        clear hcd
        as_aux_lemma =>
          have HVb := HV2.out _ (hwX.trans (hX3'.trans hv8)) ans Y0.heap.size (some ⟨g, 0, none⟩) c5 rfl Hbd.out Hok.out hr8
          rw [HR.out] at HVb
          go_wp2_with (refine wpList_load_rowG (by rfl) 33 (.tmp 12) rfl (w3.heap.size + 1) rfl 33 _ _ _ (hn8) Tryz.underlying33 rfl (by kernel_rfl) ?_)
          refine HVb.mono ?_; rintro e w9 ⟨vs2, vo2, rfl, hs2, ho2, _, hE9⟩
          obtain ⟨sA2, sc2, rfl, _, _⟩ := hs2.shape
          obtain ⟨oA2, oc2, rfl, _, _⟩ := ho2.shape
          obtain ⟨hcd, hss, hoo, her⟩ := hsame.1
          have htm := hsame.2
          have g2 : ((R.err : Int) != 0) = false := by first | (rw [her, He.out]; done) | (rw [her, He.out]; rfl)
          have g3 : decide (R.time < R.time) = false := by first | (simp; done) | (simp; omega)
          have hv9 : Ext (w3.alloc (.cells #[.int .u8 R.code, .slice sA R.sets.length sc, .slice oA R.soa.length oc] 38)) (w9.alloc (.cells #[.int .u8 R.code, .slice sA2 R.sets.length sc2, .slice oA2 R.soa.length oc2] 38)) := (hv8.trans hE9).alloc _
          have kv9 := HV.out _ hv9
          have HSm := Lib.hid (fun V (hV : Ext (w9.alloc (.cells #[.int .u8 R.code, .slice sA2 R.sets.length sc2, .slice oA2 R.soa.length oc2] 38)) V) => ver_same 0 0 R.code R.code _ _ _ _ R.sets R.soa R.sets R.soa V (Hs.out _ (hv9.trans hV)) (Ho.out _ (hv9.trans hV)) (((hs2.ext ((Ext.refl _).alloc _)).ext hV).sets.lower (Nat.zero_le _)) (((ho2.ext ((Ext.refl _).alloc _)).ext hV).sets.lower (Nat.zero_le _)))
          rw [show verSame R.code R.sets R.soa R.code R.sets R.soa = true by rw [hcd, hss, hoo]; unfold verSame; simp] at HSm
          clear hcd hss hoo her htm
          go_wp2_with fail
          refine (HSm.out _ (Ext.refl _)).mono ?_; rintro e w10 ⟨rfl, hE10⟩
          go_wp2_with fail
          go_meet
          exact hv9.trans hE10
      · have hc2 : decide (xr.ttl ≤ 2147483647) = false := by simp; omega
        clear hcd hc1
        as_aux_lemma =>
          have HVb := HV2.out _ (hwX.trans (hX3'.trans hv8)) ans Y0.heap.size (some ⟨g, 0, none⟩) c5 rfl Hbd.out Hok.out hr8
          rw [HR.out] at HVb
          go_wp2_with (refine wpList_load_rowG (by rfl) 33 (.tmp 12) rfl (w3.heap.size + 1) rfl 33 _ _ _ (hn8) Tryz.underlying33 rfl (by kernel_rfl) ?_)
          refine HVb.mono ?_; rintro e w9 ⟨vs2, vo2, rfl, hs2, ho2, _, hE9⟩
          obtain ⟨sA2, sc2, rfl, _, _⟩ := hs2.shape
          obtain ⟨oA2, oc2, rfl, _, _⟩ := ho2.shape
          obtain ⟨hcd, hss, hoo, her⟩ := hsame.1
          have htm := hsame.2
          have g2 : ((R.err : Int) != 0) = false := by first | (rw [her, He.out]; done) | (rw [her, He.out]; rfl)
          have g3 : decide (R.time < R.time) = false := by first | (simp; done) | (simp; omega)
          have hv9 : Ext (w3.alloc (.cells #[.int .u8 R.code, .slice sA R.sets.length sc, .slice oA R.soa.length oc] 38)) (w9.alloc (.cells #[.int .u8 R.code, .slice sA2 R.sets.length sc2, .slice oA2 R.soa.length oc2] 38)) := (hv8.trans hE9).alloc _
          have kv9 := HV.out _ hv9
          have HSm := Lib.hid (fun V (hV : Ext (w9.alloc (.cells #[.int .u8 R.code, .slice sA2 R.sets.length sc2, .slice oA2 R.soa.length oc2] 38)) V) => ver_same 0 0 R.code R.code _ _ _ _ R.sets R.soa R.sets R.soa V (Hs.out _ (hv9.trans hV)) (Ho.out _ (hv9.trans hV)) (((hs2.ext ((Ext.refl _).alloc _)).ext hV).sets.lower (Nat.zero_le _)) (((ho2.ext ((Ext.refl _).alloc _)).ext hV).sets.lower (Nat.zero_le _)))
          rw [show verSame R.code R.sets R.soa R.code R.sets R.soa = true by rw [hcd, hss, hoo]; unfold verSame; simp] at HSm
          clear hcd hss hoo her htm
          go_wp2_with fail
          refine (HSm.out _ (Ext.refl _)).mono ?_; rintro e w10 ⟨rfl, hE10⟩
          go_wp2_with fail
          go_meet
          exact hv9.trans hE10
  case rest =>
    obtain ⟨Y, rfl⟩ : ∃ Y : World, Y = wc := ⟨_, rfl⟩
    have hvY := hcut
    have hXY := hX3'.trans hvY
    have hwY := hwX.trans hXY
    have cmY : Y.cell? ⟨w.heap.size + 1, 12, none⟩ = some (.slice aA ans.length ac) := heap_cells (HM.out _ hXY) 12
    clear cm
    go_wp2_with fail
    refine (HG.out _ hwY).mono ?_; rintro e w4 ⟨g4, rfl, ho4, hE4⟩
    obtain ⟨gA, gc, rfl, _, _⟩ := ho4.shape
    clear cmY
    go_wp2_with fail
    go_loopw [18] (fun i wr => ∃ k : Nat, k ≤ R.sets.length ∧ i = .int .i64 k ∧ Ext w4 wr) (fun i _ => R.sets.length - (intOf i).toNat)
    case atStart => exact ⟨0, by omega, rfl, Ext.refl _⟩
    case round =>
      obtain ⟨k, hk, rfl, hE⟩ := hrel
      obtain ⟨wo, rfl⟩ : ∃ wo : World, wo = wr := ⟨_, rfl⟩
      have hvo := hvY.trans (hE4.trans hE)
      have kvo := HV.out _ hvo
      by_cases hlt : k < R.sets.length
      · obtain ⟨ps, A, c, hps, e, hp1, hp2, hrd, hst⟩ := Hs.out _ hvo
        injection e with e hpl _
        subst e
        have hpk : k < ps.length := by omega
        have hp : ps[k]? = some ps[k] := List.getElem?_eq_getElem hpk
        have hpm : ps[k].1 ∈ R.sets := by rw [← hps]; exact List.mem_map.2 ⟨_, List.getElem_mem hpk, rfl⟩
        obtain ⟨xx, hxm, hxe, hxt⟩ := Ht.out He.out _ hpm
        obtain ⟨b, off, rfl, _, hbz, hc⟩ := hrd.2 (by omega)
        obtain ⟨d0, d1, d2, d3, d4⟩ := sets_cells hc k _ hp
        clear d3 d4
        rw [← hxe] at d0 d1 d2
        have hfx := Hgf.out xx hxm
        have HF := Lib.hid (fun V (hV : Ext wo V) => (show Calls Tryz.prog 23 #[.slice gA (groupR ans).length gc, S xx.name, .int .u16 xx.typ, .int .u16 xx.cls] V (fun e w' => ∃ d, e = .returned (.tuple #[setVal xx d, .bool true]) ∧ OStrs w' V.heap.size d xx.data ∧ Ext V w') by
          have h := rrset_find 0 _ (groupR ans) xx.name xx.typ xx.cls V ((ho4.sets.lower (Nat.zero_le _)).ext (hE.trans hV)) Hgb.out (by have := hfx.2; omega)
          rw [hfx.1] at h
          exact h))
        have HS := Lib.hid (show ∀ V, Ext wo V → V.cell? ⟨w3.heap.size, 1, none⟩ = some (.slice (some ⟨b, off, none⟩) R.sets.length sc) ∧ V.cell? ⟨b, off + k * 5, none⟩ = some (S xx.name) ∧ V.cell? ⟨b, off + k * 5 + 1, none⟩ = some (.int .u16 xx.typ) ∧ V.cell? ⟨b, off + k * 5 + 2, none⟩ = some (.int .u16 xx.cls) from fun V hV => ⟨HV.out _ (hvo.trans hV) 1, (hV.cell (p := ⟨b, _, none⟩) hbz).trans d0, (hV.cell (p := ⟨b, _, none⟩) hbz).trans d1, (hV.cell (p := ⟨b, _, none⟩) hbz).trans d2⟩)
        have hxt2 : decide (xx.ttl < R.time) = false := by simp; omega
        have hki : (k : Int) < (R.sets.length : Int) := by omega
        have hk0 : (0 : Int) ≤ (k : Int) := by omega
        clear hps hp1 hp2 hrd hst hp hpm hxe hc d0 d1 d2 hfx hpk hpl
        go_wp2_with fail
        refine wp_region_noPanic ?_
        refine wp_region_tree (S := (fun V => V.cell? ⟨w3.heap.size, 1, none⟩ = some (.slice (some ⟨b, off, none⟩) R.sets.length sc) ∧ V.cell? ⟨b, off + k * 5, none⟩ = some (S xx.name) ∧ V.cell? ⟨b, off + k * 5 + 1, none⟩ = some (.int .u16 xx.typ) ∧ V.cell? ⟨b, off + k * 5 + 2, none⟩ = some (.int .u16 xx.cls))) (.take 0 (.take 1 (.take 2 (.take 3 (.take 4 (.take 5 (.take 6 (.take 7 (.take 8 (.take 9 (.take 10 (.take 11 (.take 12 (.take 13 (.take 14 (.take 15 (.take 16 (.take 17 (.take 18 (.run2 19 (.take 20 (.take 21 (.take 22 (.run 23 (.run 24 (.take 25 (.done))))))) 23 (.run 19 (.take 20 (.take 21 (.take 22 (.run 24 (.take 25 (.done))))))))))))))))))))))))))) (by kernel_rfl) (by kernel_rfl) (fun _ _ _ _ _ h => h) (HS.out _ ((Ext.refl wo).drew)) ?_
        repeat ((with_reducible refine treeIs ?_); first
          | (refine treeTake (v := ?_) (by rfl) (by rfl) ?_ ?_; rotate_left; (focus (intro V hV; (try dsimp only at hV); (go_simp <;> with_reducible rfl))); (try simp only [Act.put, List.setIfInBounds_toArray, List.set_cons_zero, List.set_cons_succ]))
          | (refine treeSkip (by rfl) (by rfl) ?_; (try simp only [Act.put, List.setIfInBounds_toArray, List.set_cons_zero, List.set_cons_succ])))
        refine treeRun2 ?_ ?_
        · refine treeRun (by rfl) (fun K hK => ?_)
          go_simp
          refine (HF.out _ ((Ext.refl wo).drew)).mono ?_; rintro e y1 ⟨dv, rfl, ⟨dA, dc, rfl, hod⟩, hF1⟩
          have hFo : Ext wo y1 := Ext.trans ((Ext.refl wo).drew) hF1
          have hFs : wo.heap.size ≤ y1.heap.size := hFo.size
          refine hK.out _ _ ?_ ?_
          · exact HS.out _ hFo
          clear hK K
          (try simp only [Act.put, List.setIfInBounds_toArray, List.set_cons_zero, List.set_cons_succ])
          repeat ((with_reducible refine treeIs ?_); first
            | (refine treeTake (v := ?_) (by rfl) (by rfl) ?_ ?_; rotate_left; (focus (intro V hV; (try dsimp only at hV); (go_simp <;> with_reducible rfl))); (try simp only [Act.put, List.setIfInBounds_toArray, List.set_cons_zero, List.set_cons_succ]))
            | (refine treeSkip (by rfl) (by rfl) ?_; (try simp only [Act.put, List.setIfInBounds_toArray, List.set_cons_zero, List.set_cons_succ])))
          refine treeRun (by rfl) (fun K hK => ?_)
          go_simp
          refine hK.out _ _ ?_ ?_
          · exact HS.out _ (by (repeat (first | with_reducible exact Ext.refl _ | with_reducible assumption | with_reducible refine Ext.alloc ?_ _ | with_reducible refine Ext.drewN ?_ _ | with_reducible refine Ext.drew ?_ | (with_reducible refine Ext.setCell ?_ ?hp _; case hp => (simp <;> omega)))))
          clear hK K
          (try simp only [Act.put, List.setIfInBounds_toArray, List.set_cons_zero, List.set_cons_succ])
          refine treeRun (by rfl) (fun K hK => ?_)
          go_simp
          refine hK.out _ _ ?_ ?_
          · exact HS.out _ (by (repeat (first | with_reducible exact Ext.refl _ | with_reducible assumption | with_reducible refine Ext.alloc ?_ _ | with_reducible refine Ext.drewN ?_ _ | with_reducible refine Ext.drew ?_ | (with_reducible refine Ext.setCell ?_ ?hp _; case hp => (simp <;> omega)))))
          clear hK K
          (try simp only [Act.put, List.setIfInBounds_toArray, List.set_cons_zero, List.set_cons_succ])
          repeat ((with_reducible refine treeIs ?_); first
            | (refine treeTake (v := ?_) (by rfl) (by rfl) ?_ ?_; rotate_left; (focus (intro V hV; (try dsimp only at hV); (go_simp <;> with_reducible rfl))); (try simp only [Act.put, List.setIfInBounds_toArray, List.set_cons_zero, List.set_cons_succ]))
            | (refine treeSkip (by rfl) (by rfl) ?_; (try simp only [Act.put, List.setIfInBounds_toArray, List.set_cons_zero, List.set_cons_succ])))
          refine treeDone ?_
          refine NoPanic.normal ?_
          go_wp2_with fail
          go_roundw
          case rel => exact ⟨k + 1, by omega, by go_num, hE.trans (by (repeat (first | with_reducible exact Ext.refl _ | with_reducible assumption | with_reducible refine Ext.alloc ?_ _ | with_reducible refine Ext.drewN ?_ _ | with_reducible refine Ext.drew ?_ | (with_reducible refine Ext.setCell ?_ ?hp _; case hp => (simp <;> omega)))))⟩
          case measure => simp [intOf]; omega
        · refine treeRun (by rfl) (fun K hK => ?_)
          go_simp
          refine hK.out _ _ ?_ ?_
          · exact HS.out _ (by (repeat (first | with_reducible exact Ext.refl _ | with_reducible assumption | with_reducible refine Ext.alloc ?_ _ | with_reducible refine Ext.drewN ?_ _ | with_reducible refine Ext.drew ?_ | (with_reducible refine Ext.setCell ?_ ?hp _; case hp => (simp <;> omega)))))
          clear hK K
          (try simp only [Act.put, List.setIfInBounds_toArray, List.set_cons_zero, List.set_cons_succ])
          refine treeRun (by rfl) (fun K hK => ?_)
          go_simp
          refine (HF.out _ (Ext.alloc ((Ext.refl wo).drew) _)).mono ?_; rintro e y1 ⟨dv, rfl, ⟨dA, dc, rfl, hod⟩, hF1⟩
          have hFo : Ext wo y1 := Ext.trans (Ext.alloc ((Ext.refl wo).drew) _) hF1
          have hFs : wo.heap.size ≤ y1.heap.size := hFo.size
          obtain ⟨hbb, hbf, hbz⟩ := ext_new_at (wo.heap.size) (by simp) hF1
          refine hK.out _ _ ?_ ?_
          · exact HS.out _ hFo
          clear hK K
          (try simp only [Act.put, List.setIfInBounds_toArray, List.set_cons_zero, List.set_cons_succ])
          repeat ((with_reducible refine treeIs ?_); first
            | (refine treeTake (v := ?_) (by rfl) (by rfl) ?_ ?_; rotate_left; (focus (intro V hV; (try dsimp only at hV); (go_simp <;> with_reducible rfl))); (try simp only [Act.put, List.setIfInBounds_toArray, List.set_cons_zero, List.set_cons_succ]))
            | (refine treeSkip (by rfl) (by rfl) ?_; (try simp only [Act.put, List.setIfInBounds_toArray, List.set_cons_zero, List.set_cons_succ])))
          refine treeRun (by rfl) (fun K hK => ?_)
          go_simp
          refine hK.out _ _ ?_ ?_
          · exact HS.out _ (by (repeat (first | with_reducible exact Ext.refl _ | with_reducible assumption | with_reducible refine Ext.alloc ?_ _ | with_reducible refine Ext.drewN ?_ _ | with_reducible refine Ext.drew ?_ | (with_reducible refine Ext.setCell ?_ ?hp _; case hp => (simp <;> omega)))))
          clear hK K
          (try simp only [Act.put, List.setIfInBounds_toArray, List.set_cons_zero, List.set_cons_succ])
          repeat ((with_reducible refine treeIs ?_); first
            | (refine treeTake (v := ?_) (by rfl) (by rfl) ?_ ?_; rotate_left; (focus (intro V hV; (try dsimp only at hV); (go_simp <;> with_reducible rfl))); (try simp only [Act.put, List.setIfInBounds_toArray, List.set_cons_zero, List.set_cons_succ]))
            | (refine treeSkip (by rfl) (by rfl) ?_; (try simp only [Act.put, List.setIfInBounds_toArray, List.set_cons_zero, List.set_cons_succ])))
          refine treeDone ?_
          refine NoPanic.normal ?_
          go_wp2_with fail
          go_roundw
          case rel => exact ⟨k + 1, by omega, by go_num, hE.trans (by (repeat (first | with_reducible exact Ext.refl _ | with_reducible assumption | with_reducible refine Ext.alloc ?_ _ | with_reducible refine Ext.drewN ?_ _ | with_reducible refine Ext.drew ?_ | (with_reducible refine Ext.setCell ?_ ?hp _; case hp => (simp <;> omega)))))⟩
          case measure => simp [intOf]; omega
      · have hki : ¬ (k : Int) < (R.sets.length : Int) := by omega
        go_wp2_with fail
        go_ret
        exact ⟨rfl, hwY.trans (hE4.trans hE)⟩
end Go.Proofs.YtbdjoihckienbaaGreatDoor
namespace Go.Proofs.YtbdjoihckienbaaGreatDoor
set_option linter.unusedSimpArgs false
set_option linter.unusedVariables false
open Go.ChangeShapes Go.WideShapes Go.ChangeAt Go.RowKit
set_option maxRecDepth 100000

theorem verdictTime_contract (H : Type) (enc : TypeId × Value → H) (W : World) (base : Nat) (args : Array Value) (ds gs : List (DataW H)) (before : List MemPlace)
    (hval : ∀ (j : Nat) t v, Tryz.f7.params[j]? = some t → args[j]? = some v → Value.okWide Tryz.prog W .any base t v)
    (hW : DataW.Whole enc Tryz.prog Tryz.f7.params.toList Rows.verdictTimeSpec.vars false W args.toList ds gs before)
    (hsz : (DataW.weightsEach Tryz.prog (Tryz.f7.params.toList ++ (OpenSpec.ofChange Rows.verdictTimeSpec).bare.plain.varTypes Tryz.prog) (ds ++ gs)).all (· ≤ reachBytes) = true)
    (hL : laidMetH Tryz.prog laidL W) :
    Calls Tryz.prog 7 args W fun e W' => ∃ v, e = .returned v ∧ Rows.verdictTimeSpec.post enc Tryz.prog Tryz.f7 false true false false W args v W' := by
  have hW' := hW
  have hp : ∀ t ∈ Tryz.f7.params.toList, Tryz.prog.readableRec t = true ∧ t < Tryz.prog.types.size := by
    have h : (Tryz.f7.params.toList.all fun t => Tryz.prog.readableRec t && decide (t < Tryz.prog.types.size)) = true := by kernel_rfl
    simpa only [List.all_eq_true, Bool.and_eq_true, decide_eq_true_eq] using h
  have hg := laid_of hL
  obtain ⟨p, q, hA0, hV, rfl, _, _⟩ := hW
  have hA : DataW.TrodAll enc Tryz.prog W 0 (fun _ => true) true Tryz.f7.params.toList args.toList ds p := hA0
  clear hA0
  rw [Tryz.params7] at hA hval hsz
  obtain ⟨rfl, rfl⟩ := trodVars_none hV
  obtain ⟨v0, v1, v2, v3, d0, d1, d2, d3, p0, p1, p2, p3, rfl, rfl, rfl, h0, h1, h2, h3⟩ := trodAll_four hA
  obtain ⟨n1, ty1, cl1, rfl, hn1, _, _⟩ := open_question (hval 0 _ _ rfl rfl) h0
  obtain ⟨x1, code1, aA1, ac1, uA1, uc1, ans1, auth1, ext1, rfl, ha1, hu1, hx1, hao1, huo1, hxo1, hcd1, hq1⟩ := open_msg (hval 1 _ _ rfl rfl) h1
  obtain ⟨wh, rfl, hb1, hb2⟩ := open_i64 (hval 2 _ _ rfl rfl) h2
  obtain ⟨tl, rfl, ht1, ht2⟩ := open_u32 (hval 3 _ _ rfl rfl) h3
  refine (law_verdictTime x1 n1 ty1 cl1 code1 aA1 ac1 uA1 uc1 ans1 auth1 ext1 wh tl W hg ha1 hu1 hx1 hao1 huo1 hxo1 hn1 hq1 hb1 hb2 ht1 ht2).mono ?_
  rintro e W' ⟨rfl, hE⟩
  exact ⟨_, rfl, post_true laid_out rfl (by kernel_rfl) Tryz.underlying4 hp hW' rfl hE⟩

theorem verdictTime_reads (os : Os) {H : Type} (enc : TypeId × Value → H) : ∃ places, DataW.whole enc Tryz.prog ((laidWorld os).forCall (fun _ _ => 0) ⟨#[], #[.agg #[.string ⟨#[]⟩, .int .u16 0, .int .u16 0], .agg #[.int .u16 0, .bool false, .int .u8 0, .bool false, .bool false, .bool false, .bool false, .bool false, .bool false, .bool false, .int .u8 0, .slice none 0 0, .slice none 0 0, .slice none 0 0, .slice none 0 0, .bool false, .int .u16 0, .int .u8 0, .int .u8 0, .int .u16 0, .slice none 0 0], .int .i64 0, .int .u32 0], []⟩).memory Tryz.f7.params.toList Rows.verdictTimeSpec.vars false (#[.agg #[.string ⟨#[]⟩, .int .u16 0, .int .u16 0], .agg #[.int .u16 0, .bool false, .int .u8 0, .bool false, .bool false, .bool false, .bool false, .bool false, .bool false, .bool false, .int .u8 0, .slice none 0 0, .slice none 0 0, .slice none 0 0, .slice none 0 0, .bool false, .int .u16 0, .int .u8 0, .int .u8 0, .int .u16 0, .slice none 0 0], .int .i64 0, .int .u32 0] : Array Value).toList 8 = some ([.agg [.lit (.string []), .lit (.int .u16 0), .lit (.int .u16 0)], .agg [.agg [.lit (.int .u16 0), .lit (.bool false), .lit (.int .u8 0), .lit (.bool false), .lit (.bool false), .lit (.bool false), .lit (.bool false), .lit (.bool false), .lit (.bool false), .lit (.bool false), .lit (.int .u8 0)], .nil, .nil, .nil, .nil, .lit (.bool false), .agg [.lit (.int .u16 0), .lit (.int .u8 0), .lit (.int .u8 0), .lit (.int .u16 0), .nil]], .lit (.int .i64 0), .lit (.int .u32 0)], [], places) :=
  ⟨[], by kernel_rfl⟩
theorem verdictTime_lifted (os : Os) (started : os.Started) (H : Type) (enc : TypeId × Value → H) (F : Stop.Interp) :
    ReturnsInHanded {} Tryz.checked os 7 .any ((OpenSpec.ofChange Rows.verdictTimeSpec).preRow enc Tryz.prog Tryz.f7 Rows.verdictTimeRow.domain false Rows.verdictTimeRow.laid) (((OpenSpec.ofChange Rows.verdictTimeSpec).at F).post enc Tryz.prog Tryz.f7 false true false false) := by
  obtain ⟨places, hx⟩ := verdictTime_reads os enc
  refine returnsInHanded_of_row (C := Tryz.checked) (s := OpenSpec.ofChange Rows.verdictTimeSpec) own_knob started (by kernel_rfl) Tryz.func7
    (witness_row_at (enc := enc) (C := Tryz.checked) false (laidWorld os) #[.agg #[.string ⟨#[]⟩, .int .u16 0, .int .u16 0], .agg #[.int .u16 0, .bool false, .int .u8 0, .bool false, .bool false, .bool false, .bool false, .bool false, .bool false, .bool false, .int .u8 0, .slice none 0 0, .slice none 0 0, .slice none 0 0, .slice none 0 0, .bool false, .int .u16 0, .int .u8 0, .int .u8 0, .int .u16 0, .slice none 0 0], .int .i64 0, .int .u32 0] rfl (by kernel_rfl) (by kernel_rfl) (by kernel_rfl)
      (OpenSpec.preRow_of_cond 8 hx (by kernel_rfl) (fun k hk => by cases hk) (by kernel_rfl) (laid_met os _))) ?_
  intro W base args ds gs before hval hW _ _ hsz hL _ _
  exact verdictTime_contract H enc W base args ds gs before hval hW hsz hL
theorem verdictTime_said : Rows.VerdictTimeSaid :=
  OpenClaim.holds_of_cond 7 Tryz.f7 rfl rfl rfl rfl rfl rfl rfl ⟨rfl, rfl, rfl, rfl, rfl⟩ rfl rfl rfl rfl rfl (by kernel_rfl) Tryz.func7 (by kernel_rfl)
    (of_decide_eq_true (by kernel_rfl)) (by unfold Func.isWrapper; first | (rw [if_pos (by decide +kernel)]; kernel_rfl) | (rw [if_neg (by decide +kernel)]; exact ⟨rfl, rfl⟩))
    (fun os started H enc _ F => by rw [OpenClaim.pre_eq_preRow]; exact verdictTime_lifted os started H enc F)
/-- THE CARD. -/
theorem verdictTime_card : Rows.VerdictTimeCardSaid :=
  Claim7.holds_tied_plain_at .later [] _ _ _ _ verdictTime_said (fun _ h => by cases h) (by kernel_rfl) (fun _ h => by cases h) verdictTime_row_tie rfl ⟨rfl, rfl⟩ (by kernel_rfl) rfl
    (fun f fn hf hfn => by
      obtain rfl : f = 7 := Option.some.inj ((show Tryz.prog.funcNamed Rows.verdictTimeRow.func = some 7 by kernel_rfl).symm.trans hf) |>.symm
      obtain rfl : fn = Tryz.f7 := (Option.some.inj (Tryz.func7.symm.trans hfn)).symm
      refine ⟨by kernel_rfl, fun j t ht => ?_⟩
      have h : (Tryz.f7.params.toList.all fun t => !Tryz.prog.wantsStandIn t) = true := by kernel_rfl
      have h2 := List.all_eq_true.1 h t (by simpa using Array.mem_of_getElem? ht)
      exact (by simpa using h2 : Tryz.prog.wantsStandIn t = false))
    (by kernel_rfl)
#print axioms verdictTime_card
end Go.Proofs.YtbdjoihckienbaaGreatDoor
