/- hustingslaw11.VerdictOf returns true for every input, and every argument reads behind the call as it read before; the listed variable (errors.errorType) is tied to the program's text. No condition of ours. -/
import Derived.Test.YtbdjoihckienbaaGreatDoorBx
import Derived.Test.YtbdjoihckienbaaGreatDoorBls
import Derived.Test.YtbdjoihckienbaaGreatDoorBu
import Derived.Test.YtbdjoihckienbaaGreatDoorBro
import Derived.Test.YtbdjoihckienbaaGreatDoorBrl
import Derived.Test.YtbdjoihckienbaaGreatDoorBn
import Derived.Test.YtbdjoihckienbaaGreatDoorBy
namespace Go.Proofs.YtbdjoihckienbaaGreatDoor
set_option linter.unusedSimpArgs false
set_option linter.unusedVariables false
open Go.RowKit
set_option maxRecDepth 100000

set_option maxHeartbeats 8000000 in
theorem law_verdictOf (x : MsgX) (n : List UInt8) (ty cls code : Int) (aA : Option Addr) (ac : Nat) (uA : Option Addr) (uc : Nat) (ans auth ext : List RecD) (w : World) (hg : Laid w) (ha : Recs w 0 (.slice aA ans.length ac) ans) (hu : Recs w 0 (.slice uA auth.length uc) auth) (hx : Recs w 0 (.slice x.xA x.xn x.xc) ext) (hao : ∀ r ∈ ans, RecOk r) (huo : ∀ r ∈ auth, RecOk r) (hxo : ∀ r ∈ ext, RecOk r) (hn : n.length ≤ maxLen) (hq : x.qn ≤ maxLen) :
    Calls Tryz.prog 3 #[.agg #[S n, .int .u16 ty, .int .u16 cls], msgV x code (.slice aA ans.length ac) (.slice uA auth.length uc)] w fun e w' => e = .returned (.bool true) ∧ Ext w w' := by
  have HL := Lib.hid (fun W (hW : Ext w W) => law11_large x n ty cls code 0 aA ac uA uc ans auth ext W (ha.ext hW) (hu.ext hW) (hx.ext hW) hao huo hxo hn hq)
  have HA := Lib.hid (fun W (hW : Ext w W) => law11_awake W (hg.ext hW))
  rcases hb : largeM n ans auth ext x.qn with _ | _
  rotate_left
  · rw [hb] at HL
    clear hb
    obtain ⟨X, hX⟩ : ∃ X, X = ((w.alloc (.cells #[S n, .int .u16 ty, .int .u16 cls] 24)).alloc (.cells #[.int .u16 x.id, .bool x.qr, .int .u8 x.op, .bool x.aa, .bool x.tc, .bool x.rd, .bool x.ra, .bool x.z, .bool x.ad, .bool x.cd, .int .u8 code, .slice x.qA x.qn x.qc, .slice aA ans.length ac, .slice uA auth.length uc, .slice x.xA x.xn x.xc, .bool x.he, .int .u16 x.es, .int .u8 x.ee, .int .u8 x.ev, .int .u16 x.ef, .slice x.oA x.on x.oc] 33)) := ⟨_, rfl⟩
    obtain ⟨kq, _, zq⟩ := ext_new_at (w.heap.size) rfl ((Ext.refl (w.alloc (.cells #[S n, .int .u16 ty, .int .u16 cls] 24))).alloc (.cells #[.int .u16 x.id, .bool x.qr, .int .u8 x.op, .bool x.aa, .bool x.tc, .bool x.rd, .bool x.ra, .bool x.z, .bool x.ad, .bool x.cd, .int .u8 code, .slice x.qA x.qn x.qc, .slice aA ans.length ac, .slice uA auth.length uc, .slice x.xA x.xn x.xc, .bool x.he, .int .u16 x.es, .int .u8 x.ee, .int .u8 x.ev, .int .u16 x.ef, .slice x.oA x.on x.oc] 33))
    have zm : w.heap.size + 1 < ((w.alloc (.cells #[S n, .int .u16 ty, .int .u16 cls] 24)).alloc (.cells #[.int .u16 x.id, .bool x.qr, .int .u8 x.op, .bool x.aa, .bool x.tc, .bool x.rd, .bool x.ra, .bool x.z, .bool x.ad, .bool x.cd, .int .u8 code, .slice x.qA x.qn x.qc, .slice aA ans.length ac, .slice uA auth.length uc, .slice x.xA x.xn x.xc, .bool x.he, .int .u16 x.es, .int .u8 x.ee, .int .u8 x.ev, .int .u16 x.ef, .slice x.oA x.on x.oc] 33)).heap.size := by simp
    have hkm : ((w.alloc (.cells #[S n, .int .u16 ty, .int .u16 cls] 24)).alloc (.cells #[.int .u16 x.id, .bool x.qr, .int .u8 x.op, .bool x.aa, .bool x.tc, .bool x.rd, .bool x.ra, .bool x.z, .bool x.ad, .bool x.cd, .int .u8 code, .slice x.qA x.qn x.qc, .slice aA ans.length ac, .slice uA auth.length uc, .slice x.xA x.xn x.xc, .bool x.he, .int .u16 x.es, .int .u8 x.ee, .int .u8 x.ev, .int .u16 x.ef, .slice x.oA x.on x.oc] 33)).heap[w.heap.size + 1]? = some (.cells #[.int .u16 x.id, .bool x.qr, .int .u8 x.op, .bool x.aa, .bool x.tc, .bool x.rd, .bool x.ra, .bool x.z, .bool x.ad, .bool x.cd, .int .u8 code, .slice x.qA x.qn x.qc, .slice aA ans.length ac, .slice uA auth.length uc, .slice x.xA x.xn x.xc, .bool x.he, .int .u16 x.es, .int .u8 x.ee, .int .u8 x.ev, .int .u16 x.ef, .slice x.oA x.on x.oc] 33) := heap_new_at (w.alloc (.cells #[S n, .int .u16 ty, .int .u16 cls] 24)) _ (w.heap.size + 1) (by simp)
    rw [← hX] at kq zq zm hkm
    have hwX : Ext w X := by rw [hX]; exact ((Ext.refl _).alloc _).alloc _
    have HK := Lib.hid (show ∀ V, Ext X V → (∀ j, V.cell? ⟨w.heap.size, j, none⟩ = #[S n, .int .u16 ty, .int .u16 cls][j]?) from fun V hV => fun j => (hV.cell (p := ⟨w.heap.size, j, none⟩) zq).trans (kq j))
    have HM := Lib.hid (show ∀ V, Ext X V → V.heap[w.heap.size + 1]? = some (.cells #[.int .u16 x.id, .bool x.qr, .int .u8 x.op, .bool x.aa, .bool x.tc, .bool x.rd, .bool x.ra, .bool x.z, .bool x.ad, .bool x.cd, .int .u8 code, .slice x.qA x.qn x.qc, .slice aA ans.length ac, .slice uA auth.length uc, .slice x.xA x.xn x.xc, .bool x.he, .int .u16 x.es, .int .u8 x.ee, .int .u8 x.ev, .int .u16 x.ef, .slice x.oA x.on x.oc] 33) from fun V hV => (hV.block _ zm).trans hkm)
    clear hkm kq
    have c0 := HK.out X (Ext.refl _)
    go_enter Tryz.func3, Tryz.ntmps3
    go_upto_region 1 with fail
    rw [← hX]
    clear hX
    go_wp2_with (refine wpList_load_rowG (by rfl) 33 (.tmp 3) rfl (w.heap.size + 1) rfl 33 _ _ _ (HM.out _ (Ext.refl _)) Tryz.underlying33 rfl (by kernel_rfl) ?_)
    refine (HL.out _ hwX).mono ?_; rintro e w1 ⟨rfl, hE1⟩
    go_wp2_with fail
    refine (HA.out _ (hwX.trans hE1)).mono ?_; rintro e w2 ⟨rfl, hE2⟩
    go_wp2_with fail
    go_ret
    exact ⟨rfl, (hwX.trans hE1).trans hE2⟩
  obtain ⟨s1, s2, s3, _, _⟩ := largeM_no hb
  rw [hb] at HL
  have HV1 := Lib.hid (fun W (hW : Ext w W) => ver_of x n ty cls code 0 aA ac uA uc ans auth W (hg.ext hW) (ha.ext hW) (hu.ext hW) (recsBd_of s2) (recsBd_of s3) (recsOk_of hao) (recsOk_of huo) (by omega))
  have HRo := Lib.hid (fun W (hW : Ext w W) => ref11_of x n ty cls code 0 aA ac uA uc ans auth W (ha.ext hW) (hu.ext hW) (recsBd_of s2) (recsBd_of s3) (fun r hr => (huo r hr).2.2.2.2.1) (by omega))
  generalize verOf n ty cls code ans auth = R at *
  clear hb s1 s2 s3
  obtain ⟨X, hX⟩ : ∃ X, X = ((w.alloc (.cells #[S n, .int .u16 ty, .int .u16 cls] 24)).alloc (.cells #[.int .u16 x.id, .bool x.qr, .int .u8 x.op, .bool x.aa, .bool x.tc, .bool x.rd, .bool x.ra, .bool x.z, .bool x.ad, .bool x.cd, .int .u8 code, .slice x.qA x.qn x.qc, .slice aA ans.length ac, .slice uA auth.length uc, .slice x.xA x.xn x.xc, .bool x.he, .int .u16 x.es, .int .u8 x.ee, .int .u8 x.ev, .int .u16 x.ef, .slice x.oA x.on x.oc] 33)) := ⟨_, rfl⟩
  obtain ⟨kq, _, zq⟩ := ext_new_at (w.heap.size) rfl ((Ext.refl (w.alloc (.cells #[S n, .int .u16 ty, .int .u16 cls] 24))).alloc (.cells #[.int .u16 x.id, .bool x.qr, .int .u8 x.op, .bool x.aa, .bool x.tc, .bool x.rd, .bool x.ra, .bool x.z, .bool x.ad, .bool x.cd, .int .u8 code, .slice x.qA x.qn x.qc, .slice aA ans.length ac, .slice uA auth.length uc, .slice x.xA x.xn x.xc, .bool x.he, .int .u16 x.es, .int .u8 x.ee, .int .u8 x.ev, .int .u16 x.ef, .slice x.oA x.on x.oc] 33))
  have zm : w.heap.size + 1 < ((w.alloc (.cells #[S n, .int .u16 ty, .int .u16 cls] 24)).alloc (.cells #[.int .u16 x.id, .bool x.qr, .int .u8 x.op, .bool x.aa, .bool x.tc, .bool x.rd, .bool x.ra, .bool x.z, .bool x.ad, .bool x.cd, .int .u8 code, .slice x.qA x.qn x.qc, .slice aA ans.length ac, .slice uA auth.length uc, .slice x.xA x.xn x.xc, .bool x.he, .int .u16 x.es, .int .u8 x.ee, .int .u8 x.ev, .int .u16 x.ef, .slice x.oA x.on x.oc] 33)).heap.size := by simp
  have hkm : ((w.alloc (.cells #[S n, .int .u16 ty, .int .u16 cls] 24)).alloc (.cells #[.int .u16 x.id, .bool x.qr, .int .u8 x.op, .bool x.aa, .bool x.tc, .bool x.rd, .bool x.ra, .bool x.z, .bool x.ad, .bool x.cd, .int .u8 code, .slice x.qA x.qn x.qc, .slice aA ans.length ac, .slice uA auth.length uc, .slice x.xA x.xn x.xc, .bool x.he, .int .u16 x.es, .int .u8 x.ee, .int .u8 x.ev, .int .u16 x.ef, .slice x.oA x.on x.oc] 33)).heap[w.heap.size + 1]? = some (.cells #[.int .u16 x.id, .bool x.qr, .int .u8 x.op, .bool x.aa, .bool x.tc, .bool x.rd, .bool x.ra, .bool x.z, .bool x.ad, .bool x.cd, .int .u8 code, .slice x.qA x.qn x.qc, .slice aA ans.length ac, .slice uA auth.length uc, .slice x.xA x.xn x.xc, .bool x.he, .int .u16 x.es, .int .u8 x.ee, .int .u8 x.ev, .int .u16 x.ef, .slice x.oA x.on x.oc] 33) := heap_new_at (w.alloc (.cells #[S n, .int .u16 ty, .int .u16 cls] 24)) _ (w.heap.size + 1) (by simp)
  rw [← hX] at kq zq zm hkm
  have hwX : Ext w X := by rw [hX]; exact ((Ext.refl _).alloc _).alloc _
  have HK := Lib.hid (show ∀ V, Ext X V → (∀ j, V.cell? ⟨w.heap.size, j, none⟩ = #[S n, .int .u16 ty, .int .u16 cls][j]?) from fun V hV => fun j => (hV.cell (p := ⟨w.heap.size, j, none⟩) zq).trans (kq j))
  have HM := Lib.hid (show ∀ V, Ext X V → V.heap[w.heap.size + 1]? = some (.cells #[.int .u16 x.id, .bool x.qr, .int .u8 x.op, .bool x.aa, .bool x.tc, .bool x.rd, .bool x.ra, .bool x.z, .bool x.ad, .bool x.cd, .int .u8 code, .slice x.qA x.qn x.qc, .slice aA ans.length ac, .slice uA auth.length uc, .slice x.xA x.xn x.xc, .bool x.he, .int .u16 x.es, .int .u8 x.ee, .int .u8 x.ev, .int .u16 x.ef, .slice x.oA x.on x.oc] 33) from fun V hV => (hV.block _ zm).trans hkm)
  clear hkm kq
  have c0 := HK.out X (Ext.refl _)
  go_enter Tryz.func3, Tryz.ntmps3
  go_upto_region 1 with fail
  rw [← hX]
  clear hX
  go_wp2_with (refine wpList_load_rowG (by rfl) 33 (.tmp 3) rfl (w.heap.size + 1) rfl 33 _ _ _ (HM.out _ (Ext.refl _)) Tryz.underlying33 rfl (by kernel_rfl) ?_)
  refine (HL.out _ hwX).mono ?_; rintro e w1 ⟨rfl, hE1⟩
  have c1 := HK.out w1 hE1
  clear c0
  go_wp2_with (refine wpList_load_rowG (by rfl) 33 (.tmp 3) rfl (w.heap.size + 1) rfl 33 _ _ _ (HM.out _ hE1) Tryz.underlying33 rfl (by kernel_rfl) ?_)
  refine (HRo.out _ (hwX.trans hE1)).mono ?_; rintro e w3 ⟨vs, vo, rfl, hs, ho, hE3⟩
  obtain ⟨_, sA, sc, rfl, _, _, _, _, _⟩ := hs.shapeR
  obtain ⟨_, oA, oc, rfl, _, _, _, _, _⟩ := ho.shapeR
  have hX3 := hE1.trans hE3
  obtain ⟨Y, hY⟩ : ∃ Y, Y = w3.alloc (.cells #[.int .u8 R.code, .slice sA R.sets.length sc, .slice oA R.soa.length oc] 38) := ⟨_, rfl⟩
  obtain ⟨kv, _, zv⟩ := ext_new (Ext.refl (w3.alloc (.cells #[.int .u8 R.code, .slice sA R.sets.length sc, .slice oA R.soa.length oc] 38)))
  rw [← hY] at kv zv
  have h3Y : Ext w3 Y := by rw [hY]; exact (Ext.refl _).alloc _
  have hXY := hX3.trans h3Y
  have hwY := hwX.trans hXY
  have HV := Lib.hid (show ∀ V, Ext Y V → ∀ j, V.cell? ⟨w3.heap.size, j, none⟩ = #[.int .u8 R.code, .slice sA R.sets.length sc, .slice oA R.soa.length oc][j]? from fun V hV j => (hV.cell (p := ⟨w3.heap.size, j, none⟩) zv).trans (kv j))
  have Hs := Lib.hid (show ∀ V, Ext Y V → Sets V 0 _ R.sets from fun V hV => hs.ext (h3Y.trans hV))
  have Ho := Lib.hid (show ∀ V, Ext Y V → Sets V 0 _ R.soa from fun V hV => ho.ext (h3Y.trans hV))
  clear c1 hs ho kv
  go_upto_region 4 with fail
  rw [← hY]
  clear hY
  go_wp2_with fail
  go_loopw [8] (fun i wr => ∃ k : Nat, k ≤ 2 ∧ i = .int .i64 k ∧ Ext Y wr) (fun i _ => 2 - (intOf i).toNat)
  case atStart => exact ⟨0, by omega, rfl, Ext.refl _⟩
  case round =>
    obtain ⟨k, hk, rfl, hEx⟩ := hrel
    obtain ⟨wo, rfl⟩ : ∃ wo : World, wo = wr := ⟨_, rfl⟩
    have hXo := hXY.trans hEx
    have hwo := hwX.trans hXo
    by_cases hlt : k < 2
    · have hki : (k : Int) < 2 := by omega
      have c0 := HK.out _ hXo
      go_wp2_with (refine wpList_load_rowG (by rfl) 33 (.tmp 3) rfl (w.heap.size + 1) rfl 33 _ _ _ (HM.out _ hXo) Tryz.underlying33 rfl (by kernel_rfl) ?_)
      refine (HV1.out _ hwo).mono ?_; rintro e w5 ⟨vs2, vo2, rfl, hs2, ho2, hsep, hE5⟩
      obtain ⟨sA2, sc2, rfl, _, _⟩ := hs2.shape
      obtain ⟨oA2, oc2, rfl, _, _⟩ := ho2.shape
      have hE5' : Ext wo (w5.alloc (.cells #[.int .u8 R.code, .slice sA2 R.sets.length sc2, .slice oA2 R.soa.length oc2] 38)) := hE5.alloc _
      have kv5 := HV.out _ (hEx.trans hE5')
      have HSm := Lib.hid (fun V (hV : Ext (w5.alloc (.cells #[.int .u8 R.code, .slice sA2 R.sets.length sc2, .slice oA2 R.soa.length oc2] 38)) V) => ref11_same 0 0 R.code R.code _ _ _ _ R.sets R.soa R.sets R.soa V (((hs2.ext ((Ext.refl _).alloc _)).ext hV).sets.lower (Nat.zero_le _)) (((ho2.ext ((Ext.refl _).alloc _)).ext hV).sets.lower (Nat.zero_le _)) (Hs.out _ ((hEx.trans hE5').trans hV)) (Ho.out _ ((hEx.trans hE5').trans hV)))
      rw [show verSame R.code R.sets R.soa R.code R.sets R.soa = true by unfold verSame; simp] at HSm
      clear c0
      go_wp2_with fail
      refine (HSm.out _ (Ext.refl _)).mono ?_; rintro e w6 ⟨rfl, hE6⟩
      obtain ⟨k6, _, z6⟩ := ext_new hE6
      clear kv5
      go_wp2_with fail
      have h56 : Ext w5 w6 := ((Ext.refl _).alloc _).trans hE6
      refine (law11_spoil wo.heap.size R.code _ _ R.sets R.soa w5 _ hs2 ho2 hsep h56).mono ?_; rintro e w7 ⟨rfl, hB7⟩
      have hE7 : Ext wo w7 := Betw.ext (hE5.trans h56) hB7 (Nat.le_refl _)
      clear k6 hB7
      go_wp2_with fail
      go_roundw
      case rel => exact ⟨k + 1, by omega, by go_num, hEx.trans hE7⟩
      case measure => simp [intOf]; omega
    · have hki : ¬ (k : Int) < 2 := by omega
      go_wp2_with fail
      refine (HA.out _ hwo).mono ?_; rintro e w8 ⟨rfl, hE8⟩
      go_wp2_with fail
      go_ret
      exact ⟨rfl, hwo.trans hE8⟩
end Go.Proofs.YtbdjoihckienbaaGreatDoor
namespace Go.Proofs.YtbdjoihckienbaaGreatDoor
set_option linter.unusedSimpArgs false
set_option linter.unusedVariables false
open Go.ChangeShapes Go.WideShapes Go.ChangeAt Go.RowKit
set_option maxRecDepth 100000

theorem verdictOf_contract (H : Type) (enc : TypeId × Value → H) (W : World) (base : Nat) (args : Array Value) (ds gs : List (DataW H)) (before : List MemPlace)
    (hval : ∀ (j : Nat) t v, Tryz.f3.params[j]? = some t → args[j]? = some v → Value.okWide Tryz.prog W .any base t v)
    (hW : DataW.Whole enc Tryz.prog Tryz.f3.params.toList Rows.verdictOfSpec.vars false W args.toList ds gs before)
    (hsz : (DataW.weightsEach Tryz.prog (Tryz.f3.params.toList ++ (OpenSpec.ofChange Rows.verdictOfSpec).bare.plain.varTypes Tryz.prog) (ds ++ gs)).all (· ≤ reachBytes) = true)
    (hL : laidMetH Tryz.prog laidL W) :
    Calls Tryz.prog 3 args W fun e W' => ∃ v, e = .returned v ∧ Rows.verdictOfSpec.post enc Tryz.prog Tryz.f3 false true false false W args v W' := by
  have hW' := hW
  have hp : ∀ t ∈ Tryz.f3.params.toList, Tryz.prog.readableRec t = true ∧ t < Tryz.prog.types.size := by
    have h : (Tryz.f3.params.toList.all fun t => Tryz.prog.readableRec t && decide (t < Tryz.prog.types.size)) = true := by kernel_rfl
    simpa only [List.all_eq_true, Bool.and_eq_true, decide_eq_true_eq] using h
  have hg := laid_of hL
  obtain ⟨p, q, hA0, hV, rfl, _, _⟩ := hW
  have hA : DataW.TrodAll enc Tryz.prog W 0 (fun _ => true) true Tryz.f3.params.toList args.toList ds p := hA0
  clear hA0
  rw [Tryz.params3] at hA hval hsz
  obtain ⟨rfl, rfl⟩ := trodVars_none hV
  obtain ⟨v0, v1, d0, d1, p0, p1, rfl, rfl, rfl, h0, h1⟩ := trodAll_two hA
  obtain ⟨n1, ty1, cl1, rfl, hn1, _, _⟩ := open_question (hval 0 _ _ rfl rfl) h0
  obtain ⟨x1, code1, aA1, ac1, uA1, uc1, ans1, auth1, ext1, rfl, ha1, hu1, hx1, hao1, huo1, hxo1, hcd1, hq1⟩ := open_msg (hval 1 _ _ rfl rfl) h1
  refine (law_verdictOf x1 n1 ty1 cl1 code1 aA1 ac1 uA1 uc1 ans1 auth1 ext1 W hg ha1 hu1 hx1 hao1 huo1 hxo1 hn1 hq1).mono ?_
  rintro e W' ⟨rfl, hE⟩
  exact ⟨_, rfl, post_true laid_out rfl (by kernel_rfl) Tryz.underlying4 hp hW' rfl hE⟩

theorem verdictOf_reads (os : Os) {H : Type} (enc : TypeId × Value → H) : ∃ places, DataW.whole enc Tryz.prog ((laidWorld os).forCall (fun _ _ => 0) ⟨#[], #[.agg #[.string ⟨#[]⟩, .int .u16 0, .int .u16 0], .agg #[.int .u16 0, .bool false, .int .u8 0, .bool false, .bool false, .bool false, .bool false, .bool false, .bool false, .bool false, .int .u8 0, .slice none 0 0, .slice none 0 0, .slice none 0 0, .slice none 0 0, .bool false, .int .u16 0, .int .u8 0, .int .u8 0, .int .u16 0, .slice none 0 0]], []⟩).memory Tryz.f3.params.toList Rows.verdictOfSpec.vars false (#[.agg #[.string ⟨#[]⟩, .int .u16 0, .int .u16 0], .agg #[.int .u16 0, .bool false, .int .u8 0, .bool false, .bool false, .bool false, .bool false, .bool false, .bool false, .bool false, .int .u8 0, .slice none 0 0, .slice none 0 0, .slice none 0 0, .slice none 0 0, .bool false, .int .u16 0, .int .u8 0, .int .u8 0, .int .u16 0, .slice none 0 0]] : Array Value).toList 8 = some ([.agg [.lit (.string []), .lit (.int .u16 0), .lit (.int .u16 0)], .agg [.agg [.lit (.int .u16 0), .lit (.bool false), .lit (.int .u8 0), .lit (.bool false), .lit (.bool false), .lit (.bool false), .lit (.bool false), .lit (.bool false), .lit (.bool false), .lit (.bool false), .lit (.int .u8 0)], .nil, .nil, .nil, .nil, .lit (.bool false), .agg [.lit (.int .u16 0), .lit (.int .u8 0), .lit (.int .u8 0), .lit (.int .u16 0), .nil]]], [], places) :=
  ⟨[], by kernel_rfl⟩
theorem verdictOf_lifted (os : Os) (started : os.Started) (H : Type) (enc : TypeId × Value → H) (F : Stop.Interp) :
    ReturnsInHanded {} Tryz.checked os 3 .any ((OpenSpec.ofChange Rows.verdictOfSpec).preRow enc Tryz.prog Tryz.f3 Rows.verdictOfRow.domain false Rows.verdictOfRow.laid) (((OpenSpec.ofChange Rows.verdictOfSpec).at F).post enc Tryz.prog Tryz.f3 false true false false) := by
  obtain ⟨places, hx⟩ := verdictOf_reads os enc
  refine returnsInHanded_of_row (C := Tryz.checked) (s := OpenSpec.ofChange Rows.verdictOfSpec) own_knob started (by kernel_rfl) Tryz.func3
    (witness_row_at (enc := enc) (C := Tryz.checked) false (laidWorld os) #[.agg #[.string ⟨#[]⟩, .int .u16 0, .int .u16 0], .agg #[.int .u16 0, .bool false, .int .u8 0, .bool false, .bool false, .bool false, .bool false, .bool false, .bool false, .bool false, .int .u8 0, .slice none 0 0, .slice none 0 0, .slice none 0 0, .slice none 0 0, .bool false, .int .u16 0, .int .u8 0, .int .u8 0, .int .u16 0, .slice none 0 0]] rfl (by kernel_rfl) (by kernel_rfl) (by kernel_rfl)
      (OpenSpec.preRow_of_cond 8 hx (by kernel_rfl) (fun k hk => by cases hk) (by kernel_rfl) (laid_met os _))) ?_
  intro W base args ds gs before hval hW _ _ hsz hL _ _
  exact verdictOf_contract H enc W base args ds gs before hval hW hsz hL
theorem verdictOf_said : Rows.VerdictOfSaid :=
  OpenClaim.holds_of_cond 3 Tryz.f3 rfl rfl rfl rfl rfl rfl rfl ⟨rfl, rfl, rfl, rfl, rfl⟩ rfl rfl rfl rfl rfl (by kernel_rfl) Tryz.func3 (by kernel_rfl)
    (of_decide_eq_true (by kernel_rfl)) (by unfold Func.isWrapper; first | (rw [if_pos (by decide +kernel)]; kernel_rfl) | (rw [if_neg (by decide +kernel)]; exact ⟨rfl, rfl⟩))
    (fun os started H enc _ F => by rw [OpenClaim.pre_eq_preRow]; exact verdictOf_lifted os started H enc F)
/-- THE CARD. -/
theorem verdictOf_card : Rows.VerdictOfCardSaid :=
  Claim7.holds_tied_plain_at .later [] _ _ _ _ verdictOf_said (fun _ h => by cases h) (by kernel_rfl) (fun _ h => by cases h) verdictOf_row_tie rfl ⟨rfl, rfl⟩ (by kernel_rfl) rfl
    (fun f fn hf hfn => by
      obtain rfl : f = 3 := Option.some.inj ((show Tryz.prog.funcNamed Rows.verdictOfRow.func = some 3 by kernel_rfl).symm.trans hf) |>.symm
      obtain rfl : fn = Tryz.f3 := (Option.some.inj (Tryz.func3.symm.trans hfn)).symm
      refine ⟨by kernel_rfl, fun j t ht => ?_⟩
      have h : (Tryz.f3.params.toList.all fun t => !Tryz.prog.wantsStandIn t) = true := by kernel_rfl
      have h2 := List.all_eq_true.1 h t (by simpa using Array.mem_of_getElem? ht)
      exact (by simpa using h2 : Tryz.prog.wantsStandIn t = false))
    (by kernel_rfl)
#print axioms verdictOf_card
end Go.Proofs.YtbdjoihckienbaaGreatDoor
