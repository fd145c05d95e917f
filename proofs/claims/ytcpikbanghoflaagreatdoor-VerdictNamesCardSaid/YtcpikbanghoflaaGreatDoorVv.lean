/- Contracts of functions and plain lemmas that the proofs of this seat share (joined texts). No condition. -/
import Derived.Test.YtcpikbanghoflaaGreatDoorVu0
import Derived.Test.YtcpikbanghoflaaGreatDoorVu
import Derived.Test.YtcpikbanghoflaaGreatDoorVj
import Derived.Test.YtcpikbanghoflaaGreatDoorVq
import Derived.Deep.RegionHeld3
import Derived.Deep.DeepCutAuto
namespace Go.Proofs.YtcpikbanghoflaaGreatDoor
set_option linter.unusedSimpArgs false
set_option linter.unusedVariables false
open Go.RowKit
set_option maxRecDepth 100000
def VerPost (R : VerR) (w : World) (e : Ending) (w' : World) : Prop :=
  ∃ vs vo, e = .returned (.tuple #[.agg #[.int .u8 R.code, vs, vo], .int .u32 R.time, .int .i64 R.err]) ∧ OSets w' w.heap.size vs R.sets ∧ OSets w' w.heap.size vo R.soa ∧ (vo.ownBlock = none ∨ vo.ownBlock ≠ vs.ownBlock) ∧ Ext w w'
structure MsgX where
  id : Int
  qr : Bool
  op : Int
  aa : Bool
  tc : Bool
  rd : Bool
  ra : Bool
  z : Bool
  ad : Bool
  cd : Bool
  qA : Option Addr
  qn : Nat
  qc : Nat
  xA : Option Addr
  xn : Nat
  xc : Nat
  he : Bool
  es : Int
  ee : Int
  ev : Int
  ef : Int
  oA : Option Addr
  on : Nat
  oc : Nat
abbrev msgV (x : MsgX) (code : Int) (a u : Value) : Value := .agg #[.int .u16 x.id, .bool x.qr, .int .u8 x.op, .bool x.aa, .bool x.tc, .bool x.rd, .bool x.ra, .bool x.z, .bool x.ad, .bool x.cd, .int .u8 code, .slice x.qA x.qn x.qc, a, u, .slice x.xA x.xn x.xc, .bool x.he, .int .u16 x.es, .int .u8 x.ee, .int .u8 x.ev, .int .u16 x.ef, .slice x.oA x.on x.oc]
def OffB (g : Nat) (Y V : World) : Prop := ∀ b o, b < Y.heap.size → b ≠ g → V.cell? ⟨b, o, none⟩ = Y.cell? ⟨b, o, none⟩
theorem offB_ext {g : Nat} {Y V : World} (h : Ext Y V) : OffB g Y V := fun b o hb _ => h.cell (p := ⟨b, o, none⟩) hb
theorem offB_set {g : Nat} {Y V : World} (h : OffB g Y V) (j : Nat) (u : Value) : OffB g Y (V.setCell ⟨g, j, none⟩ u) := fun b o hb hne => by
  rw [World.cell?_setCell_other V ⟨g, j, none⟩ ⟨b, o, none⟩ _ (by intro e; injection e with e _ _; first | exact hne e | exact hne e.symm)]
  exact h b o hb hne
theorem sets_lit1 (w : World) (g : Nat) (hg : g = w.heap.size) (s : SetD) (dv : Value) (h : Strs w 0 dv s.data) : Sets (w.alloc (.cells (setCells (s, dv)).toArray 50)) 0 (.slice (some ⟨g, 0, none⟩) 1 1) [s] := by
  subst hg
  exact sets_cells1 (fun j => World.cell?_alloc_mark w _ _ _ j) (by simp) (h.ext ((Ext.refl _).alloc _))
theorem ver_bad (w w' : World) (e : Nat) (h : Ext w w') : VerPost (VerR.bad e) w (.returned (.tuple #[.agg #[.int .u8 0, .slice none 0 0, .slice none 0 0], .int .u32 0, .int .i64 e])) w' :=
  ⟨_, _, rfl, OSets.nil _ _, OSets.nil _ _, .inl rfl, h⟩

set_option maxHeartbeats 4000000 in
theorem ver_of (x : MsgX) (n : List UInt8) (ty cls code : Int) (lo : Nat) (aA : Option Addr) (ac : Nat) (uA : Option Addr) (uc : Nat) (ans auth : List RecD) (w : World) (hg : Laid w)
    (ha : Recs w lo (.slice aA ans.length ac) ans) (hu : Recs w lo (.slice uA auth.length uc) auth) (hab : RecsBd ans) (hub : RecsBd auth) (hao : RecsOk ans) (huo : RecsOk auth) (hn : n.length ≤ 1048576) :
    Calls Tryz.prog 8 #[.agg #[S n, .int .u16 ty, .int .u16 cls], msgV x code (.slice aA ans.length ac) (.slice uA auth.length uc)] w (VerPost (verOf n ty cls code ans auth) w) := by
  have HM := Lib.hid (fun W => name_may n W (by unfold maxLen; omega))
  have HG1 := Lib.hid (fun W (hW : Ext w W) => rrset_groupR lo _ ans W (hg.ext hW) (ha.ext hW) hab hao)
  have HG2 := Lib.hid (fun W (hW : Ext w W) => rrset_groupR lo _ auth W (hg.ext hW) (hu.ext hW) hub huo)
  have hb1 := groupR_bd hab
  have hb2 := groupR_bd hub
  clear hn
  rcases hm : may n with _ | _
  · have hR : verOf n ty cls code ans auth = VerR.bad 1 := if_neg (by rw [hm]; rintro ⟨h, _⟩; cases h)
    rw [hR]
    rw [hm] at HM
    clear hm hR
    go_enter Tryz.func8, Tryz.ntmps8
    go_wp2_with fail
    obtain ⟨X, hX⟩ : ∃ X, X = ((w.alloc (.cells #[S n, .int .u16 ty, .int .u16 cls] 25)).alloc (.cells #[.int .u16 x.id, .bool x.qr, .int .u8 x.op, .bool x.aa, .bool x.tc, .bool x.rd, .bool x.ra, .bool x.z, .bool x.ad, .bool x.cd, .int .u8 code, .slice x.qA x.qn x.qc, .slice aA ans.length ac, .slice uA auth.length uc, .slice x.xA x.xn x.xc, .bool x.he, .int .u16 x.es, .int .u8 x.ee, .int .u8 x.ev, .int .u16 x.ef, .slice x.oA x.on x.oc] 38)).alloc (.cells #[.int .u8 0, .slice none 0 0, .slice none 0 0] 44) := ⟨_, rfl⟩
    rw [← hX]
    obtain ⟨kv, kvf, zv⟩ := ext_new_at (w.heap.size + 1 + 1) (by simp) (Ext.refl (((w.alloc (.cells #[S n, .int .u16 ty, .int .u16 cls] 25)).alloc (.cells #[.int .u16 x.id, .bool x.qr, .int .u8 x.op, .bool x.aa, .bool x.tc, .bool x.rd, .bool x.ra, .bool x.z, .bool x.ad, .bool x.cd, .int .u8 code, .slice x.qA x.qn x.qc, .slice aA ans.length ac, .slice uA auth.length uc, .slice x.xA x.xn x.xc, .bool x.he, .int .u16 x.es, .int .u8 x.ee, .int .u8 x.ev, .int .u16 x.ef, .slice x.oA x.on x.oc] 38)).alloc (.cells #[.int .u8 0, .slice none 0 0, .slice none 0 0] 44)))
    obtain ⟨km, kmf, zm⟩ := ext_new_at (w.heap.size + 1) (by simp) ((Ext.refl ((w.alloc (.cells #[S n, .int .u16 ty, .int .u16 cls] 25)).alloc (.cells #[.int .u16 x.id, .bool x.qr, .int .u8 x.op, .bool x.aa, .bool x.tc, .bool x.rd, .bool x.ra, .bool x.z, .bool x.ad, .bool x.cd, .int .u8 code, .slice x.qA x.qn x.qc, .slice aA ans.length ac, .slice uA auth.length uc, .slice x.xA x.xn x.xc, .bool x.he, .int .u16 x.es, .int .u8 x.ee, .int .u8 x.ev, .int .u16 x.ef, .slice x.oA x.on x.oc] 38))).alloc (.cells #[.int .u8 0, .slice none 0 0, .slice none 0 0] 44))
    obtain ⟨kq, kqf, zq⟩ := ext_new_at (w.heap.size) rfl (((Ext.refl (w.alloc (.cells #[S n, .int .u16 ty, .int .u16 cls] 25))).alloc (.cells #[.int .u16 x.id, .bool x.qr, .int .u8 x.op, .bool x.aa, .bool x.tc, .bool x.rd, .bool x.ra, .bool x.z, .bool x.ad, .bool x.cd, .int .u8 code, .slice x.qA x.qn x.qc, .slice aA ans.length ac, .slice uA auth.length uc, .slice x.xA x.xn x.xc, .bool x.he, .int .u16 x.es, .int .u8 x.ee, .int .u8 x.ev, .int .u16 x.ef, .slice x.oA x.on x.oc] 38)).alloc (.cells #[.int .u8 0, .slice none 0 0, .slice none 0 0] 44))
    rw [← hX] at kv kvf zv km kmf zm kq kqf zq
    have hwX : Ext w X := by rw [hX]; (repeat (first | with_reducible exact Ext.refl _ | with_reducible assumption | with_reducible refine Ext.alloc ?_ _ | with_reducible refine Ext.drewN ?_ _ | with_reducible refine Ext.drew ?_ | (with_reducible refine Ext.setCell ?_ ?hp _; case hp => (simp <;> omega))))
    have HS3 := Lib.hid (show ∀ V, OffB (w.heap.size + 1 + 1) X V → V.cell? ⟨w.heap.size, 0, none⟩ = some (S n) ∧ V.cell? ⟨w.heap.size, 1, none⟩ = some (.int .u16 ty) ∧ V.cell? ⟨w.heap.size, 2, none⟩ = some (.int .u16 cls) ∧ V.cell? ⟨w.heap.size + 1, 12, none⟩ = some (.slice aA ans.length ac) from fun V hV => ⟨(hV _ 0 zq (by omega)).trans (kq 0), (hV _ 1 zq (by omega)).trans (kq 1), (hV _ 2 zq (by omega)).trans (kq 2), (hV _ 12 zm (by omega)).trans (km 12)⟩)
    have HS12 := Lib.hid (show ∀ V, OffB (w.heap.size + 1 + 1) X V → V.cell? ⟨w.heap.size, 2, none⟩ = some (.int .u16 cls) ∧ V.cell? ⟨w.heap.size + 1, 13, none⟩ = some (.slice uA auth.length uc) from fun V hV => ⟨(hV _ 2 zq (by omega)).trans (kq 2), (hV _ 13 zm (by omega)).trans (km 13)⟩)
    have HSc := Lib.hid (show ∀ V, OffB (w.heap.size + 1 + 1) X V → V.cell? ⟨w.heap.size + 1, 10, none⟩ = some (.int .u8 code) from fun V hV => (hV _ 10 zm (by omega)).trans (km 10))
    have hXz : w.heap.size + 1 + 1 + 1 = X.heap.size := by rw [hX]; simp
    have HXz := Lib.hid hXz
    clear hX hXz
    refine (HM.out _).mono ?_; rintro e w' ⟨rfl, rfl⟩
    go_wp2_with fail
    refine bodyPost_ret (v := .tuple #[.agg #[.int .u8 0, .slice none 0 0, .slice none 0 0], .int .u32 0, .int .i64 1]) (by simp [results, Tryz.results8, go_sem, kv, kvf, zv]) rfl ?_
    exact ver_bad w _ 1 (by have hz2 : w.heap.size + 1 + 1 < X.heap.size := zv; (repeat (first | with_reducible exact Ext.refl _ | with_reducible assumption | with_reducible refine Ext.alloc ?_ _ | with_reducible refine Ext.drewN ?_ _ | with_reducible refine Ext.drew ?_ | (with_reducible refine Ext.setCell ?_ ?hp _; case hp => (simp <;> omega)))))
  by_cases hc : code = 0 ∨ code = 3
  rotate_left
  · have hR : verOf n ty cls code ans auth = VerR.bad 1 := if_neg (fun h => hc h.2)
    have f1 : (code != 0) = true := by simp; intro h; exact hc (.inl h)
    have f2 : (code != 3) = true := by simp; intro h; exact hc (.inr h)
    rw [hR]
    rw [hm] at HM
    clear hm hR hc
    go_enter Tryz.func8, Tryz.ntmps8
    go_wp2_with fail
    obtain ⟨X, hX⟩ : ∃ X, X = ((w.alloc (.cells #[S n, .int .u16 ty, .int .u16 cls] 25)).alloc (.cells #[.int .u16 x.id, .bool x.qr, .int .u8 x.op, .bool x.aa, .bool x.tc, .bool x.rd, .bool x.ra, .bool x.z, .bool x.ad, .bool x.cd, .int .u8 code, .slice x.qA x.qn x.qc, .slice aA ans.length ac, .slice uA auth.length uc, .slice x.xA x.xn x.xc, .bool x.he, .int .u16 x.es, .int .u8 x.ee, .int .u8 x.ev, .int .u16 x.ef, .slice x.oA x.on x.oc] 38)).alloc (.cells #[.int .u8 0, .slice none 0 0, .slice none 0 0] 44) := ⟨_, rfl⟩
    rw [← hX]
    obtain ⟨kv, kvf, zv⟩ := ext_new_at (w.heap.size + 1 + 1) (by simp) (Ext.refl (((w.alloc (.cells #[S n, .int .u16 ty, .int .u16 cls] 25)).alloc (.cells #[.int .u16 x.id, .bool x.qr, .int .u8 x.op, .bool x.aa, .bool x.tc, .bool x.rd, .bool x.ra, .bool x.z, .bool x.ad, .bool x.cd, .int .u8 code, .slice x.qA x.qn x.qc, .slice aA ans.length ac, .slice uA auth.length uc, .slice x.xA x.xn x.xc, .bool x.he, .int .u16 x.es, .int .u8 x.ee, .int .u8 x.ev, .int .u16 x.ef, .slice x.oA x.on x.oc] 38)).alloc (.cells #[.int .u8 0, .slice none 0 0, .slice none 0 0] 44)))
    obtain ⟨km, kmf, zm⟩ := ext_new_at (w.heap.size + 1) (by simp) ((Ext.refl ((w.alloc (.cells #[S n, .int .u16 ty, .int .u16 cls] 25)).alloc (.cells #[.int .u16 x.id, .bool x.qr, .int .u8 x.op, .bool x.aa, .bool x.tc, .bool x.rd, .bool x.ra, .bool x.z, .bool x.ad, .bool x.cd, .int .u8 code, .slice x.qA x.qn x.qc, .slice aA ans.length ac, .slice uA auth.length uc, .slice x.xA x.xn x.xc, .bool x.he, .int .u16 x.es, .int .u8 x.ee, .int .u8 x.ev, .int .u16 x.ef, .slice x.oA x.on x.oc] 38))).alloc (.cells #[.int .u8 0, .slice none 0 0, .slice none 0 0] 44))
    obtain ⟨kq, kqf, zq⟩ := ext_new_at (w.heap.size) rfl (((Ext.refl (w.alloc (.cells #[S n, .int .u16 ty, .int .u16 cls] 25))).alloc (.cells #[.int .u16 x.id, .bool x.qr, .int .u8 x.op, .bool x.aa, .bool x.tc, .bool x.rd, .bool x.ra, .bool x.z, .bool x.ad, .bool x.cd, .int .u8 code, .slice x.qA x.qn x.qc, .slice aA ans.length ac, .slice uA auth.length uc, .slice x.xA x.xn x.xc, .bool x.he, .int .u16 x.es, .int .u8 x.ee, .int .u8 x.ev, .int .u16 x.ef, .slice x.oA x.on x.oc] 38)).alloc (.cells #[.int .u8 0, .slice none 0 0, .slice none 0 0] 44))
    rw [← hX] at kv kvf zv km kmf zm kq kqf zq
    have hwX : Ext w X := by rw [hX]; (repeat (first | with_reducible exact Ext.refl _ | with_reducible assumption | with_reducible refine Ext.alloc ?_ _ | with_reducible refine Ext.drewN ?_ _ | with_reducible refine Ext.drew ?_ | (with_reducible refine Ext.setCell ?_ ?hp _; case hp => (simp <;> omega))))
    have HS3 := Lib.hid (show ∀ V, OffB (w.heap.size + 1 + 1) X V → V.cell? ⟨w.heap.size, 0, none⟩ = some (S n) ∧ V.cell? ⟨w.heap.size, 1, none⟩ = some (.int .u16 ty) ∧ V.cell? ⟨w.heap.size, 2, none⟩ = some (.int .u16 cls) ∧ V.cell? ⟨w.heap.size + 1, 12, none⟩ = some (.slice aA ans.length ac) from fun V hV => ⟨(hV _ 0 zq (by omega)).trans (kq 0), (hV _ 1 zq (by omega)).trans (kq 1), (hV _ 2 zq (by omega)).trans (kq 2), (hV _ 12 zm (by omega)).trans (km 12)⟩)
    have HS12 := Lib.hid (show ∀ V, OffB (w.heap.size + 1 + 1) X V → V.cell? ⟨w.heap.size, 2, none⟩ = some (.int .u16 cls) ∧ V.cell? ⟨w.heap.size + 1, 13, none⟩ = some (.slice uA auth.length uc) from fun V hV => ⟨(hV _ 2 zq (by omega)).trans (kq 2), (hV _ 13 zm (by omega)).trans (km 13)⟩)
    have HSc := Lib.hid (show ∀ V, OffB (w.heap.size + 1 + 1) X V → V.cell? ⟨w.heap.size + 1, 10, none⟩ = some (.int .u8 code) from fun V hV => (hV _ 10 zm (by omega)).trans (km 10))
    have hXz : w.heap.size + 1 + 1 + 1 = X.heap.size := by rw [hX]; simp
    have HXz := Lib.hid hXz
    clear hX hXz
    refine (HM.out _).mono ?_; rintro e w' ⟨rfl, rfl⟩
    go_wp2_with fail
    refine bodyPost_ret (v := .tuple #[.agg #[.int .u8 0, .slice none 0 0, .slice none 0 0], .int .u32 0, .int .i64 1]) (by simp [results, Tryz.results8, go_sem, kv, kvf, zv]) rfl ?_
    exact ver_bad w _ 1 (by have hz2 : w.heap.size + 1 + 1 < X.heap.size := zv; (repeat (first | with_reducible exact Ext.refl _ | with_reducible assumption | with_reducible refine Ext.alloc ?_ _ | with_reducible refine Ext.drewN ?_ _ | with_reducible refine Ext.drew ?_ | (with_reducible refine Ext.setCell ?_ ?hp _; case hp => (simp <;> omega)))))
  have hR : verOf n ty cls code ans auth = verFol code cls auth (followOf n ty cls (groupR ans)) := if_pos ⟨hm, hc⟩
  rw [hR]
  rw [hm] at HM
  have HF := Lib.hid (fun W (hW : Ext w W) lo' v (hS : Sets W lo' v (groupR ans)) => chain_follow lo' n ty cls v _ W (hg.ext hW) hS hb1 (by have := may_le hm; omega))
  have hfi := follow_in (groupR ans) n ty cls
  have hfh := follow_here n ty cls (groupR ans)
  generalize groupR ans = gs1 at *
  generalize followOf n ty cls gs1 = R at *
  clear hR hm
  go_enter Tryz.func8, Tryz.ntmps8
  go_wp2_with fail
  obtain ⟨X, hX⟩ : ∃ X, X = ((w.alloc (.cells #[S n, .int .u16 ty, .int .u16 cls] 25)).alloc (.cells #[.int .u16 x.id, .bool x.qr, .int .u8 x.op, .bool x.aa, .bool x.tc, .bool x.rd, .bool x.ra, .bool x.z, .bool x.ad, .bool x.cd, .int .u8 code, .slice x.qA x.qn x.qc, .slice aA ans.length ac, .slice uA auth.length uc, .slice x.xA x.xn x.xc, .bool x.he, .int .u16 x.es, .int .u8 x.ee, .int .u8 x.ev, .int .u16 x.ef, .slice x.oA x.on x.oc] 38)).alloc (.cells #[.int .u8 0, .slice none 0 0, .slice none 0 0] 44) := ⟨_, rfl⟩
  rw [← hX]
  obtain ⟨kv, kvf, zv⟩ := ext_new_at (w.heap.size + 1 + 1) (by simp) (Ext.refl (((w.alloc (.cells #[S n, .int .u16 ty, .int .u16 cls] 25)).alloc (.cells #[.int .u16 x.id, .bool x.qr, .int .u8 x.op, .bool x.aa, .bool x.tc, .bool x.rd, .bool x.ra, .bool x.z, .bool x.ad, .bool x.cd, .int .u8 code, .slice x.qA x.qn x.qc, .slice aA ans.length ac, .slice uA auth.length uc, .slice x.xA x.xn x.xc, .bool x.he, .int .u16 x.es, .int .u8 x.ee, .int .u8 x.ev, .int .u16 x.ef, .slice x.oA x.on x.oc] 38)).alloc (.cells #[.int .u8 0, .slice none 0 0, .slice none 0 0] 44)))
  obtain ⟨km, kmf, zm⟩ := ext_new_at (w.heap.size + 1) (by simp) ((Ext.refl ((w.alloc (.cells #[S n, .int .u16 ty, .int .u16 cls] 25)).alloc (.cells #[.int .u16 x.id, .bool x.qr, .int .u8 x.op, .bool x.aa, .bool x.tc, .bool x.rd, .bool x.ra, .bool x.z, .bool x.ad, .bool x.cd, .int .u8 code, .slice x.qA x.qn x.qc, .slice aA ans.length ac, .slice uA auth.length uc, .slice x.xA x.xn x.xc, .bool x.he, .int .u16 x.es, .int .u8 x.ee, .int .u8 x.ev, .int .u16 x.ef, .slice x.oA x.on x.oc] 38))).alloc (.cells #[.int .u8 0, .slice none 0 0, .slice none 0 0] 44))
  obtain ⟨kq, kqf, zq⟩ := ext_new_at (w.heap.size) rfl (((Ext.refl (w.alloc (.cells #[S n, .int .u16 ty, .int .u16 cls] 25))).alloc (.cells #[.int .u16 x.id, .bool x.qr, .int .u8 x.op, .bool x.aa, .bool x.tc, .bool x.rd, .bool x.ra, .bool x.z, .bool x.ad, .bool x.cd, .int .u8 code, .slice x.qA x.qn x.qc, .slice aA ans.length ac, .slice uA auth.length uc, .slice x.xA x.xn x.xc, .bool x.he, .int .u16 x.es, .int .u8 x.ee, .int .u8 x.ev, .int .u16 x.ef, .slice x.oA x.on x.oc] 38)).alloc (.cells #[.int .u8 0, .slice none 0 0, .slice none 0 0] 44))
  rw [← hX] at kv kvf zv km kmf zm kq kqf zq
  have hwX : Ext w X := by rw [hX]; (repeat (first | with_reducible exact Ext.refl _ | with_reducible assumption | with_reducible refine Ext.alloc ?_ _ | with_reducible refine Ext.drewN ?_ _ | with_reducible refine Ext.drew ?_ | (with_reducible refine Ext.setCell ?_ ?hp _; case hp => (simp <;> omega))))
  have HS3 := Lib.hid (show ∀ V, OffB (w.heap.size + 1 + 1) X V → V.cell? ⟨w.heap.size, 0, none⟩ = some (S n) ∧ V.cell? ⟨w.heap.size, 1, none⟩ = some (.int .u16 ty) ∧ V.cell? ⟨w.heap.size, 2, none⟩ = some (.int .u16 cls) ∧ V.cell? ⟨w.heap.size + 1, 12, none⟩ = some (.slice aA ans.length ac) from fun V hV => ⟨(hV _ 0 zq (by omega)).trans (kq 0), (hV _ 1 zq (by omega)).trans (kq 1), (hV _ 2 zq (by omega)).trans (kq 2), (hV _ 12 zm (by omega)).trans (km 12)⟩)
  have HS12 := Lib.hid (show ∀ V, OffB (w.heap.size + 1 + 1) X V → V.cell? ⟨w.heap.size, 2, none⟩ = some (.int .u16 cls) ∧ V.cell? ⟨w.heap.size + 1, 13, none⟩ = some (.slice uA auth.length uc) from fun V hV => ⟨(hV _ 2 zq (by omega)).trans (kq 2), (hV _ 13 zm (by omega)).trans (km 13)⟩)
  have HSc := Lib.hid (show ∀ V, OffB (w.heap.size + 1 + 1) X V → V.cell? ⟨w.heap.size + 1, 10, none⟩ = some (.int .u8 code) from fun V hV => (hV _ 10 zm (by omega)).trans (km 10))
  have hXz : w.heap.size + 1 + 1 + 1 = X.heap.size := by rw [hX]; simp
  have HXz := Lib.hid hXz
  clear hX hXz
  refine (HM.out _).mono ?_; rintro e w' ⟨rfl, rfl⟩
  rcases hc with rfl | rfl
  · go_wp2_with fail
    go_region_held3 (fun V => V.cell? ⟨w.heap.size, 0, none⟩ = some (S n) ∧ V.cell? ⟨w.heap.size, 1, none⟩ = some (.int .u16 ty) ∧ V.cell? ⟨w.heap.size, 2, none⟩ = some (.int .u16 cls) ∧ V.cell? ⟨w.heap.size + 1, 12, none⟩ = some (.slice aA ans.length ac)) (exact HS3.out _ (by (repeat with_reducible refine offB_set ?_ _ _); exact offB_ext (by (repeat (first | with_reducible exact Ext.refl _ | with_reducible assumption | with_reducible refine Ext.alloc ?_ _ | with_reducible refine Ext.drewN ?_ _ | with_reducible refine Ext.drew ?_ | (with_reducible refine Ext.setCell ?_ ?hp _; case hp => (simp <;> omega))))))) (first | (go_at_call 26; (with_reducible refine (HG1.out _ (hwX.trans (by (repeat (first | with_reducible exact Ext.refl _ | with_reducible assumption | with_reducible refine Ext.alloc ?_ _ | with_reducible refine Ext.drewN ?_ _ | with_reducible refine Ext.drew ?_ | (with_reducible refine Ext.setCell ?_ ?hp _; case hp => (simp <;> omega))))))).mono ?_); rintro e w3 ⟨g3, rfl, ho3, hE3⟩; have hX3 : Ext X w3 := Ext.trans (by (repeat (first | with_reducible exact Ext.refl _ | with_reducible assumption | with_reducible refine Ext.alloc ?_ _ | with_reducible refine Ext.drewN ?_ _ | with_reducible refine Ext.drew ?_ | (with_reducible refine Ext.setCell ?_ ?hp _; case hp => (simp <;> omega))))) hE3) | (go_at_call 25; (with_reducible refine (HF.out _ (hwX.trans hX3) _ _ ho3.sets).mono ?_); rintro e w4 ⟨vp, vf, wm, rfl, hop, hEm, hof, hEf⟩; have hX4 : Ext X w4 := (hX3.trans hEm).trans hEf))
    have hop4 := hop.ext hEf
    obtain ⟨ps, pA, pc, rfl, hps, hpl, hpo, hpd⟩ := hop4.opened
    obtain ⟨fs, fA, fc, rfl, hfs, hfl, hfo, hfd⟩ := hof.opened
    have hpc := hpo.cap
    have hfc := hfo.cap
    unfold maxLen at hpc hfc
    have hp8 := hfi.len
    have hf1 := hfi.one
    have hlo3 : w.heap.size ≤ w3.heap.size := (hwX.trans hX3).size
    have hlom : w3.heap.size ≤ wm.heap.size := hEm.size
    clear hof hop
    rcases R with ⟨path, here, fin, er⟩
    dsimp only at *
    by_cases he : er = 0
    rotate_left
    · have hR : verFol 0 cls auth ⟨path, here, fin, er⟩ = VerR.bad er := if_neg he
      have HR := Lib.hid hR
      have f1 : ((er : Int) == 0) = false := by rw [beq_eq_false_iff_ne]; omega
      have f2 : ((er : Int) != 0) = true := by rw [bne, f1]; rfl
      clear hR he
      have kv4 : ∀ j, w4.cell? ⟨w.heap.size + 1 + 1, j, none⟩ = _ := fun j => (hX4.cell (p := ⟨w.heap.size + 1 + 1, j, none⟩) zv).trans (kv j)
      have kf4 : ∀ j, w4.frozen? ⟨w.heap.size + 1 + 1, j, none⟩ = false := fun j => (hX4.frozen (p := ⟨w.heap.size + 1 + 1, j, none⟩) zv).trans (kvf j)
      have hz4 : w.heap.size + 1 + 1 < w4.heap.size := Nat.lt_of_lt_of_le zv hX4.size
      go_wp2_with fail
      refine bodyPost_ret (v := .tuple #[.agg #[.int .u8 0, .slice none 0 0, .slice none 0 0], .int .u32 0, .int .i64 er]) (by simp [results, Tryz.results8, go_sem, kv4, kf4, hz4]) rfl ?_
      rw [HR.out]
      exact ver_bad w _ er (by have hz2 := hwX.trans hX4; (repeat (first | with_reducible exact Ext.refl _ | with_reducible assumption | with_reducible refine Ext.alloc ?_ _ | with_reducible refine Ext.drewN ?_ _ | with_reducible refine Ext.drew ?_ | (with_reducible refine Ext.setCell ?_ ?hp _; case hp => (simp <;> omega)))))
    subst he
    by_cases hfe : fin = []
    rotate_left
    · have hR : verFol 0 cls auth ⟨path, here, fin, 0⟩ = verEnd 0 path fin := by show (if (0 : Nat) = 0 then (if fin = [] then _ else _) else _) = _; rw [if_pos rfl, if_neg hfe]
      have HR := Lib.hid hR
      have hfp : (0 : Int) < (fin.length : Int) := by have := List.length_pos_iff.2 hfe; omega
      have cm4 := HSc.out _ (offB_ext hX4)
      clear hR hfe
      have HR2 := Lib.hid (HR.out.trans (show verEnd 0 path fin = ⟨0, (path ++ fin).map ttl0, [], leastT (path ++ fin) 2147483647, 0⟩ from rfl))
      have hrdF := hfo.rd
      have hall : ∀ p ∈ fs, OStrs w4 w3.heap.size p.2 p.1.data := fun p hp => (hfd p hp).lower hlom
      obtain ⟨j0, hj0, hy0, hy1, hy2⟩ := info_parts info_set
      go_wp2_with (
        at_builtin
        refine wpList_app _ rfl (.tmp 52) (.tmp 53) _ rfl w3.heap.size 50 j0 _ 5 48 Tryz.underlying42 hj0 hy0 hy1 hy2 rfl (by omega) pA path.length pc (ps.flatMap setCells) rfl hpo wm.heap.size fA fin.length fc (fs.flatMap setCells) rfl hrdF (set_oneL hfd) (by omega) (by omega) (Nat.le_trans hEm.size hEf.size) ?_
        intro A5 c5 w5 hown5 hg5 hb5 hat5)
      have hX5 : Ext X w5 := hX4.then hb5 hX3.size
      have hs5 : OSets w5 w3.heap.size (.slice A5 (path.length + fin.length) c5) (path ++ fin) := osets_mk (ps := ps ++ fs) (by rw [List.map_append, hps, hfs]) (by rw [List.length_append, hpl, hfl]) (by rw [List.flatMap_append]; exact hown5) (fun p hp => by
        rcases List.mem_append.1 hp with h | h
        · exact (hpd p h).kept hg5 (ostrs_ne (hpd p h) hpo)
        · exact (hall p h).kept hg5 (ostrs_ne (hall p h) hpo))
      have hsb5 : SetsBd (path ++ fin) := fun s hs => by
        rcases List.mem_append.1 hs with h | h
        · exact hb1 s (hfi.path s h)
        · exact hb1 s (hfi.fin s h)
      have hsl5 : (path ++ fin).length ≤ 65536 := by rw [List.length_append]; omega
      have HLe := Lib.hid (fun W (hW : Ext w5 W) => ver_least _ _ (path ++ fin) 2147483647 W (hs5.sets.ext hW))
      have HTl := Lib.hid (fun W (hW : Ext w5 W) => ver_timeless _ _ (path ++ fin) W (hs5.sets.ext hW) hsb5 hsl5)
      generalize path ++ fin = all at *
      refine (HLe.out _ (Ext.refl _)).mono ?_; rintro e w6 ⟨rfl, hE6⟩
      have hX6 := hX5.trans hE6
      go_wp2_with fail
      go_region_held3 (fun V => V.cell? ⟨w.heap.size + 1, 10, none⟩ = some (.int .u8 0)) (exact HSc.out _ (by (repeat with_reducible refine offB_set ?_ _ _); exact offB_ext (by (repeat (first | with_reducible exact Ext.refl _ | with_reducible assumption | with_reducible refine Ext.alloc ?_ _ | with_reducible refine Ext.drewN ?_ _ | with_reducible refine Ext.drew ?_ | (with_reducible refine Ext.setCell ?_ ?hp _; case hp => (simp <;> omega))))))) (first | (go_at_call 28; (with_reducible refine (HTl.out _ (by (repeat (first | with_reducible exact Ext.refl _ | with_reducible assumption | with_reducible refine Ext.alloc ?_ _ | with_reducible refine Ext.drewN ?_ _ | with_reducible refine Ext.drew ?_ | (with_reducible refine Ext.setCell ?_ ?hp _; case hp => (simp <;> omega)))))).mono ?_); rintro e w7 ⟨vt, rfl, hot, hE7⟩; have hX7 : Ext X w7 := Ext.trans (by (repeat (first | with_reducible exact Ext.refl _ | with_reducible assumption | with_reducible refine Ext.alloc ?_ _ | with_reducible refine Ext.drewN ?_ _ | with_reducible refine Ext.drew ?_ | (with_reducible refine Ext.setCell ?_ ?hp _; case hp => (simp <;> omega))))) hE7; have kv7 : ∀ j, w7.cell? ⟨w.heap.size + 1 + 1, j, none⟩ = _ := fun j => (hX7.cell (p := ⟨w.heap.size + 1 + 1, j, none⟩) zv).trans (kv j); have kf7 : ∀ j, w7.frozen? ⟨w.heap.size + 1 + 1, j, none⟩ = false := fun j => (hX7.frozen (p := ⟨w.heap.size + 1 + 1, j, none⟩) zv).trans (kvf j); have hz7 : w.heap.size + 1 + 1 < w7.heap.size := Nat.lt_of_lt_of_le zv hX7.size; obtain ⟨tA, tc, rfl, _, _⟩ := hot.shape; rw [List.length_map] at hot))
      go_wp2_with fail
      refine bodyPost_ret (v := .tuple #[.agg #[.int .u8 0, .slice tA all.length tc, .slice none 0 0], .int .u32 (leastT all 2147483647), .int .i64 0]) (by simp [results, Tryz.results8, go_sem, kv7, kf7, hz7]) rfl ?_
      rw [HR2.out]
      exact ⟨_, _, rfl, (osets_set3 hot (show w.heap.size + 1 + 1 < w6.heap.size by have := zv; have := hX6.size; omega) _ _ _).lower (show w.heap.size ≤ w6.heap.size by have := zv; have := hX6.size; omega), OSets.nil _ _, .inl rfl, by have hz2 := hwX.trans hX7; (repeat (first | with_reducible exact Ext.refl _ | with_reducible assumption | with_reducible refine Ext.alloc ?_ _ | with_reducible refine Ext.drewN ?_ _ | with_reducible refine Ext.drew ?_ | (with_reducible refine Ext.setCell ?_ ?hp _; case hp => (simp <;> omega))))⟩
    subst hfe
    have hR : verFol 0 cls auth ⟨path, here, [], 0⟩ = verSoa 0 path (soaFind (groupR auth) here cls) := by show (if (0 : Nat) = 0 then (if ([] : List SetD) = [] then _ else _) else _) = _; rw [if_pos rfl, if_pos rfl]
    have HR := Lib.hid hR
    have HSo := Lib.hid (fun W lo' v (hS : Sets W lo' v (groupR auth)) => soa_find lo' v _ here cls W hS hb2 (by unfold maxLen; omega))
    have Hin := Lib.hid (fun s (h : (soaFind (groupR auth) here cls).set = some s) => soa_mem h)
    generalize groupR auth = gs2 at *
    obtain ⟨r, hr⟩ : ∃ r, soaFind gs2 here cls = r := ⟨_, rfl⟩
    rw [hr] at HR HSo Hin
    clear hR hr
    have hz4 : w.heap.size + 1 + 1 < w4.heap.size := Nat.lt_of_lt_of_le zv hX4.size
    have hXz4 : X.heap.size ≤ w4.heap.size := hX4.size
    go_upto_region 12 with fail
    go_cut [6, 11, 12] (fun s6 s11 s12 wx => ∃ (g dc : Nat) (dA : Option Addr), s6 = .int .i64 r.err ∧ s11 = .pointer (some ⟨g, 0, none⟩) ∧ s12 = .bool r.set.isSome ∧ (∀ j, wx.cell? ⟨g, j, none⟩ = #[S (r.set.getD SetD.zero).name, .int .u16 (r.set.getD SetD.zero).typ, .int .u16 (r.set.getD SetD.zero).cls, .int .u32 (r.set.getD SetD.zero).ttl, .slice dA (r.set.getD SetD.zero).data.length dc][j]?) ∧ w4.heap.size ≤ g ∧ g < wx.heap.size ∧ Strs wx 0 (.slice dA (r.set.getD SetD.zero).data.length dc) (r.set.getD SetD.zero).data ∧ Ext w4 wx)
    case first =>
      go_region_held3 (fun V => V.cell? ⟨w.heap.size, 2, none⟩ = some (.int .u16 cls) ∧ V.cell? ⟨w.heap.size + 1, 13, none⟩ = some (.slice uA auth.length uc)) (exact HS12.out _ (by (repeat with_reducible refine offB_set ?_ _ _); exact offB_ext (by (repeat (first | with_reducible exact Ext.refl _ | with_reducible assumption | with_reducible refine Ext.alloc ?_ _ | with_reducible refine Ext.drewN ?_ _ | with_reducible refine Ext.drew ?_ | (with_reducible refine Ext.setCell ?_ ?hp _; case hp => (simp <;> omega))))))) (first
        | (go_at_call 26; (with_reducible refine (HG2.out w4.drew (hwX.trans (hX4.trans (by (repeat (first | with_reducible exact Ext.refl _ | with_reducible assumption | with_reducible refine Ext.alloc ?_ _ | with_reducible refine Ext.drewN ?_ _ | with_reducible refine Ext.drew ?_ | (with_reducible refine Ext.setCell ?_ ?hp _; case hp => (simp <;> omega)))))))).mono ?_); rintro e w5 ⟨g5, rfl, ho5, hE5⟩; have h45 : Ext w4 w5 := Ext.trans (by (repeat (first | with_reducible exact Ext.refl _ | with_reducible assumption | with_reducible refine Ext.alloc ?_ _ | with_reducible refine Ext.drewN ?_ _ | with_reducible refine Ext.drew ?_ | (with_reducible refine Ext.setCell ?_ ?hp _; case hp => (simp <;> omega))))) hE5; have hX5 := hX4.trans h45; have hz45 : w4.heap.size ≤ w5.heap.size := h45.size)
        | (go_at_call 26; (with_reducible refine (HG2.out _ (hwX.trans (hX4.trans (by (repeat (first | with_reducible exact Ext.refl _ | with_reducible assumption | with_reducible refine Ext.alloc ?_ _ | with_reducible refine Ext.drewN ?_ _ | with_reducible refine Ext.drew ?_ | (with_reducible refine Ext.setCell ?_ ?hp _; case hp => (simp <;> omega)))))))).mono ?_); rintro e w5 ⟨g5, rfl, ho5, hE5⟩; have h45 : Ext w4 w5 := Ext.trans (by (repeat (first | with_reducible exact Ext.refl _ | with_reducible assumption | with_reducible refine Ext.alloc ?_ _ | with_reducible refine Ext.drewN ?_ _ | with_reducible refine Ext.drew ?_ | (with_reducible refine Ext.setCell ?_ ?hp _; case hp => (simp <;> omega))))) hE5; have hX5 := hX4.trans h45; have hz45 : w4.heap.size ≤ w5.heap.size := h45.size; obtain ⟨bz, bf, bzz⟩ := ext_new (Ext.of_drewN 1 hE5))
        | (go_at_call 29; (with_reducible refine (HSo.out (w5.alloc (.cells #[S [], .int .u16 0, .int .u16 0, .int .u32 0, .slice none 0 0] 50)) _ _ (ho5.sets.ext (by (repeat (first | with_reducible exact Ext.refl _ | with_reducible assumption | with_reducible refine Ext.alloc ?_ _ | with_reducible refine Ext.drewN ?_ _ | with_reducible refine Ext.drew ?_ | (with_reducible refine Ext.setCell ?_ ?hp _; case hp => (simp <;> omega))))))).mono ?_); rintro e w6 ⟨d6, rfl, ho6, hE6⟩; obtain ⟨dA, dc, rfl⟩ := ho6.strs.shape; have h46 : Ext w4 w6 := Ext.trans (by (repeat (first | with_reducible exact Ext.refl _ | with_reducible assumption | with_reducible refine Ext.alloc ?_ _ | with_reducible refine Ext.drewN ?_ _ | with_reducible refine Ext.drew ?_ | (with_reducible refine Ext.setCell ?_ ?hp _; case hp => (simp <;> omega))))) hE6; have hX6 := hX4.trans h46; have hz46 : w4.heap.size ≤ w6.heap.size := h46.size; obtain ⟨bz6, bf6, bzz6⟩ := ext_new hE6)
        | (go_at_call 29; (with_reducible refine (HSo.out w5 _ _ ho5.sets).mono ?_); rintro e w6 ⟨d6, rfl, ho6, hE6⟩; obtain ⟨dA, dc, rfl⟩ := ho6.strs.shape; have h46 : Ext w4 w6 := Ext.trans (by (repeat (first | with_reducible exact Ext.refl _ | with_reducible assumption | with_reducible refine Ext.alloc ?_ _ | with_reducible refine Ext.drewN ?_ _ | with_reducible refine Ext.drew ?_ | (with_reducible refine Ext.setCell ?_ ?hp _; case hp => (simp <;> omega))))) hE6; have hX6 := hX4.trans h46; have hz46 : w4.heap.size ≤ w6.heap.size := h46.size; (first | (revert bz; intro bz; have bz6 : ∀ j, w6.cell? ⟨w4.heap.size, j, none⟩ = _ := fun j => (hE6.cell (p := ⟨w4.heap.size, j, none⟩) bzz).trans (bz j); have bf6 : ∀ j, w6.frozen? ⟨w4.heap.size, j, none⟩ = false := fun j => (hE6.frozen (p := ⟨w4.heap.size, j, none⟩) bzz).trans (bf j); have bzz6 : w4.heap.size < w6.heap.size := Nat.lt_of_lt_of_le bzz hE6.size) | skip)))
      all_goals
        go_wp2_with fail
        go_meet
      · exact ⟨w6.heap.size, dc, dA, rfl, rfl, rfl, (fun j => World.cell?_alloc_mark w6 _ _ _ j), h46.size, by simp, (ho6.strs.lower (Nat.zero_le _)).ext ((Ext.refl _).alloc _), h46.alloc _⟩
      · exact ⟨w5.heap.size, dc, dA, rfl, rfl, rfl, box5 bz6 (S (r.set.getD SetD.zero).name) (.int .u16 (r.set.getD SetD.zero).typ) (.int .u16 (r.set.getD SetD.zero).cls) (.int .u32 (r.set.getD SetD.zero).ttl) (.slice dA (r.set.getD SetD.zero).data.length dc), hz45, (by simp; omega), (ostrs_set5 ho6 (by simp) (S (r.set.getD SetD.zero).name) (.int .u16 (r.set.getD SetD.zero).typ) (.int .u16 (r.set.getD SetD.zero).cls) (.int .u32 (r.set.getD SetD.zero).ttl) (.slice dA (r.set.getD SetD.zero).data.length dc)).strs.lower (Nat.zero_le _), by (repeat (first | with_reducible exact Ext.refl _ | with_reducible assumption | with_reducible refine Ext.alloc ?_ _ | with_reducible refine Ext.drewN ?_ _ | with_reducible refine Ext.drew ?_ | (with_reducible refine Ext.setCell ?_ ?hp _; case hp => (simp <;> omega))))⟩
      · exact ⟨w4.heap.size, dc, dA, rfl, rfl, rfl, box5 bz6 (S (r.set.getD SetD.zero).name) (.int .u16 (r.set.getD SetD.zero).typ) (.int .u16 (r.set.getD SetD.zero).cls) (.int .u32 (r.set.getD SetD.zero).ttl) (.slice dA (r.set.getD SetD.zero).data.length dc), Nat.le_refl _, (by simp; omega), (ostrs_set5 ho6 (by simpa using bzz) (S (r.set.getD SetD.zero).name) (.int .u16 (r.set.getD SetD.zero).typ) (.int .u16 (r.set.getD SetD.zero).cls) (.int .u32 (r.set.getD SetD.zero).ttl) (.slice dA (r.set.getD SetD.zero).data.length dc)).strs.lower (Nat.zero_le _), by (repeat (first | with_reducible exact Ext.refl _ | with_reducible assumption | with_reducible refine Ext.alloc ?_ _ | with_reducible refine Ext.drewN ?_ _ | with_reducible refine Ext.drew ?_ | (with_reducible refine Ext.setCell ?_ ?hp _; case hp => (simp <;> omega))))⟩
    case rest =>
      obtain ⟨g, dc, dA, rfl, rfl, rfl, hgc, hgl, hgz, hst, hEx⟩ := hcut
      obtain ⟨Y, rfl⟩ : ∃ Y : World, Y = wc := ⟨_, rfl⟩
      have hXY := hX4.trans hEx
      have hwY := hwX.trans hXY
      have hsp : OSets Y w3.heap.size (.slice pA path.length pc) path := (osets_mk hps hpl.symm hpo hpd).ext hEx
      have kvY : ∀ j, Y.cell? ⟨w.heap.size + 1 + 1, j, none⟩ = _ := fun j => (hXY.cell (p := ⟨w.heap.size + 1 + 1, j, none⟩) zv).trans (kv j)
      have kfY : ∀ j, Y.frozen? ⟨w.heap.size + 1 + 1, j, none⟩ = false := fun j => (hXY.frozen (p := ⟨w.heap.size + 1 + 1, j, none⟩) zv).trans (kvf j)
      have hzY : w.heap.size + 1 + 1 < Y.heap.size := Nat.lt_of_lt_of_le zv hXY.size
      have hsbp : SetsBd path := fun s hs => hb1 s (hfi.path s hs)
      have hslp : path.length ≤ 65536 := by omega
      have HTl := Lib.hid (fun W (hW : Ext Y W) => ver_timeless _ _ path W (hsp.sets.ext hW) hsbp hslp)
      rcases r with ⟨st, er⟩
      dsimp only at *
      by_cases hre : er = 0
      rotate_left
      · have HR2 := Lib.hid (HR.out.trans (show verSoa 0 path ⟨st, er⟩ = VerR.bad er from if_neg hre))
        have f1 : ((er : Int) == 0) = false := by rw [beq_eq_false_iff_ne]; omega
        have f2 : ((er : Int) != 0) = true := by rw [bne, f1]; rfl
        clear hre
        go_wp2_with fail
        refine bodyPost_ret (v := .tuple #[.agg #[.int .u8 0, .slice none 0 0, .slice none 0 0], .int .u32 0, .int .i64 er]) (by simp [results, Tryz.results8, go_sem, kvY, kfY, hzY]) rfl ?_
        rw [HR2.out]
        exact ver_bad w _ er (by (repeat (first | with_reducible exact Ext.refl _ | with_reducible assumption | with_reducible refine Ext.alloc ?_ _ | with_reducible refine Ext.drewN ?_ _ | with_reducible refine Ext.drew ?_ | (with_reducible refine Ext.setCell ?_ ?hp _; case hp => (simp <;> omega)))))
      subst hre
      rcases st with _ | s
      · have HR2 := Lib.hid (HR.out.trans (show verSoa 0 path ⟨none, 0⟩ = ⟨0, path.map ttl0, [], 0, 0⟩ from rfl))
        dsimp only [Option.getD, Option.isSome] at *
        go_wp2_with fail
        go_region_held3 (fun V => V.cell? ⟨w.heap.size + 1, 10, none⟩ = some (.int .u8 0)) (exact HSc.out _ (by (repeat with_reducible refine offB_set ?_ _ _); exact offB_ext (by (repeat (first | with_reducible exact Ext.refl _ | with_reducible assumption | with_reducible refine Ext.alloc ?_ _ | with_reducible refine Ext.drewN ?_ _ | with_reducible refine Ext.drew ?_ | (with_reducible refine Ext.setCell ?_ ?hp _; case hp => (simp <;> omega))))))) (first | (go_at_call 28; (with_reducible refine (HTl.out _ (by (repeat (first | with_reducible exact Ext.refl _ | with_reducible assumption | with_reducible refine Ext.alloc ?_ _ | with_reducible refine Ext.drewN ?_ _ | with_reducible refine Ext.drew ?_ | (with_reducible refine Ext.setCell ?_ ?hp _; case hp => (simp <;> omega)))))).mono ?_); rintro e w7 ⟨vt, rfl, hot, hE7⟩; have hY7 : Ext Y w7 := Ext.trans (by (repeat (first | with_reducible exact Ext.refl _ | with_reducible assumption | with_reducible refine Ext.alloc ?_ _ | with_reducible refine Ext.drewN ?_ _ | with_reducible refine Ext.drew ?_ | (with_reducible refine Ext.setCell ?_ ?hp _; case hp => (simp <;> omega))))) hE7; have hX7 := hXY.trans hY7; have kv7 : ∀ j, w7.cell? ⟨w.heap.size + 1 + 1, j, none⟩ = _ := fun j => (hX7.cell (p := ⟨w.heap.size + 1 + 1, j, none⟩) zv).trans (kv j); have kf7 : ∀ j, w7.frozen? ⟨w.heap.size + 1 + 1, j, none⟩ = false := fun j => (hX7.frozen (p := ⟨w.heap.size + 1 + 1, j, none⟩) zv).trans (kvf j); have hz7 : w.heap.size + 1 + 1 < w7.heap.size := Nat.lt_of_lt_of_le zv hX7.size; obtain ⟨tA, tc, rfl, _, _⟩ := hot.shape; rw [List.length_map] at hot))
        go_wp2_with fail
        refine bodyPost_ret (v := .tuple #[.agg #[.int .u8 0, .slice tA path.length tc, .slice none 0 0], .int .u32 0, .int .i64 0]) (by simp [results, Tryz.results8, go_sem, kv7, kf7, hz7]) rfl ?_
        rw [HR2.out]
        exact ⟨_, _, rfl, (osets_set3 hot (show w.heap.size + 1 + 1 < Y.heap.size from hzY) _ _ _).lower (show w.heap.size ≤ Y.heap.size from hwY.size), OSets.nil _ _, .inl rfl, by have hz2 := hwX.trans hX7; (repeat (first | with_reducible exact Ext.refl _ | with_reducible assumption | with_reducible refine Ext.alloc ?_ _ | with_reducible refine Ext.drewN ?_ _ | with_reducible refine Ext.drew ?_ | (with_reducible refine Ext.setCell ?_ ?hp _; case hp => (simp <;> omega))))⟩
      · have HR2 := Lib.hid (HR.out.trans (show verSoa 0 path ⟨some s, 0⟩ = ⟨0, path.map ttl0, [ttl0 s], leastT path (soaTime s), 0⟩ from rfl))
        obtain ⟨hsm, _, hs1⟩ := Hin.out s rfl
        have hsb := hb2 s hsm
        dsimp only [Option.getD, Option.isSome] at *
        have HTi := Lib.hid (fun W (hW : Ext Y W) => soa_time 0 s _ W (hg.ext (hwY.trans hW)) (hst.ext hW) hsb.2.2)
        generalize soaTime s = tm at *
        have Hs1 := Lib.hid hs1
        clear hs1
        have HLe := Lib.hid (fun W (hW : Ext Y W) => ver_least _ _ path tm W (hsp.sets.ext hW))
        go_wp2_with fail
        refine (HTi.out _ (Ext.refl _)).mono ?_; rintro e w5 ⟨rfl, hE5⟩
        go_wp2_with fail
        refine (HLe.out _ hE5).mono ?_; rintro e w6 ⟨rfl, hE6⟩
        have hY6 := hE5.trans hE6
        have cmY := HSc.out _ (offB_ext hXY)
        have hne : g ≠ w.heap.size + 1 + 1 := by omega
        have HS18 := Lib.hid (show ∀ V, OffB (w.heap.size + 1 + 1) Y V → V.cell? ⟨w.heap.size + 1, 10, none⟩ = some (.int .u8 0) ∧ V.cell? ⟨g, 0, none⟩ = some (S s.name) ∧ V.cell? ⟨g, 1, none⟩ = some (.int .u16 s.typ) ∧ V.cell? ⟨g, 2, none⟩ = some (.int .u16 s.cls) ∧ V.cell? ⟨g, 3, none⟩ = some (.int .u32 s.ttl) ∧ V.cell? ⟨g, 4, none⟩ = some (.slice dA s.data.length dc) from fun V hV => ⟨(hV _ 10 (by omega) (by omega)).trans cmY, (hV g 0 hgz hne).trans (hgc 0), (hV g 1 hgz hne).trans (hgc 1), (hV g 2 hgz hne).trans (hgc 2), (hV g 3 hgz hne).trans (hgc 3), (hV g 4 hgz hne).trans (hgc 4)⟩)
        have hsb1 : SetsBd [s] := fun x hx => by rw [List.mem_singleton] at hx; subst hx; exact hsb
        have hs1l : [s].length ≤ 65536 := by simp
        have hY6z : Y.heap.size ≤ w6.heap.size := hY6.size
        go_wp2_with fail
        go_region_held3 (fun V => V.cell? ⟨w.heap.size + 1, 10, none⟩ = some (.int .u8 0) ∧ V.cell? ⟨g, 0, none⟩ = some (S s.name) ∧ V.cell? ⟨g, 1, none⟩ = some (.int .u16 s.typ) ∧ V.cell? ⟨g, 2, none⟩ = some (.int .u16 s.cls) ∧ V.cell? ⟨g, 3, none⟩ = some (.int .u32 s.ttl) ∧ V.cell? ⟨g, 4, none⟩ = some (.slice dA s.data.length dc)) (exact HS18.out _ (by (repeat with_reducible refine offB_set ?_ _ _); exact offB_ext (by (repeat (first | with_reducible exact Ext.refl _ | with_reducible assumption | with_reducible refine Ext.alloc ?_ _ | with_reducible refine Ext.drewN ?_ _ | with_reducible refine Ext.drew ?_ | (with_reducible refine Ext.setCell ?_ ?hp _; case hp => (simp <;> omega))))))) (first
          | (go_at_call 28; (with_reducible refine (HTl.out w6.drew (by (repeat (first | with_reducible exact Ext.refl _ | with_reducible assumption | with_reducible refine Ext.alloc ?_ _ | with_reducible refine Ext.drewN ?_ _ | with_reducible refine Ext.drew ?_ | (with_reducible refine Ext.setCell ?_ ?hp _; case hp => (simp <;> omega)))))).mono ?_); rintro e w7 ⟨vt, rfl, hot, hE7⟩; have hY7 : Ext Y w7 := Ext.trans (by (repeat (first | with_reducible exact Ext.refl _ | with_reducible assumption | with_reducible refine Ext.alloc ?_ _ | with_reducible refine Ext.drewN ?_ _ | with_reducible refine Ext.drew ?_ | (with_reducible refine Ext.setCell ?_ ?hp _; case hp => (simp <;> omega))))) hE7; have hw67 : w6.heap.size ≤ w7.heap.size := (by have := hE7.size; simp at this; omega); obtain ⟨tA, tc, rfl, _, _⟩ := hot.shape; rw [List.length_map] at hot)
          | (go_at_call 28; (with_reducible refine (HTl.out _ (by (repeat (first | with_reducible exact Ext.refl _ | with_reducible assumption | with_reducible refine Ext.alloc ?_ _ | with_reducible refine Ext.drewN ?_ _ | with_reducible refine Ext.drew ?_ | (with_reducible refine Ext.setCell ?_ ?hp _; case hp => (simp <;> omega)))))).mono ?_); rintro e w7 ⟨vt, rfl, hot, hE7⟩; have hY7 : Ext Y w7 := Ext.trans (by (repeat (first | with_reducible exact Ext.refl _ | with_reducible assumption | with_reducible refine Ext.alloc ?_ _ | with_reducible refine Ext.drewN ?_ _ | with_reducible refine Ext.drew ?_ | (with_reducible refine Ext.setCell ?_ ?hp _; case hp => (simp <;> omega))))) hE7; have hw67 : w6.heap.size ≤ w7.heap.size := (by have := hE7.size; simp at this; omega); obtain ⟨tA, tc, rfl, _, _⟩ := hot.shape; rw [List.length_map] at hot; obtain ⟨bz7, bf7, bzz7⟩ := ext_new (Ext.of_drewN 1 hE7))
          | (go_at_call 28; (first | (have hSl : Sets (w7.alloc (.cells #[S s.name, .int .u16 s.typ, .int .u16 s.cls, .int .u32 s.ttl, .slice dA s.data.length dc] 50)) 0 (.slice (some ⟨w7.heap.size, 0, none⟩) 1 1) [s] := sets_lit1 w7 _ rfl s (.slice dA s.data.length dc) (hst.ext hY7); (with_reducible refine (ver_timeless 0 _ [s] _ hSl hsb1 hs1l).mono ?_)) | (have hSl : Sets w7 0 (.slice (some ⟨w6.heap.size, 0, none⟩) 1 1) [s] := sets_cells1 (dv := .slice dA s.data.length dc) bz7 bzz7 (hst.ext hY7); (with_reducible refine (ver_timeless 0 _ [s] _ hSl hsb1 hs1l).mono ?_))); rintro e w8 ⟨vu, rfl, hou, hE8⟩; have h78 : Ext w7 w8 := Ext.trans (by (repeat (first | with_reducible exact Ext.refl _ | with_reducible assumption | with_reducible refine Ext.alloc ?_ _ | with_reducible refine Ext.drewN ?_ _ | with_reducible refine Ext.drew ?_ | (with_reducible refine Ext.setCell ?_ ?hp _; case hp => (simp <;> omega))))) hE8; have hY8 := hY7.trans h78; have hX8 := hXY.trans hY8; have hsep := sep_of hot hou (by simp); have kv8 : ∀ j, w8.cell? ⟨w.heap.size + 1 + 1, j, none⟩ = _ := fun j => (hX8.cell (p := ⟨w.heap.size + 1 + 1, j, none⟩) zv).trans (kv j); have kf8 : ∀ j, w8.frozen? ⟨w.heap.size + 1 + 1, j, none⟩ = false := fun j => (hX8.frozen (p := ⟨w.heap.size + 1 + 1, j, none⟩) zv).trans (kvf j); have hz8 : w.heap.size + 1 + 1 < w8.heap.size := Nat.lt_of_lt_of_le zv hX8.size; obtain ⟨oA, oc, rfl, _, _⟩ := hou.shape; rw [List.length_map] at hou))
        all_goals
          go_wp2_with fail
          refine bodyPost_ret (v := .tuple #[.agg #[.int .u8 0, .slice tA path.length tc, .slice oA 1 oc], .int .u32 (leastT path tm), .int .i64 0]) (by simp [results, Tryz.results8, go_sem, kv8, kf8, hz8]) rfl ?_
          rw [HR2.out]
          exact ⟨_, _, rfl, (osets_set3 (hot.ext h78) (by (try simp); omega) _ _ _).lower (by have := hwY.size; (try simp); omega), (osets_set3 hou (by (try simp); omega) _ _ _).lower (by have := hwY.size; (try simp); omega), hsep, by have hz2 := hwX.trans hX8; (repeat (first | with_reducible exact Ext.refl _ | with_reducible assumption | with_reducible refine Ext.alloc ?_ _ | with_reducible refine Ext.drewN ?_ _ | with_reducible refine Ext.drew ?_ | (with_reducible refine Ext.setCell ?_ ?hp _; case hp => (simp <;> omega))))⟩
  · go_wp2_with fail
    go_region_held3 (fun V => V.cell? ⟨w.heap.size, 0, none⟩ = some (S n) ∧ V.cell? ⟨w.heap.size, 1, none⟩ = some (.int .u16 ty) ∧ V.cell? ⟨w.heap.size, 2, none⟩ = some (.int .u16 cls) ∧ V.cell? ⟨w.heap.size + 1, 12, none⟩ = some (.slice aA ans.length ac)) (exact HS3.out _ (by (repeat with_reducible refine offB_set ?_ _ _); exact offB_ext (by (repeat (first | with_reducible exact Ext.refl _ | with_reducible assumption | with_reducible refine Ext.alloc ?_ _ | with_reducible refine Ext.drewN ?_ _ | with_reducible refine Ext.drew ?_ | (with_reducible refine Ext.setCell ?_ ?hp _; case hp => (simp <;> omega))))))) (first | (go_at_call 26; (with_reducible refine (HG1.out _ (hwX.trans (by (repeat (first | with_reducible exact Ext.refl _ | with_reducible assumption | with_reducible refine Ext.alloc ?_ _ | with_reducible refine Ext.drewN ?_ _ | with_reducible refine Ext.drew ?_ | (with_reducible refine Ext.setCell ?_ ?hp _; case hp => (simp <;> omega))))))).mono ?_); rintro e w3 ⟨g3, rfl, ho3, hE3⟩; have hX3 : Ext X w3 := Ext.trans (by (repeat (first | with_reducible exact Ext.refl _ | with_reducible assumption | with_reducible refine Ext.alloc ?_ _ | with_reducible refine Ext.drewN ?_ _ | with_reducible refine Ext.drew ?_ | (with_reducible refine Ext.setCell ?_ ?hp _; case hp => (simp <;> omega))))) hE3) | (go_at_call 25; (with_reducible refine (HF.out _ (hwX.trans hX3) _ _ ho3.sets).mono ?_); rintro e w4 ⟨vp, vf, wm, rfl, hop, hEm, hof, hEf⟩; have hX4 : Ext X w4 := (hX3.trans hEm).trans hEf))
    have hop4 := hop.ext hEf
    obtain ⟨ps, pA, pc, rfl, hps, hpl, hpo, hpd⟩ := hop4.opened
    obtain ⟨fs, fA, fc, rfl, hfs, hfl, hfo, hfd⟩ := hof.opened
    have hpc := hpo.cap
    have hfc := hfo.cap
    unfold maxLen at hpc hfc
    have hp8 := hfi.len
    have hf1 := hfi.one
    have hlo3 : w.heap.size ≤ w3.heap.size := (hwX.trans hX3).size
    have hlom : w3.heap.size ≤ wm.heap.size := hEm.size
    clear hof hop
    rcases R with ⟨path, here, fin, er⟩
    dsimp only at *
    by_cases he : er = 0
    rotate_left
    · have hR : verFol 3 cls auth ⟨path, here, fin, er⟩ = VerR.bad er := if_neg he
      have HR := Lib.hid hR
      have f1 : ((er : Int) == 0) = false := by rw [beq_eq_false_iff_ne]; omega
      have f2 : ((er : Int) != 0) = true := by rw [bne, f1]; rfl
      clear hR he
      have kv4 : ∀ j, w4.cell? ⟨w.heap.size + 1 + 1, j, none⟩ = _ := fun j => (hX4.cell (p := ⟨w.heap.size + 1 + 1, j, none⟩) zv).trans (kv j)
      have kf4 : ∀ j, w4.frozen? ⟨w.heap.size + 1 + 1, j, none⟩ = false := fun j => (hX4.frozen (p := ⟨w.heap.size + 1 + 1, j, none⟩) zv).trans (kvf j)
      have hz4 : w.heap.size + 1 + 1 < w4.heap.size := Nat.lt_of_lt_of_le zv hX4.size
      go_wp2_with fail
      refine bodyPost_ret (v := .tuple #[.agg #[.int .u8 0, .slice none 0 0, .slice none 0 0], .int .u32 0, .int .i64 er]) (by simp [results, Tryz.results8, go_sem, kv4, kf4, hz4]) rfl ?_
      rw [HR.out]
      exact ver_bad w _ er (by have hz2 := hwX.trans hX4; (repeat (first | with_reducible exact Ext.refl _ | with_reducible assumption | with_reducible refine Ext.alloc ?_ _ | with_reducible refine Ext.drewN ?_ _ | with_reducible refine Ext.drew ?_ | (with_reducible refine Ext.setCell ?_ ?hp _; case hp => (simp <;> omega)))))
    subst he
    by_cases hfe : fin = []
    rotate_left
    · have hR : verFol 3 cls auth ⟨path, here, fin, 0⟩ = verEnd 3 path fin := by show (if (0 : Nat) = 0 then (if fin = [] then _ else _) else _) = _; rw [if_pos rfl, if_neg hfe]
      have HR := Lib.hid hR
      have hfp : (0 : Int) < (fin.length : Int) := by have := List.length_pos_iff.2 hfe; omega
      have cm4 := HSc.out _ (offB_ext hX4)
      clear hR hfe
      have kv4 : ∀ j, w4.cell? ⟨w.heap.size + 1 + 1, j, none⟩ = _ := fun j => (hX4.cell (p := ⟨w.heap.size + 1 + 1, j, none⟩) zv).trans (kv j)
      have kf4 : ∀ j, w4.frozen? ⟨w.heap.size + 1 + 1, j, none⟩ = false := fun j => (hX4.frozen (p := ⟨w.heap.size + 1 + 1, j, none⟩) zv).trans (kvf j)
      have hz4 : w.heap.size + 1 + 1 < w4.heap.size := Nat.lt_of_lt_of_le zv hX4.size
      go_wp2_with fail
      refine bodyPost_ret (v := .tuple #[.agg #[.int .u8 0, .slice none 0 0, .slice none 0 0], .int .u32 0, .int .i64 3]) (by simp [results, Tryz.results8, go_sem, kv4, kf4, hz4]) rfl ?_
      rw [HR.out, show verEnd 3 path fin = VerR.bad 3 from rfl]
      exact ver_bad w _ 3 (by have hz2 := hwX.trans hX4; (repeat (first | with_reducible exact Ext.refl _ | with_reducible assumption | with_reducible refine Ext.alloc ?_ _ | with_reducible refine Ext.drewN ?_ _ | with_reducible refine Ext.drew ?_ | (with_reducible refine Ext.setCell ?_ ?hp _; case hp => (simp <;> omega)))))
    subst hfe
    have hR : verFol 3 cls auth ⟨path, here, [], 0⟩ = verSoa 3 path (soaFind (groupR auth) here cls) := by show (if (0 : Nat) = 0 then (if ([] : List SetD) = [] then _ else _) else _) = _; rw [if_pos rfl, if_pos rfl]
    have HR := Lib.hid hR
    have HSo := Lib.hid (fun W lo' v (hS : Sets W lo' v (groupR auth)) => soa_find lo' v _ here cls W hS hb2 (by unfold maxLen; omega))
    have Hin := Lib.hid (fun s (h : (soaFind (groupR auth) here cls).set = some s) => soa_mem h)
    generalize groupR auth = gs2 at *
    obtain ⟨r, hr⟩ : ∃ r, soaFind gs2 here cls = r := ⟨_, rfl⟩
    rw [hr] at HR HSo Hin
    clear hR hr
    have hz4 : w.heap.size + 1 + 1 < w4.heap.size := Nat.lt_of_lt_of_le zv hX4.size
    have hXz4 : X.heap.size ≤ w4.heap.size := hX4.size
    go_upto_region 12 with fail
    go_cut [6, 11, 12] (fun s6 s11 s12 wx => ∃ (g dc : Nat) (dA : Option Addr), s6 = .int .i64 r.err ∧ s11 = .pointer (some ⟨g, 0, none⟩) ∧ s12 = .bool r.set.isSome ∧ (∀ j, wx.cell? ⟨g, j, none⟩ = #[S (r.set.getD SetD.zero).name, .int .u16 (r.set.getD SetD.zero).typ, .int .u16 (r.set.getD SetD.zero).cls, .int .u32 (r.set.getD SetD.zero).ttl, .slice dA (r.set.getD SetD.zero).data.length dc][j]?) ∧ w4.heap.size ≤ g ∧ g < wx.heap.size ∧ Strs wx 0 (.slice dA (r.set.getD SetD.zero).data.length dc) (r.set.getD SetD.zero).data ∧ Ext w4 wx)
    case first =>
      go_region_held3 (fun V => V.cell? ⟨w.heap.size, 2, none⟩ = some (.int .u16 cls) ∧ V.cell? ⟨w.heap.size + 1, 13, none⟩ = some (.slice uA auth.length uc)) (exact HS12.out _ (by (repeat with_reducible refine offB_set ?_ _ _); exact offB_ext (by (repeat (first | with_reducible exact Ext.refl _ | with_reducible assumption | with_reducible refine Ext.alloc ?_ _ | with_reducible refine Ext.drewN ?_ _ | with_reducible refine Ext.drew ?_ | (with_reducible refine Ext.setCell ?_ ?hp _; case hp => (simp <;> omega))))))) (first
        | (go_at_call 26; (with_reducible refine (HG2.out w4.drew (hwX.trans (hX4.trans (by (repeat (first | with_reducible exact Ext.refl _ | with_reducible assumption | with_reducible refine Ext.alloc ?_ _ | with_reducible refine Ext.drewN ?_ _ | with_reducible refine Ext.drew ?_ | (with_reducible refine Ext.setCell ?_ ?hp _; case hp => (simp <;> omega)))))))).mono ?_); rintro e w5 ⟨g5, rfl, ho5, hE5⟩; have h45 : Ext w4 w5 := Ext.trans (by (repeat (first | with_reducible exact Ext.refl _ | with_reducible assumption | with_reducible refine Ext.alloc ?_ _ | with_reducible refine Ext.drewN ?_ _ | with_reducible refine Ext.drew ?_ | (with_reducible refine Ext.setCell ?_ ?hp _; case hp => (simp <;> omega))))) hE5; have hX5 := hX4.trans h45; have hz45 : w4.heap.size ≤ w5.heap.size := h45.size)
        | (go_at_call 26; (with_reducible refine (HG2.out _ (hwX.trans (hX4.trans (by (repeat (first | with_reducible exact Ext.refl _ | with_reducible assumption | with_reducible refine Ext.alloc ?_ _ | with_reducible refine Ext.drewN ?_ _ | with_reducible refine Ext.drew ?_ | (with_reducible refine Ext.setCell ?_ ?hp _; case hp => (simp <;> omega)))))))).mono ?_); rintro e w5 ⟨g5, rfl, ho5, hE5⟩; have h45 : Ext w4 w5 := Ext.trans (by (repeat (first | with_reducible exact Ext.refl _ | with_reducible assumption | with_reducible refine Ext.alloc ?_ _ | with_reducible refine Ext.drewN ?_ _ | with_reducible refine Ext.drew ?_ | (with_reducible refine Ext.setCell ?_ ?hp _; case hp => (simp <;> omega))))) hE5; have hX5 := hX4.trans h45; have hz45 : w4.heap.size ≤ w5.heap.size := h45.size; obtain ⟨bz, bf, bzz⟩ := ext_new (Ext.of_drewN 1 hE5))
        | (go_at_call 29; (with_reducible refine (HSo.out (w5.alloc (.cells #[S [], .int .u16 0, .int .u16 0, .int .u32 0, .slice none 0 0] 50)) _ _ (ho5.sets.ext (by (repeat (first | with_reducible exact Ext.refl _ | with_reducible assumption | with_reducible refine Ext.alloc ?_ _ | with_reducible refine Ext.drewN ?_ _ | with_reducible refine Ext.drew ?_ | (with_reducible refine Ext.setCell ?_ ?hp _; case hp => (simp <;> omega))))))).mono ?_); rintro e w6 ⟨d6, rfl, ho6, hE6⟩; obtain ⟨dA, dc, rfl⟩ := ho6.strs.shape; have h46 : Ext w4 w6 := Ext.trans (by (repeat (first | with_reducible exact Ext.refl _ | with_reducible assumption | with_reducible refine Ext.alloc ?_ _ | with_reducible refine Ext.drewN ?_ _ | with_reducible refine Ext.drew ?_ | (with_reducible refine Ext.setCell ?_ ?hp _; case hp => (simp <;> omega))))) hE6; have hX6 := hX4.trans h46; have hz46 : w4.heap.size ≤ w6.heap.size := h46.size; obtain ⟨bz6, bf6, bzz6⟩ := ext_new hE6)
        | (go_at_call 29; (with_reducible refine (HSo.out w5 _ _ ho5.sets).mono ?_); rintro e w6 ⟨d6, rfl, ho6, hE6⟩; obtain ⟨dA, dc, rfl⟩ := ho6.strs.shape; have h46 : Ext w4 w6 := Ext.trans (by (repeat (first | with_reducible exact Ext.refl _ | with_reducible assumption | with_reducible refine Ext.alloc ?_ _ | with_reducible refine Ext.drewN ?_ _ | with_reducible refine Ext.drew ?_ | (with_reducible refine Ext.setCell ?_ ?hp _; case hp => (simp <;> omega))))) hE6; have hX6 := hX4.trans h46; have hz46 : w4.heap.size ≤ w6.heap.size := h46.size; (first | (revert bz; intro bz; have bz6 : ∀ j, w6.cell? ⟨w4.heap.size, j, none⟩ = _ := fun j => (hE6.cell (p := ⟨w4.heap.size, j, none⟩) bzz).trans (bz j); have bf6 : ∀ j, w6.frozen? ⟨w4.heap.size, j, none⟩ = false := fun j => (hE6.frozen (p := ⟨w4.heap.size, j, none⟩) bzz).trans (bf j); have bzz6 : w4.heap.size < w6.heap.size := Nat.lt_of_lt_of_le bzz hE6.size) | skip)))
      all_goals
        go_wp2_with fail
        go_meet
      · exact ⟨w6.heap.size, dc, dA, rfl, rfl, rfl, (fun j => World.cell?_alloc_mark w6 _ _ _ j), h46.size, by simp, (ho6.strs.lower (Nat.zero_le _)).ext ((Ext.refl _).alloc _), h46.alloc _⟩
      · exact ⟨w5.heap.size, dc, dA, rfl, rfl, rfl, box5 bz6 (S (r.set.getD SetD.zero).name) (.int .u16 (r.set.getD SetD.zero).typ) (.int .u16 (r.set.getD SetD.zero).cls) (.int .u32 (r.set.getD SetD.zero).ttl) (.slice dA (r.set.getD SetD.zero).data.length dc), hz45, (by simp; omega), (ostrs_set5 ho6 (by simp) (S (r.set.getD SetD.zero).name) (.int .u16 (r.set.getD SetD.zero).typ) (.int .u16 (r.set.getD SetD.zero).cls) (.int .u32 (r.set.getD SetD.zero).ttl) (.slice dA (r.set.getD SetD.zero).data.length dc)).strs.lower (Nat.zero_le _), by (repeat (first | with_reducible exact Ext.refl _ | with_reducible assumption | with_reducible refine Ext.alloc ?_ _ | with_reducible refine Ext.drewN ?_ _ | with_reducible refine Ext.drew ?_ | (with_reducible refine Ext.setCell ?_ ?hp _; case hp => (simp <;> omega))))⟩
      · exact ⟨w4.heap.size, dc, dA, rfl, rfl, rfl, box5 bz6 (S (r.set.getD SetD.zero).name) (.int .u16 (r.set.getD SetD.zero).typ) (.int .u16 (r.set.getD SetD.zero).cls) (.int .u32 (r.set.getD SetD.zero).ttl) (.slice dA (r.set.getD SetD.zero).data.length dc), Nat.le_refl _, (by simp; omega), (ostrs_set5 ho6 (by simpa using bzz) (S (r.set.getD SetD.zero).name) (.int .u16 (r.set.getD SetD.zero).typ) (.int .u16 (r.set.getD SetD.zero).cls) (.int .u32 (r.set.getD SetD.zero).ttl) (.slice dA (r.set.getD SetD.zero).data.length dc)).strs.lower (Nat.zero_le _), by (repeat (first | with_reducible exact Ext.refl _ | with_reducible assumption | with_reducible refine Ext.alloc ?_ _ | with_reducible refine Ext.drewN ?_ _ | with_reducible refine Ext.drew ?_ | (with_reducible refine Ext.setCell ?_ ?hp _; case hp => (simp <;> omega))))⟩
    case rest =>
      obtain ⟨g, dc, dA, rfl, rfl, rfl, hgc, hgl, hgz, hst, hEx⟩ := hcut
      obtain ⟨Y, rfl⟩ : ∃ Y : World, Y = wc := ⟨_, rfl⟩
      have hXY := hX4.trans hEx
      have hwY := hwX.trans hXY
      have hsp : OSets Y w3.heap.size (.slice pA path.length pc) path := (osets_mk hps hpl.symm hpo hpd).ext hEx
      have kvY : ∀ j, Y.cell? ⟨w.heap.size + 1 + 1, j, none⟩ = _ := fun j => (hXY.cell (p := ⟨w.heap.size + 1 + 1, j, none⟩) zv).trans (kv j)
      have kfY : ∀ j, Y.frozen? ⟨w.heap.size + 1 + 1, j, none⟩ = false := fun j => (hXY.frozen (p := ⟨w.heap.size + 1 + 1, j, none⟩) zv).trans (kvf j)
      have hzY : w.heap.size + 1 + 1 < Y.heap.size := Nat.lt_of_lt_of_le zv hXY.size
      have hsbp : SetsBd path := fun s hs => hb1 s (hfi.path s hs)
      have hslp : path.length ≤ 65536 := by omega
      have HTl := Lib.hid (fun W (hW : Ext Y W) => ver_timeless _ _ path W (hsp.sets.ext hW) hsbp hslp)
      rcases r with ⟨st, er⟩
      dsimp only at *
      by_cases hre : er = 0
      rotate_left
      · have HR2 := Lib.hid (HR.out.trans (show verSoa 3 path ⟨st, er⟩ = VerR.bad er from if_neg hre))
        have f1 : ((er : Int) == 0) = false := by rw [beq_eq_false_iff_ne]; omega
        have f2 : ((er : Int) != 0) = true := by rw [bne, f1]; rfl
        clear hre
        go_wp2_with fail
        refine bodyPost_ret (v := .tuple #[.agg #[.int .u8 0, .slice none 0 0, .slice none 0 0], .int .u32 0, .int .i64 er]) (by simp [results, Tryz.results8, go_sem, kvY, kfY, hzY]) rfl ?_
        rw [HR2.out]
        exact ver_bad w _ er (by (repeat (first | with_reducible exact Ext.refl _ | with_reducible assumption | with_reducible refine Ext.alloc ?_ _ | with_reducible refine Ext.drewN ?_ _ | with_reducible refine Ext.drew ?_ | (with_reducible refine Ext.setCell ?_ ?hp _; case hp => (simp <;> omega)))))
      subst hre
      rcases st with _ | s
      · have HR2 := Lib.hid (HR.out.trans (show verSoa 3 path ⟨none, 0⟩ = ⟨3, path.map ttl0, [], 0, 0⟩ from rfl))
        dsimp only [Option.getD, Option.isSome] at *
        go_wp2_with fail
        go_region_held3 (fun V => V.cell? ⟨w.heap.size + 1, 10, none⟩ = some (.int .u8 3)) (exact HSc.out _ (by (repeat with_reducible refine offB_set ?_ _ _); exact offB_ext (by (repeat (first | with_reducible exact Ext.refl _ | with_reducible assumption | with_reducible refine Ext.alloc ?_ _ | with_reducible refine Ext.drewN ?_ _ | with_reducible refine Ext.drew ?_ | (with_reducible refine Ext.setCell ?_ ?hp _; case hp => (simp <;> omega))))))) (first | (go_at_call 28; (with_reducible refine (HTl.out _ (by (repeat (first | with_reducible exact Ext.refl _ | with_reducible assumption | with_reducible refine Ext.alloc ?_ _ | with_reducible refine Ext.drewN ?_ _ | with_reducible refine Ext.drew ?_ | (with_reducible refine Ext.setCell ?_ ?hp _; case hp => (simp <;> omega)))))).mono ?_); rintro e w7 ⟨vt, rfl, hot, hE7⟩; have hY7 : Ext Y w7 := Ext.trans (by (repeat (first | with_reducible exact Ext.refl _ | with_reducible assumption | with_reducible refine Ext.alloc ?_ _ | with_reducible refine Ext.drewN ?_ _ | with_reducible refine Ext.drew ?_ | (with_reducible refine Ext.setCell ?_ ?hp _; case hp => (simp <;> omega))))) hE7; have hX7 := hXY.trans hY7; have kv7 : ∀ j, w7.cell? ⟨w.heap.size + 1 + 1, j, none⟩ = _ := fun j => (hX7.cell (p := ⟨w.heap.size + 1 + 1, j, none⟩) zv).trans (kv j); have kf7 : ∀ j, w7.frozen? ⟨w.heap.size + 1 + 1, j, none⟩ = false := fun j => (hX7.frozen (p := ⟨w.heap.size + 1 + 1, j, none⟩) zv).trans (kvf j); have hz7 : w.heap.size + 1 + 1 < w7.heap.size := Nat.lt_of_lt_of_le zv hX7.size; obtain ⟨tA, tc, rfl, _, _⟩ := hot.shape; rw [List.length_map] at hot))
        go_wp2_with fail
        refine bodyPost_ret (v := .tuple #[.agg #[.int .u8 3, .slice tA path.length tc, .slice none 0 0], .int .u32 0, .int .i64 0]) (by simp [results, Tryz.results8, go_sem, kv7, kf7, hz7]) rfl ?_
        rw [HR2.out]
        exact ⟨_, _, rfl, (osets_set3 hot (show w.heap.size + 1 + 1 < Y.heap.size from hzY) _ _ _).lower (show w.heap.size ≤ Y.heap.size from hwY.size), OSets.nil _ _, .inl rfl, by have hz2 := hwX.trans hX7; (repeat (first | with_reducible exact Ext.refl _ | with_reducible assumption | with_reducible refine Ext.alloc ?_ _ | with_reducible refine Ext.drewN ?_ _ | with_reducible refine Ext.drew ?_ | (with_reducible refine Ext.setCell ?_ ?hp _; case hp => (simp <;> omega))))⟩
      · have HR2 := Lib.hid (HR.out.trans (show verSoa 3 path ⟨some s, 0⟩ = ⟨3, path.map ttl0, [ttl0 s], leastT path (soaTime s), 0⟩ from rfl))
        obtain ⟨hsm, _, hs1⟩ := Hin.out s rfl
        have hsb := hb2 s hsm
        dsimp only [Option.getD, Option.isSome] at *
        have HTi := Lib.hid (fun W (hW : Ext Y W) => soa_time 0 s _ W (hg.ext (hwY.trans hW)) (hst.ext hW) hsb.2.2)
        generalize soaTime s = tm at *
        have Hs1 := Lib.hid hs1
        clear hs1
        have HLe := Lib.hid (fun W (hW : Ext Y W) => ver_least _ _ path tm W (hsp.sets.ext hW))
        go_wp2_with fail
        refine (HTi.out _ (Ext.refl _)).mono ?_; rintro e w5 ⟨rfl, hE5⟩
        go_wp2_with fail
        refine (HLe.out _ hE5).mono ?_; rintro e w6 ⟨rfl, hE6⟩
        have hY6 := hE5.trans hE6
        have cmY := HSc.out _ (offB_ext hXY)
        have hne : g ≠ w.heap.size + 1 + 1 := by omega
        have HS18 := Lib.hid (show ∀ V, OffB (w.heap.size + 1 + 1) Y V → V.cell? ⟨w.heap.size + 1, 10, none⟩ = some (.int .u8 3) ∧ V.cell? ⟨g, 0, none⟩ = some (S s.name) ∧ V.cell? ⟨g, 1, none⟩ = some (.int .u16 s.typ) ∧ V.cell? ⟨g, 2, none⟩ = some (.int .u16 s.cls) ∧ V.cell? ⟨g, 3, none⟩ = some (.int .u32 s.ttl) ∧ V.cell? ⟨g, 4, none⟩ = some (.slice dA s.data.length dc) from fun V hV => ⟨(hV _ 10 (by omega) (by omega)).trans cmY, (hV g 0 hgz hne).trans (hgc 0), (hV g 1 hgz hne).trans (hgc 1), (hV g 2 hgz hne).trans (hgc 2), (hV g 3 hgz hne).trans (hgc 3), (hV g 4 hgz hne).trans (hgc 4)⟩)
        have hsb1 : SetsBd [s] := fun x hx => by rw [List.mem_singleton] at hx; subst hx; exact hsb
        have hs1l : [s].length ≤ 65536 := by simp
        have hY6z : Y.heap.size ≤ w6.heap.size := hY6.size
        go_wp2_with fail
        go_region_held3 (fun V => V.cell? ⟨w.heap.size + 1, 10, none⟩ = some (.int .u8 3) ∧ V.cell? ⟨g, 0, none⟩ = some (S s.name) ∧ V.cell? ⟨g, 1, none⟩ = some (.int .u16 s.typ) ∧ V.cell? ⟨g, 2, none⟩ = some (.int .u16 s.cls) ∧ V.cell? ⟨g, 3, none⟩ = some (.int .u32 s.ttl) ∧ V.cell? ⟨g, 4, none⟩ = some (.slice dA s.data.length dc)) (exact HS18.out _ (by (repeat with_reducible refine offB_set ?_ _ _); exact offB_ext (by (repeat (first | with_reducible exact Ext.refl _ | with_reducible assumption | with_reducible refine Ext.alloc ?_ _ | with_reducible refine Ext.drewN ?_ _ | with_reducible refine Ext.drew ?_ | (with_reducible refine Ext.setCell ?_ ?hp _; case hp => (simp <;> omega))))))) (first
          | (go_at_call 28; (with_reducible refine (HTl.out w6.drew (by (repeat (first | with_reducible exact Ext.refl _ | with_reducible assumption | with_reducible refine Ext.alloc ?_ _ | with_reducible refine Ext.drewN ?_ _ | with_reducible refine Ext.drew ?_ | (with_reducible refine Ext.setCell ?_ ?hp _; case hp => (simp <;> omega)))))).mono ?_); rintro e w7 ⟨vt, rfl, hot, hE7⟩; have hY7 : Ext Y w7 := Ext.trans (by (repeat (first | with_reducible exact Ext.refl _ | with_reducible assumption | with_reducible refine Ext.alloc ?_ _ | with_reducible refine Ext.drewN ?_ _ | with_reducible refine Ext.drew ?_ | (with_reducible refine Ext.setCell ?_ ?hp _; case hp => (simp <;> omega))))) hE7; have hw67 : w6.heap.size ≤ w7.heap.size := (by have := hE7.size; simp at this; omega); obtain ⟨tA, tc, rfl, _, _⟩ := hot.shape; rw [List.length_map] at hot)
          | (go_at_call 28; (with_reducible refine (HTl.out _ (by (repeat (first | with_reducible exact Ext.refl _ | with_reducible assumption | with_reducible refine Ext.alloc ?_ _ | with_reducible refine Ext.drewN ?_ _ | with_reducible refine Ext.drew ?_ | (with_reducible refine Ext.setCell ?_ ?hp _; case hp => (simp <;> omega)))))).mono ?_); rintro e w7 ⟨vt, rfl, hot, hE7⟩; have hY7 : Ext Y w7 := Ext.trans (by (repeat (first | with_reducible exact Ext.refl _ | with_reducible assumption | with_reducible refine Ext.alloc ?_ _ | with_reducible refine Ext.drewN ?_ _ | with_reducible refine Ext.drew ?_ | (with_reducible refine Ext.setCell ?_ ?hp _; case hp => (simp <;> omega))))) hE7; have hw67 : w6.heap.size ≤ w7.heap.size := (by have := hE7.size; simp at this; omega); obtain ⟨tA, tc, rfl, _, _⟩ := hot.shape; rw [List.length_map] at hot; obtain ⟨bz7, bf7, bzz7⟩ := ext_new (Ext.of_drewN 1 hE7))
          | (go_at_call 28; (first | (have hSl : Sets (w7.alloc (.cells #[S s.name, .int .u16 s.typ, .int .u16 s.cls, .int .u32 s.ttl, .slice dA s.data.length dc] 50)) 0 (.slice (some ⟨w7.heap.size, 0, none⟩) 1 1) [s] := sets_lit1 w7 _ rfl s (.slice dA s.data.length dc) (hst.ext hY7); (with_reducible refine (ver_timeless 0 _ [s] _ hSl hsb1 hs1l).mono ?_)) | (have hSl : Sets w7 0 (.slice (some ⟨w6.heap.size, 0, none⟩) 1 1) [s] := sets_cells1 (dv := .slice dA s.data.length dc) bz7 bzz7 (hst.ext hY7); (with_reducible refine (ver_timeless 0 _ [s] _ hSl hsb1 hs1l).mono ?_))); rintro e w8 ⟨vu, rfl, hou, hE8⟩; have h78 : Ext w7 w8 := Ext.trans (by (repeat (first | with_reducible exact Ext.refl _ | with_reducible assumption | with_reducible refine Ext.alloc ?_ _ | with_reducible refine Ext.drewN ?_ _ | with_reducible refine Ext.drew ?_ | (with_reducible refine Ext.setCell ?_ ?hp _; case hp => (simp <;> omega))))) hE8; have hY8 := hY7.trans h78; have hX8 := hXY.trans hY8; have hsep := sep_of hot hou (by simp); have kv8 : ∀ j, w8.cell? ⟨w.heap.size + 1 + 1, j, none⟩ = _ := fun j => (hX8.cell (p := ⟨w.heap.size + 1 + 1, j, none⟩) zv).trans (kv j); have kf8 : ∀ j, w8.frozen? ⟨w.heap.size + 1 + 1, j, none⟩ = false := fun j => (hX8.frozen (p := ⟨w.heap.size + 1 + 1, j, none⟩) zv).trans (kvf j); have hz8 : w.heap.size + 1 + 1 < w8.heap.size := Nat.lt_of_lt_of_le zv hX8.size; obtain ⟨oA, oc, rfl, _, _⟩ := hou.shape; rw [List.length_map] at hou))
        all_goals
          go_wp2_with fail
          refine bodyPost_ret (v := .tuple #[.agg #[.int .u8 3, .slice tA path.length tc, .slice oA 1 oc], .int .u32 (leastT path tm), .int .i64 0]) (by simp [results, Tryz.results8, go_sem, kv8, kf8, hz8]) rfl ?_
          rw [HR2.out]
          exact ⟨_, _, rfl, (osets_set3 (hot.ext h78) (by (try simp); omega) _ _ _).lower (by have := hwY.size; (try simp); omega), (osets_set3 hou (by (try simp); omega) _ _ _).lower (by have := hwY.size; (try simp); omega), hsep, by have hz2 := hwX.trans hX8; (repeat (first | with_reducible exact Ext.refl _ | with_reducible assumption | with_reducible refine Ext.alloc ?_ _ | with_reducible refine Ext.drewN ?_ _ | with_reducible refine Ext.drew ?_ | (with_reducible refine Ext.setCell ?_ ?hp _; case hp => (simp <;> omega))))⟩
end Go.Proofs.YtcpikbanghoflaaGreatDoor
