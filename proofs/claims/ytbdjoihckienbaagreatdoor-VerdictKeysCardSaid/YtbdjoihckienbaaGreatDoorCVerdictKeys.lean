/- hustingslaw11.VerdictKeys returns true for every input, and every argument reads behind the call as it read before; the listed variable (errors.errorType) is tied to the program's text. No condition of ours. -/
import Derived.Test.YtbdjoihckienbaaGreatDoorBx
import Derived.Test.YtbdjoihckienbaaGreatDoorBu
import Derived.Test.YtbdjoihckienbaaGreatDoorBz
import Derived.Test.YtbdjoihckienbaaGreatDoorBq
import Derived.Test.YtbdjoihckienbaaGreatDoorBn
import Derived.Test.YtbdjoihckienbaaGreatDoorBy
namespace Go.Proofs.YtbdjoihckienbaaGreatDoor
set_option linter.unusedSimpArgs false
set_option linter.unusedVariables false
open Go.RowKit
set_option maxRecDepth 100000

theorem heap_new_at (w : World) (o : Obj) (g : Nat) (hg : g = w.heap.size) : (w.alloc o).heap[g]? = some o := by subst hg; exact heap_alloc_new w o
section
variable {P : Program} {ops : Array Oper} {Q : Exit → Act → World → Prop}
/-- A struct's box, whole, loaded at once; the operation may be guarded. -/
theorem wpList_load_rowG {rest : List Oper} {o : Oper} {a : Act} {w : World} (hwn : Region.wanted o (yielded ops a.tmps) = true) (ty : TypeId) (x : Operand) (ho : o.op = .load ty x)
    (g : Nat) (hx : a.eval x = .pointer (some ⟨g, 0, none⟩)) (t : TypeId) (cs : Array Value) (fr : Nat × Nat) (d : TypeDesc) (hg : w.heap[g]? = some (.cells cs t fr))
    (hu : P.underlying ty = some d) (hd : (match d with | .struct _ | .array _ _ => true | _ => false) = true) (hi : (P.info? ty).map (·.size) = some cs.size)
    (h : wpList P ops Q rest (a.put o.dst (.agg cs)) w) : wpList P ops Q (o :: rest) a w :=
  wpList_step fun K hK => by
    rw [if_pos hwn]
    exact wp_load_row ty x ho g hx t cs fr d hg hu hd hi (hK _ _ h)
end
theorem recsOk_of {l : List RecD} (h : ∀ r ∈ l, RecOk r) : RecsOk l := fun r hr => ⟨(h r hr).2.2.1, (h r hr).2.2.2.1⟩
set_option maxHeartbeats 8000000 in
theorem law_verdictKeys (x1 : MsgX) (n1 : List UInt8) (ty1 cls1 code1 : Int) (aA1 : Option Addr) (ac1 : Nat) (uA1 : Option Addr) (uc1 : Nat) (ans1 auth1 ext1 : List RecD) (x2 : MsgX) (n2 : List UInt8) (ty2 cls2 code2 : Int) (aA2 : Option Addr) (ac2 : Nat) (uA2 : Option Addr) (uc2 : Nat) (ans2 auth2 ext2 : List RecD) (w : World) (hg : Laid w) (ha1 : Recs w 0 (.slice aA1 ans1.length ac1) ans1) (hu1 : Recs w 0 (.slice uA1 auth1.length uc1) auth1) (hx1 : Recs w 0 (.slice x1.xA x1.xn x1.xc) ext1) (hao1 : ∀ r ∈ ans1, RecOk r) (huo1 : ∀ r ∈ auth1, RecOk r) (hxo1 : ∀ r ∈ ext1, RecOk r) (hn1 : n1.length ≤ maxLen) (hq1 : x1.qn ≤ maxLen) (ha2 : Recs w 0 (.slice aA2 ans2.length ac2) ans2) (hu2 : Recs w 0 (.slice uA2 auth2.length uc2) auth2) (hx2 : Recs w 0 (.slice x2.xA x2.xn x2.xc) ext2) (hao2 : ∀ r ∈ ans2, RecOk r) (huo2 : ∀ r ∈ auth2, RecOk r) (hxo2 : ∀ r ∈ ext2, RecOk r) (hn2 : n2.length ≤ maxLen) (hq2 : x2.qn ≤ maxLen) :
    Calls Tryz.prog 6 #[.agg #[S n1, .int .u16 ty1, .int .u16 cls1], .agg #[S n2, .int .u16 ty2, .int .u16 cls2], msgV x1 code1 (.slice aA1 ans1.length ac1) (.slice uA1 auth1.length uc1), msgV x2 code2 (.slice aA2 ans2.length ac2) (.slice uA2 auth2.length uc2)] w fun e w' => e = .returned (.bool true) ∧ Ext w w' := by
  have HL1 := Lib.hid (fun W (hW : Ext w W) => law11_large x1 n1 ty1 cls1 code1 0 aA1 ac1 uA1 uc1 ans1 auth1 ext1 W (ha1.ext hW) (hu1.ext hW) (hx1.ext hW) hao1 huo1 hxo1 hn1 hq1)
  have HL2 := Lib.hid (fun W (hW : Ext w W) => law11_large x2 n2 ty2 cls2 code2 0 aA2 ac2 uA2 uc2 ans2 auth2 ext2 W (ha2.ext hW) (hu2.ext hW) (hx2.ext hW) hao2 huo2 hxo2 hn2 hq2)
  have HA := Lib.hid (fun W (hW : Ext w W) => law11_awake W (hg.ext hW))
  rcases hb1 : largeM n1 ans1 auth1 ext1 x1.qn with _ | _
  rotate_left
  · rw [hb1] at HL1
    clear hb1
    obtain ⟨X, hX⟩ : ∃ X, X = ((((w.alloc (.cells #[S n1, .int .u16 ty1, .int .u16 cls1] 24)).alloc (.cells #[S n2, .int .u16 ty2, .int .u16 cls2] 24)).alloc (.cells #[.int .u16 x1.id, .bool x1.qr, .int .u8 x1.op, .bool x1.aa, .bool x1.tc, .bool x1.rd, .bool x1.ra, .bool x1.z, .bool x1.ad, .bool x1.cd, .int .u8 code1, .slice x1.qA x1.qn x1.qc, .slice aA1 ans1.length ac1, .slice uA1 auth1.length uc1, .slice x1.xA x1.xn x1.xc, .bool x1.he, .int .u16 x1.es, .int .u8 x1.ee, .int .u8 x1.ev, .int .u16 x1.ef, .slice x1.oA x1.on x1.oc] 33)).alloc (.cells #[.int .u16 x2.id, .bool x2.qr, .int .u8 x2.op, .bool x2.aa, .bool x2.tc, .bool x2.rd, .bool x2.ra, .bool x2.z, .bool x2.ad, .bool x2.cd, .int .u8 code2, .slice x2.qA x2.qn x2.qc, .slice aA2 ans2.length ac2, .slice uA2 auth2.length uc2, .slice x2.xA x2.xn x2.xc, .bool x2.he, .int .u16 x2.es, .int .u8 x2.ee, .int .u8 x2.ev, .int .u16 x2.ef, .slice x2.oA x2.on x2.oc] 33)) := ⟨_, rfl⟩
    obtain ⟨kp, _, zkp⟩ := ext_new_at (w.heap.size) (by simp) (((((Ext.refl (w.alloc (.cells #[S n1, .int .u16 ty1, .int .u16 cls1] 24))).alloc (.cells #[S n2, .int .u16 ty2, .int .u16 cls2] 24)).alloc (.cells #[.int .u16 x1.id, .bool x1.qr, .int .u8 x1.op, .bool x1.aa, .bool x1.tc, .bool x1.rd, .bool x1.ra, .bool x1.z, .bool x1.ad, .bool x1.cd, .int .u8 code1, .slice x1.qA x1.qn x1.qc, .slice aA1 ans1.length ac1, .slice uA1 auth1.length uc1, .slice x1.xA x1.xn x1.xc, .bool x1.he, .int .u16 x1.es, .int .u8 x1.ee, .int .u8 x1.ev, .int .u16 x1.ef, .slice x1.oA x1.on x1.oc] 33)).alloc (.cells #[.int .u16 x2.id, .bool x2.qr, .int .u8 x2.op, .bool x2.aa, .bool x2.tc, .bool x2.rd, .bool x2.ra, .bool x2.z, .bool x2.ad, .bool x2.cd, .int .u8 code2, .slice x2.qA x2.qn x2.qc, .slice aA2 ans2.length ac2, .slice uA2 auth2.length uc2, .slice x2.xA x2.xn x2.xc, .bool x2.he, .int .u16 x2.es, .int .u8 x2.ee, .int .u8 x2.ev, .int .u16 x2.ef, .slice x2.oA x2.on x2.oc] 33)))
    obtain ⟨kq, _, zkq⟩ := ext_new_at (w.heap.size + 1) (by simp) ((((Ext.refl ((w.alloc (.cells #[S n1, .int .u16 ty1, .int .u16 cls1] 24)).alloc (.cells #[S n2, .int .u16 ty2, .int .u16 cls2] 24))).alloc (.cells #[.int .u16 x1.id, .bool x1.qr, .int .u8 x1.op, .bool x1.aa, .bool x1.tc, .bool x1.rd, .bool x1.ra, .bool x1.z, .bool x1.ad, .bool x1.cd, .int .u8 code1, .slice x1.qA x1.qn x1.qc, .slice aA1 ans1.length ac1, .slice uA1 auth1.length uc1, .slice x1.xA x1.xn x1.xc, .bool x1.he, .int .u16 x1.es, .int .u8 x1.ee, .int .u8 x1.ev, .int .u16 x1.ef, .slice x1.oA x1.on x1.oc] 33)).alloc (.cells #[.int .u16 x2.id, .bool x2.qr, .int .u8 x2.op, .bool x2.aa, .bool x2.tc, .bool x2.rd, .bool x2.ra, .bool x2.z, .bool x2.ad, .bool x2.cd, .int .u8 code2, .slice x2.qA x2.qn x2.qc, .slice aA2 ans2.length ac2, .slice uA2 auth2.length uc2, .slice x2.xA x2.xn x2.xc, .bool x2.he, .int .u16 x2.es, .int .u8 x2.ee, .int .u8 x2.ev, .int .u16 x2.ef, .slice x2.oA x2.on x2.oc] 33)))
    obtain ⟨km, _, zkm⟩ := ext_new_at (w.heap.size + 1 + 1) (by simp) (((Ext.refl (((w.alloc (.cells #[S n1, .int .u16 ty1, .int .u16 cls1] 24)).alloc (.cells #[S n2, .int .u16 ty2, .int .u16 cls2] 24)).alloc (.cells #[.int .u16 x1.id, .bool x1.qr, .int .u8 x1.op, .bool x1.aa, .bool x1.tc, .bool x1.rd, .bool x1.ra, .bool x1.z, .bool x1.ad, .bool x1.cd, .int .u8 code1, .slice x1.qA x1.qn x1.qc, .slice aA1 ans1.length ac1, .slice uA1 auth1.length uc1, .slice x1.xA x1.xn x1.xc, .bool x1.he, .int .u16 x1.es, .int .u8 x1.ee, .int .u8 x1.ev, .int .u16 x1.ef, .slice x1.oA x1.on x1.oc] 33))).alloc (.cells #[.int .u16 x2.id, .bool x2.qr, .int .u8 x2.op, .bool x2.aa, .bool x2.tc, .bool x2.rd, .bool x2.ra, .bool x2.z, .bool x2.ad, .bool x2.cd, .int .u8 code2, .slice x2.qA x2.qn x2.qc, .slice aA2 ans2.length ac2, .slice uA2 auth2.length uc2, .slice x2.xA x2.xn x2.xc, .bool x2.he, .int .u16 x2.es, .int .u8 x2.ee, .int .u8 x2.ev, .int .u16 x2.ef, .slice x2.oA x2.on x2.oc] 33)))
    obtain ⟨kn, _, zkn⟩ := ext_new_at (w.heap.size + 1 + 1 + 1) (by simp) (Ext.refl ((((w.alloc (.cells #[S n1, .int .u16 ty1, .int .u16 cls1] 24)).alloc (.cells #[S n2, .int .u16 ty2, .int .u16 cls2] 24)).alloc (.cells #[.int .u16 x1.id, .bool x1.qr, .int .u8 x1.op, .bool x1.aa, .bool x1.tc, .bool x1.rd, .bool x1.ra, .bool x1.z, .bool x1.ad, .bool x1.cd, .int .u8 code1, .slice x1.qA x1.qn x1.qc, .slice aA1 ans1.length ac1, .slice uA1 auth1.length uc1, .slice x1.xA x1.xn x1.xc, .bool x1.he, .int .u16 x1.es, .int .u8 x1.ee, .int .u8 x1.ev, .int .u16 x1.ef, .slice x1.oA x1.on x1.oc] 33)).alloc (.cells #[.int .u16 x2.id, .bool x2.qr, .int .u8 x2.op, .bool x2.aa, .bool x2.tc, .bool x2.rd, .bool x2.ra, .bool x2.z, .bool x2.ad, .bool x2.cd, .int .u8 code2, .slice x2.qA x2.qn x2.qc, .slice aA2 ans2.length ac2, .slice uA2 auth2.length uc2, .slice x2.xA x2.xn x2.xc, .bool x2.he, .int .u16 x2.es, .int .u8 x2.ee, .int .u8 x2.ev, .int .u16 x2.ef, .slice x2.oA x2.on x2.oc] 33)))
    have hkm : ((((w.alloc (.cells #[S n1, .int .u16 ty1, .int .u16 cls1] 24)).alloc (.cells #[S n2, .int .u16 ty2, .int .u16 cls2] 24)).alloc (.cells #[.int .u16 x1.id, .bool x1.qr, .int .u8 x1.op, .bool x1.aa, .bool x1.tc, .bool x1.rd, .bool x1.ra, .bool x1.z, .bool x1.ad, .bool x1.cd, .int .u8 code1, .slice x1.qA x1.qn x1.qc, .slice aA1 ans1.length ac1, .slice uA1 auth1.length uc1, .slice x1.xA x1.xn x1.xc, .bool x1.he, .int .u16 x1.es, .int .u8 x1.ee, .int .u8 x1.ev, .int .u16 x1.ef, .slice x1.oA x1.on x1.oc] 33)).alloc (.cells #[.int .u16 x2.id, .bool x2.qr, .int .u8 x2.op, .bool x2.aa, .bool x2.tc, .bool x2.rd, .bool x2.ra, .bool x2.z, .bool x2.ad, .bool x2.cd, .int .u8 code2, .slice x2.qA x2.qn x2.qc, .slice aA2 ans2.length ac2, .slice uA2 auth2.length uc2, .slice x2.xA x2.xn x2.xc, .bool x2.he, .int .u16 x2.es, .int .u8 x2.ee, .int .u8 x2.ev, .int .u16 x2.ef, .slice x2.oA x2.on x2.oc] 33)).heap[w.heap.size + 1 + 1]? = some (.cells #[.int .u16 x1.id, .bool x1.qr, .int .u8 x1.op, .bool x1.aa, .bool x1.tc, .bool x1.rd, .bool x1.ra, .bool x1.z, .bool x1.ad, .bool x1.cd, .int .u8 code1, .slice x1.qA x1.qn x1.qc, .slice aA1 ans1.length ac1, .slice uA1 auth1.length uc1, .slice x1.xA x1.xn x1.xc, .bool x1.he, .int .u16 x1.es, .int .u8 x1.ee, .int .u8 x1.ev, .int .u16 x1.ef, .slice x1.oA x1.on x1.oc] 33) := ((((Ext.refl (((w.alloc (.cells #[S n1, .int .u16 ty1, .int .u16 cls1] 24)).alloc (.cells #[S n2, .int .u16 ty2, .int .u16 cls2] 24)).alloc (.cells #[.int .u16 x1.id, .bool x1.qr, .int .u8 x1.op, .bool x1.aa, .bool x1.tc, .bool x1.rd, .bool x1.ra, .bool x1.z, .bool x1.ad, .bool x1.cd, .int .u8 code1, .slice x1.qA x1.qn x1.qc, .slice aA1 ans1.length ac1, .slice uA1 auth1.length uc1, .slice x1.xA x1.xn x1.xc, .bool x1.he, .int .u16 x1.es, .int .u8 x1.ee, .int .u8 x1.ev, .int .u16 x1.ef, .slice x1.oA x1.on x1.oc] 33))).alloc (.cells #[.int .u16 x2.id, .bool x2.qr, .int .u8 x2.op, .bool x2.aa, .bool x2.tc, .bool x2.rd, .bool x2.ra, .bool x2.z, .bool x2.ad, .bool x2.cd, .int .u8 code2, .slice x2.qA x2.qn x2.qc, .slice aA2 ans2.length ac2, .slice uA2 auth2.length uc2, .slice x2.xA x2.xn x2.xc, .bool x2.he, .int .u16 x2.es, .int .u8 x2.ee, .int .u8 x2.ev, .int .u16 x2.ef, .slice x2.oA x2.on x2.oc] 33))).block (w.heap.size + 1 + 1) (by simp)).trans (heap_new_at ((w.alloc (.cells #[S n1, .int .u16 ty1, .int .u16 cls1] 24)).alloc (.cells #[S n2, .int .u16 ty2, .int .u16 cls2] 24)) _ (w.heap.size + 1 + 1) (by simp))
    have hkn : ((((w.alloc (.cells #[S n1, .int .u16 ty1, .int .u16 cls1] 24)).alloc (.cells #[S n2, .int .u16 ty2, .int .u16 cls2] 24)).alloc (.cells #[.int .u16 x1.id, .bool x1.qr, .int .u8 x1.op, .bool x1.aa, .bool x1.tc, .bool x1.rd, .bool x1.ra, .bool x1.z, .bool x1.ad, .bool x1.cd, .int .u8 code1, .slice x1.qA x1.qn x1.qc, .slice aA1 ans1.length ac1, .slice uA1 auth1.length uc1, .slice x1.xA x1.xn x1.xc, .bool x1.he, .int .u16 x1.es, .int .u8 x1.ee, .int .u8 x1.ev, .int .u16 x1.ef, .slice x1.oA x1.on x1.oc] 33)).alloc (.cells #[.int .u16 x2.id, .bool x2.qr, .int .u8 x2.op, .bool x2.aa, .bool x2.tc, .bool x2.rd, .bool x2.ra, .bool x2.z, .bool x2.ad, .bool x2.cd, .int .u8 code2, .slice x2.qA x2.qn x2.qc, .slice aA2 ans2.length ac2, .slice uA2 auth2.length uc2, .slice x2.xA x2.xn x2.xc, .bool x2.he, .int .u16 x2.es, .int .u8 x2.ee, .int .u8 x2.ev, .int .u16 x2.ef, .slice x2.oA x2.on x2.oc] 33)).heap[w.heap.size + 1 + 1 + 1]? = some (.cells #[.int .u16 x2.id, .bool x2.qr, .int .u8 x2.op, .bool x2.aa, .bool x2.tc, .bool x2.rd, .bool x2.ra, .bool x2.z, .bool x2.ad, .bool x2.cd, .int .u8 code2, .slice x2.qA x2.qn x2.qc, .slice aA2 ans2.length ac2, .slice uA2 auth2.length uc2, .slice x2.xA x2.xn x2.xc, .bool x2.he, .int .u16 x2.es, .int .u8 x2.ee, .int .u8 x2.ev, .int .u16 x2.ef, .slice x2.oA x2.on x2.oc] 33) := ((Ext.refl ((((w.alloc (.cells #[S n1, .int .u16 ty1, .int .u16 cls1] 24)).alloc (.cells #[S n2, .int .u16 ty2, .int .u16 cls2] 24)).alloc (.cells #[.int .u16 x1.id, .bool x1.qr, .int .u8 x1.op, .bool x1.aa, .bool x1.tc, .bool x1.rd, .bool x1.ra, .bool x1.z, .bool x1.ad, .bool x1.cd, .int .u8 code1, .slice x1.qA x1.qn x1.qc, .slice aA1 ans1.length ac1, .slice uA1 auth1.length uc1, .slice x1.xA x1.xn x1.xc, .bool x1.he, .int .u16 x1.es, .int .u8 x1.ee, .int .u8 x1.ev, .int .u16 x1.ef, .slice x1.oA x1.on x1.oc] 33)).alloc (.cells #[.int .u16 x2.id, .bool x2.qr, .int .u8 x2.op, .bool x2.aa, .bool x2.tc, .bool x2.rd, .bool x2.ra, .bool x2.z, .bool x2.ad, .bool x2.cd, .int .u8 code2, .slice x2.qA x2.qn x2.qc, .slice aA2 ans2.length ac2, .slice uA2 auth2.length uc2, .slice x2.xA x2.xn x2.xc, .bool x2.he, .int .u16 x2.es, .int .u8 x2.ee, .int .u8 x2.ev, .int .u16 x2.ef, .slice x2.oA x2.on x2.oc] 33))).block (w.heap.size + 1 + 1 + 1) (by simp)).trans (heap_new_at (((w.alloc (.cells #[S n1, .int .u16 ty1, .int .u16 cls1] 24)).alloc (.cells #[S n2, .int .u16 ty2, .int .u16 cls2] 24)).alloc (.cells #[.int .u16 x1.id, .bool x1.qr, .int .u8 x1.op, .bool x1.aa, .bool x1.tc, .bool x1.rd, .bool x1.ra, .bool x1.z, .bool x1.ad, .bool x1.cd, .int .u8 code1, .slice x1.qA x1.qn x1.qc, .slice aA1 ans1.length ac1, .slice uA1 auth1.length uc1, .slice x1.xA x1.xn x1.xc, .bool x1.he, .int .u16 x1.es, .int .u8 x1.ee, .int .u8 x1.ev, .int .u16 x1.ef, .slice x1.oA x1.on x1.oc] 33)) _ (w.heap.size + 1 + 1 + 1) (by simp))
    rw [← hX] at kp zkp kq zkq km zkm kn zkn hkm hkn
    have hwX : Ext w X := by rw [hX]; exact ((((Ext.refl _).alloc _).alloc _).alloc _).alloc _
    have HK := Lib.hid (show ∀ V, Ext X V → (∀ j, V.cell? ⟨w.heap.size, j, none⟩ = #[S n1, .int .u16 ty1, .int .u16 cls1][j]?) ∧ (∀ j, V.cell? ⟨w.heap.size + 1, j, none⟩ = #[S n2, .int .u16 ty2, .int .u16 cls2][j]?) from fun V hV => ⟨fun j => (hV.cell (p := ⟨w.heap.size, j, none⟩) zkp).trans (kp j), fun j => (hV.cell (p := ⟨w.heap.size + 1, j, none⟩) zkq).trans (kq j)⟩)
    have HM1 := Lib.hid (show ∀ V, Ext X V → V.heap[w.heap.size + 1 + 1]? = some (.cells #[.int .u16 x1.id, .bool x1.qr, .int .u8 x1.op, .bool x1.aa, .bool x1.tc, .bool x1.rd, .bool x1.ra, .bool x1.z, .bool x1.ad, .bool x1.cd, .int .u8 code1, .slice x1.qA x1.qn x1.qc, .slice aA1 ans1.length ac1, .slice uA1 auth1.length uc1, .slice x1.xA x1.xn x1.xc, .bool x1.he, .int .u16 x1.es, .int .u8 x1.ee, .int .u8 x1.ev, .int .u16 x1.ef, .slice x1.oA x1.on x1.oc] 33) from fun V hV => (hV.block _ zkm).trans hkm)
    have HM2 := Lib.hid (show ∀ V, Ext X V → V.heap[w.heap.size + 1 + 1 + 1]? = some (.cells #[.int .u16 x2.id, .bool x2.qr, .int .u8 x2.op, .bool x2.aa, .bool x2.tc, .bool x2.rd, .bool x2.ra, .bool x2.z, .bool x2.ad, .bool x2.cd, .int .u8 code2, .slice x2.qA x2.qn x2.qc, .slice aA2 ans2.length ac2, .slice uA2 auth2.length uc2, .slice x2.xA x2.xn x2.xc, .bool x2.he, .int .u16 x2.es, .int .u8 x2.ee, .int .u8 x2.ev, .int .u16 x2.ef, .slice x2.oA x2.on x2.oc] 33) from fun V hV => (hV.block _ zkn).trans hkn)
    clear hkm hkn
    clear kp kq km kn
    obtain ⟨c0, c1⟩ := HK.out X (Ext.refl _)
    go_enter Tryz.func6, Tryz.ntmps6
    go_upto_region 1 with fail
    rw [← hX]
    clear hX
    go_wp2_with (refine wpList_load_rowG (by rfl) 33 (.tmp 6) rfl (w.heap.size + 1 + 1) rfl 33 _ _ _ (HM1.out _ (Ext.refl _)) Tryz.underlying33 rfl (by kernel_rfl) ?_)
    as_aux_lemma =>
      refine (HL1.out _ hwX).mono ?_; rintro e w1 ⟨rfl, hE1⟩
      go_wp2_with fail
      refine (HA.out _ (hwX.trans hE1)).mono ?_; rintro e w2 ⟨rfl, hE2⟩
      go_wp2_with fail
      go_ret
      exact ⟨rfl, (hwX.trans hE1).trans hE2⟩
  rcases hb2 : largeM n2 ans2 auth2 ext2 x2.qn with _ | _
  rotate_left
  · rw [hb1] at HL1
    rw [hb2] at HL2
    clear hb1 hb2
    obtain ⟨X, hX⟩ : ∃ X, X = ((((w.alloc (.cells #[S n1, .int .u16 ty1, .int .u16 cls1] 24)).alloc (.cells #[S n2, .int .u16 ty2, .int .u16 cls2] 24)).alloc (.cells #[.int .u16 x1.id, .bool x1.qr, .int .u8 x1.op, .bool x1.aa, .bool x1.tc, .bool x1.rd, .bool x1.ra, .bool x1.z, .bool x1.ad, .bool x1.cd, .int .u8 code1, .slice x1.qA x1.qn x1.qc, .slice aA1 ans1.length ac1, .slice uA1 auth1.length uc1, .slice x1.xA x1.xn x1.xc, .bool x1.he, .int .u16 x1.es, .int .u8 x1.ee, .int .u8 x1.ev, .int .u16 x1.ef, .slice x1.oA x1.on x1.oc] 33)).alloc (.cells #[.int .u16 x2.id, .bool x2.qr, .int .u8 x2.op, .bool x2.aa, .bool x2.tc, .bool x2.rd, .bool x2.ra, .bool x2.z, .bool x2.ad, .bool x2.cd, .int .u8 code2, .slice x2.qA x2.qn x2.qc, .slice aA2 ans2.length ac2, .slice uA2 auth2.length uc2, .slice x2.xA x2.xn x2.xc, .bool x2.he, .int .u16 x2.es, .int .u8 x2.ee, .int .u8 x2.ev, .int .u16 x2.ef, .slice x2.oA x2.on x2.oc] 33)) := ⟨_, rfl⟩
    obtain ⟨kp, _, zkp⟩ := ext_new_at (w.heap.size) (by simp) (((((Ext.refl (w.alloc (.cells #[S n1, .int .u16 ty1, .int .u16 cls1] 24))).alloc (.cells #[S n2, .int .u16 ty2, .int .u16 cls2] 24)).alloc (.cells #[.int .u16 x1.id, .bool x1.qr, .int .u8 x1.op, .bool x1.aa, .bool x1.tc, .bool x1.rd, .bool x1.ra, .bool x1.z, .bool x1.ad, .bool x1.cd, .int .u8 code1, .slice x1.qA x1.qn x1.qc, .slice aA1 ans1.length ac1, .slice uA1 auth1.length uc1, .slice x1.xA x1.xn x1.xc, .bool x1.he, .int .u16 x1.es, .int .u8 x1.ee, .int .u8 x1.ev, .int .u16 x1.ef, .slice x1.oA x1.on x1.oc] 33)).alloc (.cells #[.int .u16 x2.id, .bool x2.qr, .int .u8 x2.op, .bool x2.aa, .bool x2.tc, .bool x2.rd, .bool x2.ra, .bool x2.z, .bool x2.ad, .bool x2.cd, .int .u8 code2, .slice x2.qA x2.qn x2.qc, .slice aA2 ans2.length ac2, .slice uA2 auth2.length uc2, .slice x2.xA x2.xn x2.xc, .bool x2.he, .int .u16 x2.es, .int .u8 x2.ee, .int .u8 x2.ev, .int .u16 x2.ef, .slice x2.oA x2.on x2.oc] 33)))
    obtain ⟨kq, _, zkq⟩ := ext_new_at (w.heap.size + 1) (by simp) ((((Ext.refl ((w.alloc (.cells #[S n1, .int .u16 ty1, .int .u16 cls1] 24)).alloc (.cells #[S n2, .int .u16 ty2, .int .u16 cls2] 24))).alloc (.cells #[.int .u16 x1.id, .bool x1.qr, .int .u8 x1.op, .bool x1.aa, .bool x1.tc, .bool x1.rd, .bool x1.ra, .bool x1.z, .bool x1.ad, .bool x1.cd, .int .u8 code1, .slice x1.qA x1.qn x1.qc, .slice aA1 ans1.length ac1, .slice uA1 auth1.length uc1, .slice x1.xA x1.xn x1.xc, .bool x1.he, .int .u16 x1.es, .int .u8 x1.ee, .int .u8 x1.ev, .int .u16 x1.ef, .slice x1.oA x1.on x1.oc] 33)).alloc (.cells #[.int .u16 x2.id, .bool x2.qr, .int .u8 x2.op, .bool x2.aa, .bool x2.tc, .bool x2.rd, .bool x2.ra, .bool x2.z, .bool x2.ad, .bool x2.cd, .int .u8 code2, .slice x2.qA x2.qn x2.qc, .slice aA2 ans2.length ac2, .slice uA2 auth2.length uc2, .slice x2.xA x2.xn x2.xc, .bool x2.he, .int .u16 x2.es, .int .u8 x2.ee, .int .u8 x2.ev, .int .u16 x2.ef, .slice x2.oA x2.on x2.oc] 33)))
    obtain ⟨km, _, zkm⟩ := ext_new_at (w.heap.size + 1 + 1) (by simp) (((Ext.refl (((w.alloc (.cells #[S n1, .int .u16 ty1, .int .u16 cls1] 24)).alloc (.cells #[S n2, .int .u16 ty2, .int .u16 cls2] 24)).alloc (.cells #[.int .u16 x1.id, .bool x1.qr, .int .u8 x1.op, .bool x1.aa, .bool x1.tc, .bool x1.rd, .bool x1.ra, .bool x1.z, .bool x1.ad, .bool x1.cd, .int .u8 code1, .slice x1.qA x1.qn x1.qc, .slice aA1 ans1.length ac1, .slice uA1 auth1.length uc1, .slice x1.xA x1.xn x1.xc, .bool x1.he, .int .u16 x1.es, .int .u8 x1.ee, .int .u8 x1.ev, .int .u16 x1.ef, .slice x1.oA x1.on x1.oc] 33))).alloc (.cells #[.int .u16 x2.id, .bool x2.qr, .int .u8 x2.op, .bool x2.aa, .bool x2.tc, .bool x2.rd, .bool x2.ra, .bool x2.z, .bool x2.ad, .bool x2.cd, .int .u8 code2, .slice x2.qA x2.qn x2.qc, .slice aA2 ans2.length ac2, .slice uA2 auth2.length uc2, .slice x2.xA x2.xn x2.xc, .bool x2.he, .int .u16 x2.es, .int .u8 x2.ee, .int .u8 x2.ev, .int .u16 x2.ef, .slice x2.oA x2.on x2.oc] 33)))
    obtain ⟨kn, _, zkn⟩ := ext_new_at (w.heap.size + 1 + 1 + 1) (by simp) (Ext.refl ((((w.alloc (.cells #[S n1, .int .u16 ty1, .int .u16 cls1] 24)).alloc (.cells #[S n2, .int .u16 ty2, .int .u16 cls2] 24)).alloc (.cells #[.int .u16 x1.id, .bool x1.qr, .int .u8 x1.op, .bool x1.aa, .bool x1.tc, .bool x1.rd, .bool x1.ra, .bool x1.z, .bool x1.ad, .bool x1.cd, .int .u8 code1, .slice x1.qA x1.qn x1.qc, .slice aA1 ans1.length ac1, .slice uA1 auth1.length uc1, .slice x1.xA x1.xn x1.xc, .bool x1.he, .int .u16 x1.es, .int .u8 x1.ee, .int .u8 x1.ev, .int .u16 x1.ef, .slice x1.oA x1.on x1.oc] 33)).alloc (.cells #[.int .u16 x2.id, .bool x2.qr, .int .u8 x2.op, .bool x2.aa, .bool x2.tc, .bool x2.rd, .bool x2.ra, .bool x2.z, .bool x2.ad, .bool x2.cd, .int .u8 code2, .slice x2.qA x2.qn x2.qc, .slice aA2 ans2.length ac2, .slice uA2 auth2.length uc2, .slice x2.xA x2.xn x2.xc, .bool x2.he, .int .u16 x2.es, .int .u8 x2.ee, .int .u8 x2.ev, .int .u16 x2.ef, .slice x2.oA x2.on x2.oc] 33)))
    have hkm : ((((w.alloc (.cells #[S n1, .int .u16 ty1, .int .u16 cls1] 24)).alloc (.cells #[S n2, .int .u16 ty2, .int .u16 cls2] 24)).alloc (.cells #[.int .u16 x1.id, .bool x1.qr, .int .u8 x1.op, .bool x1.aa, .bool x1.tc, .bool x1.rd, .bool x1.ra, .bool x1.z, .bool x1.ad, .bool x1.cd, .int .u8 code1, .slice x1.qA x1.qn x1.qc, .slice aA1 ans1.length ac1, .slice uA1 auth1.length uc1, .slice x1.xA x1.xn x1.xc, .bool x1.he, .int .u16 x1.es, .int .u8 x1.ee, .int .u8 x1.ev, .int .u16 x1.ef, .slice x1.oA x1.on x1.oc] 33)).alloc (.cells #[.int .u16 x2.id, .bool x2.qr, .int .u8 x2.op, .bool x2.aa, .bool x2.tc, .bool x2.rd, .bool x2.ra, .bool x2.z, .bool x2.ad, .bool x2.cd, .int .u8 code2, .slice x2.qA x2.qn x2.qc, .slice aA2 ans2.length ac2, .slice uA2 auth2.length uc2, .slice x2.xA x2.xn x2.xc, .bool x2.he, .int .u16 x2.es, .int .u8 x2.ee, .int .u8 x2.ev, .int .u16 x2.ef, .slice x2.oA x2.on x2.oc] 33)).heap[w.heap.size + 1 + 1]? = some (.cells #[.int .u16 x1.id, .bool x1.qr, .int .u8 x1.op, .bool x1.aa, .bool x1.tc, .bool x1.rd, .bool x1.ra, .bool x1.z, .bool x1.ad, .bool x1.cd, .int .u8 code1, .slice x1.qA x1.qn x1.qc, .slice aA1 ans1.length ac1, .slice uA1 auth1.length uc1, .slice x1.xA x1.xn x1.xc, .bool x1.he, .int .u16 x1.es, .int .u8 x1.ee, .int .u8 x1.ev, .int .u16 x1.ef, .slice x1.oA x1.on x1.oc] 33) := ((((Ext.refl (((w.alloc (.cells #[S n1, .int .u16 ty1, .int .u16 cls1] 24)).alloc (.cells #[S n2, .int .u16 ty2, .int .u16 cls2] 24)).alloc (.cells #[.int .u16 x1.id, .bool x1.qr, .int .u8 x1.op, .bool x1.aa, .bool x1.tc, .bool x1.rd, .bool x1.ra, .bool x1.z, .bool x1.ad, .bool x1.cd, .int .u8 code1, .slice x1.qA x1.qn x1.qc, .slice aA1 ans1.length ac1, .slice uA1 auth1.length uc1, .slice x1.xA x1.xn x1.xc, .bool x1.he, .int .u16 x1.es, .int .u8 x1.ee, .int .u8 x1.ev, .int .u16 x1.ef, .slice x1.oA x1.on x1.oc] 33))).alloc (.cells #[.int .u16 x2.id, .bool x2.qr, .int .u8 x2.op, .bool x2.aa, .bool x2.tc, .bool x2.rd, .bool x2.ra, .bool x2.z, .bool x2.ad, .bool x2.cd, .int .u8 code2, .slice x2.qA x2.qn x2.qc, .slice aA2 ans2.length ac2, .slice uA2 auth2.length uc2, .slice x2.xA x2.xn x2.xc, .bool x2.he, .int .u16 x2.es, .int .u8 x2.ee, .int .u8 x2.ev, .int .u16 x2.ef, .slice x2.oA x2.on x2.oc] 33))).block (w.heap.size + 1 + 1) (by simp)).trans (heap_new_at ((w.alloc (.cells #[S n1, .int .u16 ty1, .int .u16 cls1] 24)).alloc (.cells #[S n2, .int .u16 ty2, .int .u16 cls2] 24)) _ (w.heap.size + 1 + 1) (by simp))
    have hkn : ((((w.alloc (.cells #[S n1, .int .u16 ty1, .int .u16 cls1] 24)).alloc (.cells #[S n2, .int .u16 ty2, .int .u16 cls2] 24)).alloc (.cells #[.int .u16 x1.id, .bool x1.qr, .int .u8 x1.op, .bool x1.aa, .bool x1.tc, .bool x1.rd, .bool x1.ra, .bool x1.z, .bool x1.ad, .bool x1.cd, .int .u8 code1, .slice x1.qA x1.qn x1.qc, .slice aA1 ans1.length ac1, .slice uA1 auth1.length uc1, .slice x1.xA x1.xn x1.xc, .bool x1.he, .int .u16 x1.es, .int .u8 x1.ee, .int .u8 x1.ev, .int .u16 x1.ef, .slice x1.oA x1.on x1.oc] 33)).alloc (.cells #[.int .u16 x2.id, .bool x2.qr, .int .u8 x2.op, .bool x2.aa, .bool x2.tc, .bool x2.rd, .bool x2.ra, .bool x2.z, .bool x2.ad, .bool x2.cd, .int .u8 code2, .slice x2.qA x2.qn x2.qc, .slice aA2 ans2.length ac2, .slice uA2 auth2.length uc2, .slice x2.xA x2.xn x2.xc, .bool x2.he, .int .u16 x2.es, .int .u8 x2.ee, .int .u8 x2.ev, .int .u16 x2.ef, .slice x2.oA x2.on x2.oc] 33)).heap[w.heap.size + 1 + 1 + 1]? = some (.cells #[.int .u16 x2.id, .bool x2.qr, .int .u8 x2.op, .bool x2.aa, .bool x2.tc, .bool x2.rd, .bool x2.ra, .bool x2.z, .bool x2.ad, .bool x2.cd, .int .u8 code2, .slice x2.qA x2.qn x2.qc, .slice aA2 ans2.length ac2, .slice uA2 auth2.length uc2, .slice x2.xA x2.xn x2.xc, .bool x2.he, .int .u16 x2.es, .int .u8 x2.ee, .int .u8 x2.ev, .int .u16 x2.ef, .slice x2.oA x2.on x2.oc] 33) := ((Ext.refl ((((w.alloc (.cells #[S n1, .int .u16 ty1, .int .u16 cls1] 24)).alloc (.cells #[S n2, .int .u16 ty2, .int .u16 cls2] 24)).alloc (.cells #[.int .u16 x1.id, .bool x1.qr, .int .u8 x1.op, .bool x1.aa, .bool x1.tc, .bool x1.rd, .bool x1.ra, .bool x1.z, .bool x1.ad, .bool x1.cd, .int .u8 code1, .slice x1.qA x1.qn x1.qc, .slice aA1 ans1.length ac1, .slice uA1 auth1.length uc1, .slice x1.xA x1.xn x1.xc, .bool x1.he, .int .u16 x1.es, .int .u8 x1.ee, .int .u8 x1.ev, .int .u16 x1.ef, .slice x1.oA x1.on x1.oc] 33)).alloc (.cells #[.int .u16 x2.id, .bool x2.qr, .int .u8 x2.op, .bool x2.aa, .bool x2.tc, .bool x2.rd, .bool x2.ra, .bool x2.z, .bool x2.ad, .bool x2.cd, .int .u8 code2, .slice x2.qA x2.qn x2.qc, .slice aA2 ans2.length ac2, .slice uA2 auth2.length uc2, .slice x2.xA x2.xn x2.xc, .bool x2.he, .int .u16 x2.es, .int .u8 x2.ee, .int .u8 x2.ev, .int .u16 x2.ef, .slice x2.oA x2.on x2.oc] 33))).block (w.heap.size + 1 + 1 + 1) (by simp)).trans (heap_new_at (((w.alloc (.cells #[S n1, .int .u16 ty1, .int .u16 cls1] 24)).alloc (.cells #[S n2, .int .u16 ty2, .int .u16 cls2] 24)).alloc (.cells #[.int .u16 x1.id, .bool x1.qr, .int .u8 x1.op, .bool x1.aa, .bool x1.tc, .bool x1.rd, .bool x1.ra, .bool x1.z, .bool x1.ad, .bool x1.cd, .int .u8 code1, .slice x1.qA x1.qn x1.qc, .slice aA1 ans1.length ac1, .slice uA1 auth1.length uc1, .slice x1.xA x1.xn x1.xc, .bool x1.he, .int .u16 x1.es, .int .u8 x1.ee, .int .u8 x1.ev, .int .u16 x1.ef, .slice x1.oA x1.on x1.oc] 33)) _ (w.heap.size + 1 + 1 + 1) (by simp))
    rw [← hX] at kp zkp kq zkq km zkm kn zkn hkm hkn
    have hwX : Ext w X := by rw [hX]; exact ((((Ext.refl _).alloc _).alloc _).alloc _).alloc _
    have HK := Lib.hid (show ∀ V, Ext X V → (∀ j, V.cell? ⟨w.heap.size, j, none⟩ = #[S n1, .int .u16 ty1, .int .u16 cls1][j]?) ∧ (∀ j, V.cell? ⟨w.heap.size + 1, j, none⟩ = #[S n2, .int .u16 ty2, .int .u16 cls2][j]?) from fun V hV => ⟨fun j => (hV.cell (p := ⟨w.heap.size, j, none⟩) zkp).trans (kp j), fun j => (hV.cell (p := ⟨w.heap.size + 1, j, none⟩) zkq).trans (kq j)⟩)
    have HM1 := Lib.hid (show ∀ V, Ext X V → V.heap[w.heap.size + 1 + 1]? = some (.cells #[.int .u16 x1.id, .bool x1.qr, .int .u8 x1.op, .bool x1.aa, .bool x1.tc, .bool x1.rd, .bool x1.ra, .bool x1.z, .bool x1.ad, .bool x1.cd, .int .u8 code1, .slice x1.qA x1.qn x1.qc, .slice aA1 ans1.length ac1, .slice uA1 auth1.length uc1, .slice x1.xA x1.xn x1.xc, .bool x1.he, .int .u16 x1.es, .int .u8 x1.ee, .int .u8 x1.ev, .int .u16 x1.ef, .slice x1.oA x1.on x1.oc] 33) from fun V hV => (hV.block _ zkm).trans hkm)
    have HM2 := Lib.hid (show ∀ V, Ext X V → V.heap[w.heap.size + 1 + 1 + 1]? = some (.cells #[.int .u16 x2.id, .bool x2.qr, .int .u8 x2.op, .bool x2.aa, .bool x2.tc, .bool x2.rd, .bool x2.ra, .bool x2.z, .bool x2.ad, .bool x2.cd, .int .u8 code2, .slice x2.qA x2.qn x2.qc, .slice aA2 ans2.length ac2, .slice uA2 auth2.length uc2, .slice x2.xA x2.xn x2.xc, .bool x2.he, .int .u16 x2.es, .int .u8 x2.ee, .int .u8 x2.ev, .int .u16 x2.ef, .slice x2.oA x2.on x2.oc] 33) from fun V hV => (hV.block _ zkn).trans hkn)
    clear hkm hkn
    clear kp kq km kn
    obtain ⟨c0, c1⟩ := HK.out X (Ext.refl _)
    go_enter Tryz.func6, Tryz.ntmps6
    go_upto_region 1 with fail
    rw [← hX]
    clear hX
    go_wp2_with (refine wpList_load_rowG (by rfl) 33 (.tmp 6) rfl (w.heap.size + 1 + 1) rfl 33 _ _ _ (HM1.out _ (Ext.refl _)) Tryz.underlying33 rfl (by kernel_rfl) ?_)
    as_aux_lemma =>
      refine (HL1.out _ hwX).mono ?_; rintro e w1 ⟨rfl, hE1⟩
      obtain ⟨d0, d1⟩ := HK.out w1 hE1
      clear c0 c1
      go_wp2_with (refine wpList_load_rowG (by rfl) 33 (.tmp 7) rfl (w.heap.size + 1 + 1 + 1) rfl 33 _ _ _ (HM2.out _ (hE1)) Tryz.underlying33 rfl (by kernel_rfl) ?_)
      as_aux_lemma =>
        refine (HL2.out _ (hwX.trans hE1)).mono ?_; rintro e w2 ⟨rfl, hE2⟩
        go_wp2_with fail
        as_aux_lemma =>
          refine (HA.out _ ((hwX.trans hE1).trans hE2)).mono ?_; rintro e w3 ⟨rfl, hE3⟩
          go_wp2_with fail
          go_ret
          exact ⟨rfl, ((hwX.trans hE1).trans hE2).trans hE3⟩
  obtain ⟨s1, s2, s3, _, _⟩ := largeM_no hb1
  obtain ⟨t1, t2, t3, _, _⟩ := largeM_no hb2
  rw [hb1] at HL1
  rw [hb2] at HL2
  have hF1 := ver_fine (n := n1) (ty := ty1) (cls := cls1) (code := code1) s2 s3 (recsOk_of hao1) (recsOk_of huo1)
  have hF2 := ver_fine (n := n2) (ty := ty2) (cls := cls2) (code := code2) t2 t3 (recsOk_of hao2) (recsOk_of huo2)
  have HV1 := Lib.hid (fun W (hW : Ext w W) => ver_of x1 n1 ty1 cls1 code1 0 aA1 ac1 uA1 uc1 ans1 auth1 W (hg.ext hW) (ha1.ext hW) (hu1.ext hW) (recsBd_of s2) (recsBd_of s3) (recsOk_of hao1) (recsOk_of huo1) (by omega))
  have HV2 := Lib.hid (fun W (hW : Ext w W) => ver_of x2 n2 ty2 cls2 code2 0 aA2 ac2 uA2 uc2 ans2 auth2 W (hg.ext hW) (ha2.ext hW) (hu2.ext hW) (recsBd_of t2) (recsBd_of t3) (recsOk_of hao2) (recsOk_of huo2) (by omega))
  generalize verOf n1 ty1 cls1 code1 ans1 auth1 = R1 at *
  generalize verOf n2 ty2 cls2 code2 ans2 auth2 = R2 at *
  have HKS := Lib.hid (key_same hF1.good hF2.good)
  clear hb1 hb2 s1 s2 s3 t1 t2 t3
  obtain ⟨X, hX⟩ : ∃ X, X = ((((w.alloc (.cells #[S n1, .int .u16 ty1, .int .u16 cls1] 24)).alloc (.cells #[S n2, .int .u16 ty2, .int .u16 cls2] 24)).alloc (.cells #[.int .u16 x1.id, .bool x1.qr, .int .u8 x1.op, .bool x1.aa, .bool x1.tc, .bool x1.rd, .bool x1.ra, .bool x1.z, .bool x1.ad, .bool x1.cd, .int .u8 code1, .slice x1.qA x1.qn x1.qc, .slice aA1 ans1.length ac1, .slice uA1 auth1.length uc1, .slice x1.xA x1.xn x1.xc, .bool x1.he, .int .u16 x1.es, .int .u8 x1.ee, .int .u8 x1.ev, .int .u16 x1.ef, .slice x1.oA x1.on x1.oc] 33)).alloc (.cells #[.int .u16 x2.id, .bool x2.qr, .int .u8 x2.op, .bool x2.aa, .bool x2.tc, .bool x2.rd, .bool x2.ra, .bool x2.z, .bool x2.ad, .bool x2.cd, .int .u8 code2, .slice x2.qA x2.qn x2.qc, .slice aA2 ans2.length ac2, .slice uA2 auth2.length uc2, .slice x2.xA x2.xn x2.xc, .bool x2.he, .int .u16 x2.es, .int .u8 x2.ee, .int .u8 x2.ev, .int .u16 x2.ef, .slice x2.oA x2.on x2.oc] 33)) := ⟨_, rfl⟩
  obtain ⟨kp, _, zkp⟩ := ext_new_at (w.heap.size) (by simp) (((((Ext.refl (w.alloc (.cells #[S n1, .int .u16 ty1, .int .u16 cls1] 24))).alloc (.cells #[S n2, .int .u16 ty2, .int .u16 cls2] 24)).alloc (.cells #[.int .u16 x1.id, .bool x1.qr, .int .u8 x1.op, .bool x1.aa, .bool x1.tc, .bool x1.rd, .bool x1.ra, .bool x1.z, .bool x1.ad, .bool x1.cd, .int .u8 code1, .slice x1.qA x1.qn x1.qc, .slice aA1 ans1.length ac1, .slice uA1 auth1.length uc1, .slice x1.xA x1.xn x1.xc, .bool x1.he, .int .u16 x1.es, .int .u8 x1.ee, .int .u8 x1.ev, .int .u16 x1.ef, .slice x1.oA x1.on x1.oc] 33)).alloc (.cells #[.int .u16 x2.id, .bool x2.qr, .int .u8 x2.op, .bool x2.aa, .bool x2.tc, .bool x2.rd, .bool x2.ra, .bool x2.z, .bool x2.ad, .bool x2.cd, .int .u8 code2, .slice x2.qA x2.qn x2.qc, .slice aA2 ans2.length ac2, .slice uA2 auth2.length uc2, .slice x2.xA x2.xn x2.xc, .bool x2.he, .int .u16 x2.es, .int .u8 x2.ee, .int .u8 x2.ev, .int .u16 x2.ef, .slice x2.oA x2.on x2.oc] 33)))
  obtain ⟨kq, _, zkq⟩ := ext_new_at (w.heap.size + 1) (by simp) ((((Ext.refl ((w.alloc (.cells #[S n1, .int .u16 ty1, .int .u16 cls1] 24)).alloc (.cells #[S n2, .int .u16 ty2, .int .u16 cls2] 24))).alloc (.cells #[.int .u16 x1.id, .bool x1.qr, .int .u8 x1.op, .bool x1.aa, .bool x1.tc, .bool x1.rd, .bool x1.ra, .bool x1.z, .bool x1.ad, .bool x1.cd, .int .u8 code1, .slice x1.qA x1.qn x1.qc, .slice aA1 ans1.length ac1, .slice uA1 auth1.length uc1, .slice x1.xA x1.xn x1.xc, .bool x1.he, .int .u16 x1.es, .int .u8 x1.ee, .int .u8 x1.ev, .int .u16 x1.ef, .slice x1.oA x1.on x1.oc] 33)).alloc (.cells #[.int .u16 x2.id, .bool x2.qr, .int .u8 x2.op, .bool x2.aa, .bool x2.tc, .bool x2.rd, .bool x2.ra, .bool x2.z, .bool x2.ad, .bool x2.cd, .int .u8 code2, .slice x2.qA x2.qn x2.qc, .slice aA2 ans2.length ac2, .slice uA2 auth2.length uc2, .slice x2.xA x2.xn x2.xc, .bool x2.he, .int .u16 x2.es, .int .u8 x2.ee, .int .u8 x2.ev, .int .u16 x2.ef, .slice x2.oA x2.on x2.oc] 33)))
  obtain ⟨km, _, zkm⟩ := ext_new_at (w.heap.size + 1 + 1) (by simp) (((Ext.refl (((w.alloc (.cells #[S n1, .int .u16 ty1, .int .u16 cls1] 24)).alloc (.cells #[S n2, .int .u16 ty2, .int .u16 cls2] 24)).alloc (.cells #[.int .u16 x1.id, .bool x1.qr, .int .u8 x1.op, .bool x1.aa, .bool x1.tc, .bool x1.rd, .bool x1.ra, .bool x1.z, .bool x1.ad, .bool x1.cd, .int .u8 code1, .slice x1.qA x1.qn x1.qc, .slice aA1 ans1.length ac1, .slice uA1 auth1.length uc1, .slice x1.xA x1.xn x1.xc, .bool x1.he, .int .u16 x1.es, .int .u8 x1.ee, .int .u8 x1.ev, .int .u16 x1.ef, .slice x1.oA x1.on x1.oc] 33))).alloc (.cells #[.int .u16 x2.id, .bool x2.qr, .int .u8 x2.op, .bool x2.aa, .bool x2.tc, .bool x2.rd, .bool x2.ra, .bool x2.z, .bool x2.ad, .bool x2.cd, .int .u8 code2, .slice x2.qA x2.qn x2.qc, .slice aA2 ans2.length ac2, .slice uA2 auth2.length uc2, .slice x2.xA x2.xn x2.xc, .bool x2.he, .int .u16 x2.es, .int .u8 x2.ee, .int .u8 x2.ev, .int .u16 x2.ef, .slice x2.oA x2.on x2.oc] 33)))
  obtain ⟨kn, _, zkn⟩ := ext_new_at (w.heap.size + 1 + 1 + 1) (by simp) (Ext.refl ((((w.alloc (.cells #[S n1, .int .u16 ty1, .int .u16 cls1] 24)).alloc (.cells #[S n2, .int .u16 ty2, .int .u16 cls2] 24)).alloc (.cells #[.int .u16 x1.id, .bool x1.qr, .int .u8 x1.op, .bool x1.aa, .bool x1.tc, .bool x1.rd, .bool x1.ra, .bool x1.z, .bool x1.ad, .bool x1.cd, .int .u8 code1, .slice x1.qA x1.qn x1.qc, .slice aA1 ans1.length ac1, .slice uA1 auth1.length uc1, .slice x1.xA x1.xn x1.xc, .bool x1.he, .int .u16 x1.es, .int .u8 x1.ee, .int .u8 x1.ev, .int .u16 x1.ef, .slice x1.oA x1.on x1.oc] 33)).alloc (.cells #[.int .u16 x2.id, .bool x2.qr, .int .u8 x2.op, .bool x2.aa, .bool x2.tc, .bool x2.rd, .bool x2.ra, .bool x2.z, .bool x2.ad, .bool x2.cd, .int .u8 code2, .slice x2.qA x2.qn x2.qc, .slice aA2 ans2.length ac2, .slice uA2 auth2.length uc2, .slice x2.xA x2.xn x2.xc, .bool x2.he, .int .u16 x2.es, .int .u8 x2.ee, .int .u8 x2.ev, .int .u16 x2.ef, .slice x2.oA x2.on x2.oc] 33)))
  have hkm : ((((w.alloc (.cells #[S n1, .int .u16 ty1, .int .u16 cls1] 24)).alloc (.cells #[S n2, .int .u16 ty2, .int .u16 cls2] 24)).alloc (.cells #[.int .u16 x1.id, .bool x1.qr, .int .u8 x1.op, .bool x1.aa, .bool x1.tc, .bool x1.rd, .bool x1.ra, .bool x1.z, .bool x1.ad, .bool x1.cd, .int .u8 code1, .slice x1.qA x1.qn x1.qc, .slice aA1 ans1.length ac1, .slice uA1 auth1.length uc1, .slice x1.xA x1.xn x1.xc, .bool x1.he, .int .u16 x1.es, .int .u8 x1.ee, .int .u8 x1.ev, .int .u16 x1.ef, .slice x1.oA x1.on x1.oc] 33)).alloc (.cells #[.int .u16 x2.id, .bool x2.qr, .int .u8 x2.op, .bool x2.aa, .bool x2.tc, .bool x2.rd, .bool x2.ra, .bool x2.z, .bool x2.ad, .bool x2.cd, .int .u8 code2, .slice x2.qA x2.qn x2.qc, .slice aA2 ans2.length ac2, .slice uA2 auth2.length uc2, .slice x2.xA x2.xn x2.xc, .bool x2.he, .int .u16 x2.es, .int .u8 x2.ee, .int .u8 x2.ev, .int .u16 x2.ef, .slice x2.oA x2.on x2.oc] 33)).heap[w.heap.size + 1 + 1]? = some (.cells #[.int .u16 x1.id, .bool x1.qr, .int .u8 x1.op, .bool x1.aa, .bool x1.tc, .bool x1.rd, .bool x1.ra, .bool x1.z, .bool x1.ad, .bool x1.cd, .int .u8 code1, .slice x1.qA x1.qn x1.qc, .slice aA1 ans1.length ac1, .slice uA1 auth1.length uc1, .slice x1.xA x1.xn x1.xc, .bool x1.he, .int .u16 x1.es, .int .u8 x1.ee, .int .u8 x1.ev, .int .u16 x1.ef, .slice x1.oA x1.on x1.oc] 33) := ((((Ext.refl (((w.alloc (.cells #[S n1, .int .u16 ty1, .int .u16 cls1] 24)).alloc (.cells #[S n2, .int .u16 ty2, .int .u16 cls2] 24)).alloc (.cells #[.int .u16 x1.id, .bool x1.qr, .int .u8 x1.op, .bool x1.aa, .bool x1.tc, .bool x1.rd, .bool x1.ra, .bool x1.z, .bool x1.ad, .bool x1.cd, .int .u8 code1, .slice x1.qA x1.qn x1.qc, .slice aA1 ans1.length ac1, .slice uA1 auth1.length uc1, .slice x1.xA x1.xn x1.xc, .bool x1.he, .int .u16 x1.es, .int .u8 x1.ee, .int .u8 x1.ev, .int .u16 x1.ef, .slice x1.oA x1.on x1.oc] 33))).alloc (.cells #[.int .u16 x2.id, .bool x2.qr, .int .u8 x2.op, .bool x2.aa, .bool x2.tc, .bool x2.rd, .bool x2.ra, .bool x2.z, .bool x2.ad, .bool x2.cd, .int .u8 code2, .slice x2.qA x2.qn x2.qc, .slice aA2 ans2.length ac2, .slice uA2 auth2.length uc2, .slice x2.xA x2.xn x2.xc, .bool x2.he, .int .u16 x2.es, .int .u8 x2.ee, .int .u8 x2.ev, .int .u16 x2.ef, .slice x2.oA x2.on x2.oc] 33))).block (w.heap.size + 1 + 1) (by simp)).trans (heap_new_at ((w.alloc (.cells #[S n1, .int .u16 ty1, .int .u16 cls1] 24)).alloc (.cells #[S n2, .int .u16 ty2, .int .u16 cls2] 24)) _ (w.heap.size + 1 + 1) (by simp))
  have hkn : ((((w.alloc (.cells #[S n1, .int .u16 ty1, .int .u16 cls1] 24)).alloc (.cells #[S n2, .int .u16 ty2, .int .u16 cls2] 24)).alloc (.cells #[.int .u16 x1.id, .bool x1.qr, .int .u8 x1.op, .bool x1.aa, .bool x1.tc, .bool x1.rd, .bool x1.ra, .bool x1.z, .bool x1.ad, .bool x1.cd, .int .u8 code1, .slice x1.qA x1.qn x1.qc, .slice aA1 ans1.length ac1, .slice uA1 auth1.length uc1, .slice x1.xA x1.xn x1.xc, .bool x1.he, .int .u16 x1.es, .int .u8 x1.ee, .int .u8 x1.ev, .int .u16 x1.ef, .slice x1.oA x1.on x1.oc] 33)).alloc (.cells #[.int .u16 x2.id, .bool x2.qr, .int .u8 x2.op, .bool x2.aa, .bool x2.tc, .bool x2.rd, .bool x2.ra, .bool x2.z, .bool x2.ad, .bool x2.cd, .int .u8 code2, .slice x2.qA x2.qn x2.qc, .slice aA2 ans2.length ac2, .slice uA2 auth2.length uc2, .slice x2.xA x2.xn x2.xc, .bool x2.he, .int .u16 x2.es, .int .u8 x2.ee, .int .u8 x2.ev, .int .u16 x2.ef, .slice x2.oA x2.on x2.oc] 33)).heap[w.heap.size + 1 + 1 + 1]? = some (.cells #[.int .u16 x2.id, .bool x2.qr, .int .u8 x2.op, .bool x2.aa, .bool x2.tc, .bool x2.rd, .bool x2.ra, .bool x2.z, .bool x2.ad, .bool x2.cd, .int .u8 code2, .slice x2.qA x2.qn x2.qc, .slice aA2 ans2.length ac2, .slice uA2 auth2.length uc2, .slice x2.xA x2.xn x2.xc, .bool x2.he, .int .u16 x2.es, .int .u8 x2.ee, .int .u8 x2.ev, .int .u16 x2.ef, .slice x2.oA x2.on x2.oc] 33) := ((Ext.refl ((((w.alloc (.cells #[S n1, .int .u16 ty1, .int .u16 cls1] 24)).alloc (.cells #[S n2, .int .u16 ty2, .int .u16 cls2] 24)).alloc (.cells #[.int .u16 x1.id, .bool x1.qr, .int .u8 x1.op, .bool x1.aa, .bool x1.tc, .bool x1.rd, .bool x1.ra, .bool x1.z, .bool x1.ad, .bool x1.cd, .int .u8 code1, .slice x1.qA x1.qn x1.qc, .slice aA1 ans1.length ac1, .slice uA1 auth1.length uc1, .slice x1.xA x1.xn x1.xc, .bool x1.he, .int .u16 x1.es, .int .u8 x1.ee, .int .u8 x1.ev, .int .u16 x1.ef, .slice x1.oA x1.on x1.oc] 33)).alloc (.cells #[.int .u16 x2.id, .bool x2.qr, .int .u8 x2.op, .bool x2.aa, .bool x2.tc, .bool x2.rd, .bool x2.ra, .bool x2.z, .bool x2.ad, .bool x2.cd, .int .u8 code2, .slice x2.qA x2.qn x2.qc, .slice aA2 ans2.length ac2, .slice uA2 auth2.length uc2, .slice x2.xA x2.xn x2.xc, .bool x2.he, .int .u16 x2.es, .int .u8 x2.ee, .int .u8 x2.ev, .int .u16 x2.ef, .slice x2.oA x2.on x2.oc] 33))).block (w.heap.size + 1 + 1 + 1) (by simp)).trans (heap_new_at (((w.alloc (.cells #[S n1, .int .u16 ty1, .int .u16 cls1] 24)).alloc (.cells #[S n2, .int .u16 ty2, .int .u16 cls2] 24)).alloc (.cells #[.int .u16 x1.id, .bool x1.qr, .int .u8 x1.op, .bool x1.aa, .bool x1.tc, .bool x1.rd, .bool x1.ra, .bool x1.z, .bool x1.ad, .bool x1.cd, .int .u8 code1, .slice x1.qA x1.qn x1.qc, .slice aA1 ans1.length ac1, .slice uA1 auth1.length uc1, .slice x1.xA x1.xn x1.xc, .bool x1.he, .int .u16 x1.es, .int .u8 x1.ee, .int .u8 x1.ev, .int .u16 x1.ef, .slice x1.oA x1.on x1.oc] 33)) _ (w.heap.size + 1 + 1 + 1) (by simp))
  rw [← hX] at kp zkp kq zkq km zkm kn zkn hkm hkn
  have hwX : Ext w X := by rw [hX]; exact ((((Ext.refl _).alloc _).alloc _).alloc _).alloc _
  have HK := Lib.hid (show ∀ V, Ext X V → (∀ j, V.cell? ⟨w.heap.size, j, none⟩ = #[S n1, .int .u16 ty1, .int .u16 cls1][j]?) ∧ (∀ j, V.cell? ⟨w.heap.size + 1, j, none⟩ = #[S n2, .int .u16 ty2, .int .u16 cls2][j]?) from fun V hV => ⟨fun j => (hV.cell (p := ⟨w.heap.size, j, none⟩) zkp).trans (kp j), fun j => (hV.cell (p := ⟨w.heap.size + 1, j, none⟩) zkq).trans (kq j)⟩)
  have HM1 := Lib.hid (show ∀ V, Ext X V → V.heap[w.heap.size + 1 + 1]? = some (.cells #[.int .u16 x1.id, .bool x1.qr, .int .u8 x1.op, .bool x1.aa, .bool x1.tc, .bool x1.rd, .bool x1.ra, .bool x1.z, .bool x1.ad, .bool x1.cd, .int .u8 code1, .slice x1.qA x1.qn x1.qc, .slice aA1 ans1.length ac1, .slice uA1 auth1.length uc1, .slice x1.xA x1.xn x1.xc, .bool x1.he, .int .u16 x1.es, .int .u8 x1.ee, .int .u8 x1.ev, .int .u16 x1.ef, .slice x1.oA x1.on x1.oc] 33) from fun V hV => (hV.block _ zkm).trans hkm)
  have HM2 := Lib.hid (show ∀ V, Ext X V → V.heap[w.heap.size + 1 + 1 + 1]? = some (.cells #[.int .u16 x2.id, .bool x2.qr, .int .u8 x2.op, .bool x2.aa, .bool x2.tc, .bool x2.rd, .bool x2.ra, .bool x2.z, .bool x2.ad, .bool x2.cd, .int .u8 code2, .slice x2.qA x2.qn x2.qc, .slice aA2 ans2.length ac2, .slice uA2 auth2.length uc2, .slice x2.xA x2.xn x2.xc, .bool x2.he, .int .u16 x2.es, .int .u8 x2.ee, .int .u8 x2.ev, .int .u16 x2.ef, .slice x2.oA x2.on x2.oc] 33) from fun V hV => (hV.block _ zkn).trans hkn)
  clear hkm hkn
  clear kp kq km kn
  obtain ⟨c0, c1⟩ := HK.out X (Ext.refl _)
  go_enter Tryz.func6, Tryz.ntmps6
  go_upto_region 1 with fail
  rw [← hX]
  clear hX
  go_wp2_with (refine wpList_load_rowG (by rfl) 33 (.tmp 6) rfl (w.heap.size + 1 + 1) rfl 33 _ _ _ (HM1.out _ (Ext.refl _)) Tryz.underlying33 rfl (by kernel_rfl) ?_)
  as_aux_lemma =>
    refine (HL1.out _ hwX).mono ?_; rintro e w1 ⟨rfl, hE1⟩
    obtain ⟨d0, d1⟩ := HK.out w1 hE1
    clear c0 c1
    go_wp2_with (refine wpList_load_rowG (by rfl) 33 (.tmp 7) rfl (w.heap.size + 1 + 1 + 1) rfl 33 _ _ _ (HM2.out _ (hE1)) Tryz.underlying33 rfl (by kernel_rfl) ?_)
    as_aux_lemma =>
      refine (HL2.out _ (hwX.trans hE1)).mono ?_; rintro e w2 ⟨rfl, hE2⟩
      go_wp2_with fail
      as_aux_lemma =>
        refine (HA.out _ ((hwX.trans hE1).trans hE2)).mono ?_; rintro e w3 ⟨rfl, hE3⟩
        have hX3 := (hE1.trans hE2).trans hE3
        obtain ⟨c0, c1⟩ := HK.out w3 hX3
        clear d0 d1
        go_wp2_with (refine wpList_load_rowG (by rfl) 33 (.tmp 6) rfl (w.heap.size + 1 + 1) rfl 33 _ _ _ (HM1.out _ (hX3)) Tryz.underlying33 rfl (by kernel_rfl) ?_)
        as_aux_lemma =>
          refine (HV1.out _ (hwX.trans hX3)).mono ?_; rintro e w5 ⟨vs1, vo1, rfl, hs1, ho1, _, hE5⟩
          obtain ⟨sA1, sc1, rfl, _, _⟩ := hs1.shape
          obtain ⟨oA1, oc1, rfl, _, _⟩ := ho1.shape
          have hX5 := hX3.trans hE5
          have hX5' : Ext X (w5.alloc (.cells #[.int .u8 R1.code, .slice sA1 R1.sets.length sc1, .slice oA1 R1.soa.length oc1] 38)) := hX5.alloc _
          obtain ⟨d0, d1⟩ := HK.out _ hX5'
          clear c0 c1
          go_wp2_with (refine wpList_load_rowG (by rfl) 33 (.tmp 7) rfl (w.heap.size + 1 + 1 + 1) rfl 33 _ _ _ (HM2.out _ (hX5')) Tryz.underlying33 rfl (by kernel_rfl) ?_)
          as_aux_lemma =>
            refine (HV2.out _ (hwX.trans hX5')).mono ?_; rintro e w6 ⟨vs2, vo2, rfl, hs2, ho2, _, hE6⟩
            obtain ⟨sA2, sc2, rfl, _, _⟩ := hs2.shape
            obtain ⟨oA2, oc2, rfl, _, _⟩ := ho2.shape
            clear d0 d1
            obtain ⟨Y, hY⟩ : ∃ Y, Y = w6.alloc (.cells #[.int .u8 R2.code, .slice sA2 R2.sets.length sc2, .slice oA2 R2.soa.length oc2] 38) := ⟨_, rfl⟩
            have h56 : Ext (w5.alloc (.cells #[.int .u8 R1.code, .slice sA1 R1.sets.length sc1, .slice oA1 R1.soa.length oc1] 38)) Y := by rw [hY]; exact hE6.alloc _
            obtain ⟨k1, _, zk1⟩ := ext_new h56
            obtain ⟨k2, _, zk2⟩ := ext_new (Ext.refl (w6.alloc (.cells #[.int .u8 R2.code, .slice sA2 R2.sets.length sc2, .slice oA2 R2.soa.length oc2] 38)))
            rw [← hY] at k2 zk2
            have h6Y : Ext w6 Y := by rw [hY]; exact (Ext.refl _).alloc _
            have hwY : Ext w Y := (hwX.trans hX5').trans h56
            have h5Y : Ext w5 Y := ((Ext.refl _).alloc _).trans h56
            as_aux_lemma =>
              by_cases he1 : R1.err = 0
              rotate_left
              · have f1 : ((R1.err : Int) == 0) = false := by rw [beq_eq_false_iff_ne]; omega
                have f2 : ((R1.err : Int) != 0) = true := by rw [bne, f1]; rfl
                clear he1
                go_upto_region 5 with fail
                rw [← hY]
                clear hY
                go_wp2_with fail
                go_ret
                exact ⟨rfl, hwY⟩
              have f1 : ((R1.err : Int) == 0) = true := by rw [he1]; rfl
              have f2 : ((R1.err : Int) != 0) = false := by rw [bne, f1]; rfl
              by_cases he2 : R2.err = 0
              rotate_left
              · have g1 : ((R2.err : Int) == 0) = false := by rw [beq_eq_false_iff_ne]; omega
                have g2 : ((R2.err : Int) != 0) = true := by rw [bne, g1]; rfl
                clear he1 he2
                go_upto_region 5 with fail
                rw [← hY]
                clear hY
                go_wp2_with fail
                go_ret
                exact ⟨rfl, hwY⟩
              have g1 : ((R2.err : Int) == 0) = true := by rw [he2]; rfl
              have g2 : ((R2.err : Int) != 0) = false := by rw [bne, g1]; rfl
              have HS := Lib.hid (show ∀ V, Ext Y V → V.cell? ⟨w5.heap.size, 0, none⟩ = some (.int .u8 R1.code) ∧ V.cell? ⟨w5.heap.size, 1, none⟩ = some (.slice sA1 R1.sets.length sc1) ∧ V.cell? ⟨w5.heap.size, 2, none⟩ = some (.slice oA1 R1.soa.length oc1) ∧ V.cell? ⟨w6.heap.size, 0, none⟩ = some (.int .u8 R2.code) ∧ V.cell? ⟨w6.heap.size, 1, none⟩ = some (.slice sA2 R2.sets.length sc2) ∧ V.cell? ⟨w6.heap.size, 2, none⟩ = some (.slice oA2 R2.soa.length oc2) from fun V hV => ⟨(hV.cell (p := ⟨w5.heap.size, 0, none⟩) zk1).trans (k1 0), (hV.cell (p := ⟨w5.heap.size, 1, none⟩) zk1).trans (k1 1), (hV.cell (p := ⟨w5.heap.size, 2, none⟩) zk1).trans (k1 2), (hV.cell (p := ⟨w6.heap.size, 0, none⟩) zk2).trans (k2 0), (hV.cell (p := ⟨w6.heap.size, 1, none⟩) zk2).trans (k2 1), (hV.cell (p := ⟨w6.heap.size, 2, none⟩) zk2).trans (k2 2)⟩)
              have Hs1 := (hs1.ext h5Y).sets.lower (Nat.zero_le _)
              have Ho1 := (ho1.ext h5Y).sets.lower (Nat.zero_le _)
              have Hs2 := (hs2.ext h6Y).sets.lower (Nat.zero_le _)
              have Ho2 := (ho2.ext h6Y).sets.lower (Nat.zero_le _)
              have HKy1 := Lib.hid (fun V (hV : Ext Y V) => ver_key 0 R1.code _ _ R1.sets R1.soa V (Hs1.ext hV) (Ho1.ext hV) (fun s h => (hF1.sets s h).1.ok) (fun s h => (hF1.soa s h).1.ok) hF1.code hF1.len)
              have HKy2 := Lib.hid (fun V (hV : Ext Y V) => ver_key 0 R2.code _ _ R2.sets R2.soa V (Hs2.ext hV) (Ho2.ext hV) (fun s h => (hF2.sets s h).1.ok) (fun s h => (hF2.soa s h).1.ok) hF2.code hF2.len)
              have HSm := Lib.hid (fun V (hV : Ext Y V) => ver_same 0 0 R1.code R2.code _ _ _ _ R1.sets R1.soa R2.sets R2.soa V (Hs1.ext hV) (Ho1.ext hV) (Hs2.ext hV) (Ho2.ext hV))
              have HRm := Lib.hid (fun V (hV : Ext Y V) => ref11_same 0 0 R1.code R2.code _ _ _ _ R1.sets R1.soa R2.sets R2.soa V (Hs1.ext hV) (Ho1.ext hV) (Hs2.ext hV) (Ho2.ext hV))
              clear Hs1 Ho1 Hs2 Ho2 hs1 ho1 hs2 ho2 he1 he2 k1 k2
              generalize keyV3 R1.code R1.sets R1.soa = K1 at *
              generalize keyV3 R2.code R2.sets R2.soa = K2 at *
              generalize verSame R1.code R1.sets R1.soa R2.code R2.sets R2.soa = B at *
              go_upto_region 5 with fail
              rw [← hY]
              clear hY
              go_wp2_with fail
              rcases B with _ | _
              · have hk : (K1 == K2) = false := HKS.out
                as_aux_lemma =>
                  refine wp_region_noPanic ?_
                  refine wp_region_seq (S := (fun V => V.cell? ⟨w5.heap.size, 0, none⟩ = some (.int .u8 R1.code) ∧ V.cell? ⟨w5.heap.size, 1, none⟩ = some (.slice sA1 R1.sets.length sc1) ∧ V.cell? ⟨w5.heap.size, 2, none⟩ = some (.slice oA1 R1.soa.length oc1) ∧ V.cell? ⟨w6.heap.size, 0, none⟩ = some (.int .u8 R2.code) ∧ V.cell? ⟨w6.heap.size, 1, none⟩ = some (.slice sA2 R2.sets.length sc2) ∧ V.cell? ⟨w6.heap.size, 2, none⟩ = some (.slice oA2 R2.soa.length oc2))) [(0, true), (2, true), (5, true), (6, true), (1, false), (3, false), (4, true), (7, false), (8, true), (9, true), (10, true), (11, true), (13, true), (14, true), (12, false), (15, false), (16, true), (17, true), (18, true)] (by kernel_rfl) (by kernel_rfl) (fun _ _ _ _ _ h => h) (HS.out _ ((Ext.refl Y).drew)) ?_
                  repeat ((with_reducible refine heldIs ?_); first
                    | (refine heldTake (v := ?_) (by rfl) (by rfl) ?_ ?_; rotate_left; (focus (intro V hV; (try dsimp only at hV); (go_simp <;> with_reducible rfl))); (try simp only [Act.put, List.setIfInBounds_toArray, List.set_cons_zero, List.set_cons_succ]))
                    | (refine heldSkip (by rfl) (by rfl) ?_; (try simp only [Act.put, List.setIfInBounds_toArray, List.set_cons_zero, List.set_cons_succ])))
                  refine heldRun (by rfl) (fun K hK => ?_)
                  go_simp
                  refine (HKy1.out _ ((Ext.refl Y).drew)).mono ?_; rintro e v1 ⟨rfl, hF1⟩
                  refine hK.out _ _ ?_ ?_
                  · exact HS.out _ (Ext.trans ((Ext.refl Y).drew) hF1)
                  clear hK K
                  (try simp only [Act.put, List.setIfInBounds_toArray, List.set_cons_zero, List.set_cons_succ])
                  repeat ((with_reducible refine heldIs ?_); first
                    | (refine heldTake (v := ?_) (by rfl) (by rfl) ?_ ?_; rotate_left; (focus (intro V hV; (try dsimp only at hV); (go_simp <;> with_reducible rfl))); (try simp only [Act.put, List.setIfInBounds_toArray, List.set_cons_zero, List.set_cons_succ]))
                    | (refine heldSkip (by rfl) (by rfl) ?_; (try simp only [Act.put, List.setIfInBounds_toArray, List.set_cons_zero, List.set_cons_succ])))
                  refine heldRun (by rfl) (fun K hK => ?_)
                  go_simp
                  refine (HKy2.out _ (Ext.trans ((Ext.refl Y).drew) hF1)).mono ?_; rintro e v2 ⟨rfl, hF2⟩
                  refine hK.out _ _ ?_ ?_
                  · exact HS.out _ (Ext.trans (Ext.trans ((Ext.refl Y).drew) hF1) hF2)
                  clear hK K
                  (try simp only [Act.put, List.setIfInBounds_toArray, List.set_cons_zero, List.set_cons_succ])
                  repeat ((with_reducible refine heldIs ?_); first
                    | (refine heldTake (v := ?_) (by rfl) (by rfl) ?_ ?_; rotate_left; (focus (intro V hV; (try dsimp only at hV); (go_simp <;> with_reducible rfl))); (try simp only [Act.put, List.setIfInBounds_toArray, List.set_cons_zero, List.set_cons_succ]))
                    | (refine heldSkip (by rfl) (by rfl) ?_; (try simp only [Act.put, List.setIfInBounds_toArray, List.set_cons_zero, List.set_cons_succ])))
                  refine heldRun (by rfl) (fun K hK => ?_)
                  go_simp
                  refine (HSm.out _ (Ext.trans (Ext.trans ((Ext.refl Y).drew) hF1) hF2)).mono ?_; rintro e v3 ⟨rfl, hF3⟩
                  refine hK.out _ _ ?_ ?_
                  · exact HS.out _ (Ext.trans (Ext.trans (Ext.trans ((Ext.refl Y).drew) hF1) hF2) hF3)
                  clear hK K
                  (try simp only [Act.put, List.setIfInBounds_toArray, List.set_cons_zero, List.set_cons_succ])
                  repeat ((with_reducible refine heldIs ?_); first
                    | (refine heldTake (v := ?_) (by rfl) (by rfl) ?_ ?_; rotate_left; (focus (intro V hV; (try dsimp only at hV); (go_simp <;> with_reducible rfl))); (try simp only [Act.put, List.setIfInBounds_toArray, List.set_cons_zero, List.set_cons_succ]))
                    | (refine heldSkip (by rfl) (by rfl) ?_; (try simp only [Act.put, List.setIfInBounds_toArray, List.set_cons_zero, List.set_cons_succ])))
                  refine heldRun (by rfl) (fun K hK => ?_)
                  go_simp
                  refine (HSm.out _ (Ext.trans (Ext.trans (Ext.trans ((Ext.refl Y).drew) hF1) hF2) hF3)).mono ?_; rintro e v4 ⟨rfl, hF4⟩
                  refine hK.out _ _ ?_ ?_
                  · exact HS.out _ (Ext.trans (Ext.trans (Ext.trans (Ext.trans ((Ext.refl Y).drew) hF1) hF2) hF3) hF4)
                  clear hK K
                  (try simp only [Act.put, List.setIfInBounds_toArray, List.set_cons_zero, List.set_cons_succ])
                  repeat ((with_reducible refine heldIs ?_); first
                    | (refine heldTake (v := ?_) (by rfl) (by rfl) ?_ ?_; rotate_left; (focus (intro V hV; (try dsimp only at hV); (go_simp <;> with_reducible rfl))); (try simp only [Act.put, List.setIfInBounds_toArray, List.set_cons_zero, List.set_cons_succ]))
                    | (refine heldSkip (by rfl) (by rfl) ?_; (try simp only [Act.put, List.setIfInBounds_toArray, List.set_cons_zero, List.set_cons_succ])))
                  refine heldRun (by rfl) (fun K hK => ?_)
                  go_simp
                  refine (HRm.out _ (Ext.trans (Ext.trans (Ext.trans (Ext.trans ((Ext.refl Y).drew) hF1) hF2) hF3) hF4)).mono ?_; rintro e v5 ⟨rfl, hF5⟩
                  refine hK.out _ _ ?_ ?_
                  · exact HS.out _ (Ext.trans (Ext.trans (Ext.trans (Ext.trans (Ext.trans ((Ext.refl Y).drew) hF1) hF2) hF3) hF4) hF5)
                  clear hK K
                  (try simp only [Act.put, List.setIfInBounds_toArray, List.set_cons_zero, List.set_cons_succ])
                  repeat ((with_reducible refine heldIs ?_); first
                    | (refine heldTake (v := ?_) (by rfl) (by rfl) ?_ ?_; rotate_left; (focus (intro V hV; (try dsimp only at hV); (go_simp <;> with_reducible rfl))); (try simp only [Act.put, List.setIfInBounds_toArray, List.set_cons_zero, List.set_cons_succ]))
                    | (refine heldSkip (by rfl) (by rfl) ?_; (try simp only [Act.put, List.setIfInBounds_toArray, List.set_cons_zero, List.set_cons_succ])))
                  refine heldDone ?_
                  refine NoPanic.normal ?_
                  go_wp2_with fail
                  go_ret
                  exact ⟨rfl, hwY.trans (Ext.trans (Ext.trans (Ext.trans (Ext.trans (Ext.trans ((Ext.refl Y).drew) hF1) hF2) hF3) hF4) hF5)⟩
              · have hk : K1 = K2 := by have := HKS.out; simpa using this
                subst hk
                as_aux_lemma =>
                  refine wp_region_noPanic ?_
                  refine wp_region_seq (S := (fun V => V.cell? ⟨w5.heap.size, 0, none⟩ = some (.int .u8 R1.code) ∧ V.cell? ⟨w5.heap.size, 1, none⟩ = some (.slice sA1 R1.sets.length sc1) ∧ V.cell? ⟨w5.heap.size, 2, none⟩ = some (.slice oA1 R1.soa.length oc1) ∧ V.cell? ⟨w6.heap.size, 0, none⟩ = some (.int .u8 R2.code) ∧ V.cell? ⟨w6.heap.size, 1, none⟩ = some (.slice sA2 R2.sets.length sc2) ∧ V.cell? ⟨w6.heap.size, 2, none⟩ = some (.slice oA2 R2.soa.length oc2))) [(0, true), (2, true), (5, true), (6, true), (1, false), (3, false), (4, true), (7, false), (8, true), (9, true), (10, true), (11, true), (13, true), (14, true), (12, false), (15, false), (16, true), (17, true), (18, true)] (by kernel_rfl) (by kernel_rfl) (fun _ _ _ _ _ h => h) (HS.out _ ((Ext.refl Y).drew)) ?_
                  repeat ((with_reducible refine heldIs ?_); first
                    | (refine heldTake (v := ?_) (by rfl) (by rfl) ?_ ?_; rotate_left; (focus (intro V hV; (try dsimp only at hV); (go_simp <;> with_reducible rfl))); (try simp only [Act.put, List.setIfInBounds_toArray, List.set_cons_zero, List.set_cons_succ]))
                    | (refine heldSkip (by rfl) (by rfl) ?_; (try simp only [Act.put, List.setIfInBounds_toArray, List.set_cons_zero, List.set_cons_succ])))
                  refine heldRun (by rfl) (fun K hK => ?_)
                  go_simp
                  refine (HKy1.out _ ((Ext.refl Y).drew)).mono ?_; rintro e v1 ⟨rfl, hF1⟩
                  refine hK.out _ _ ?_ ?_
                  · exact HS.out _ (Ext.trans ((Ext.refl Y).drew) hF1)
                  clear hK K
                  (try simp only [Act.put, List.setIfInBounds_toArray, List.set_cons_zero, List.set_cons_succ])
                  repeat ((with_reducible refine heldIs ?_); first
                    | (refine heldTake (v := ?_) (by rfl) (by rfl) ?_ ?_; rotate_left; (focus (intro V hV; (try dsimp only at hV); (go_simp <;> with_reducible rfl))); (try simp only [Act.put, List.setIfInBounds_toArray, List.set_cons_zero, List.set_cons_succ]))
                    | (refine heldSkip (by rfl) (by rfl) ?_; (try simp only [Act.put, List.setIfInBounds_toArray, List.set_cons_zero, List.set_cons_succ])))
                  refine heldRun (by rfl) (fun K hK => ?_)
                  go_simp
                  refine (HKy2.out _ (Ext.trans ((Ext.refl Y).drew) hF1)).mono ?_; rintro e v2 ⟨rfl, hF2⟩
                  refine hK.out _ _ ?_ ?_
                  · exact HS.out _ (Ext.trans (Ext.trans ((Ext.refl Y).drew) hF1) hF2)
                  clear hK K
                  (try simp only [Act.put, List.setIfInBounds_toArray, List.set_cons_zero, List.set_cons_succ])
                  repeat ((with_reducible refine heldIs ?_); first
                    | (refine heldTake (v := ?_) (by rfl) (by rfl) ?_ ?_; rotate_left; (focus (intro V hV; (try dsimp only at hV); (go_simp <;> with_reducible rfl))); (try simp only [Act.put, List.setIfInBounds_toArray, List.set_cons_zero, List.set_cons_succ]))
                    | (refine heldSkip (by rfl) (by rfl) ?_; (try simp only [Act.put, List.setIfInBounds_toArray, List.set_cons_zero, List.set_cons_succ])))
                  refine heldRun (by rfl) (fun K hK => ?_)
                  go_simp
                  refine (HSm.out _ (Ext.trans (Ext.trans ((Ext.refl Y).drew) hF1) hF2)).mono ?_; rintro e v3 ⟨rfl, hF3⟩
                  refine hK.out _ _ ?_ ?_
                  · exact HS.out _ (Ext.trans (Ext.trans (Ext.trans ((Ext.refl Y).drew) hF1) hF2) hF3)
                  clear hK K
                  (try simp only [Act.put, List.setIfInBounds_toArray, List.set_cons_zero, List.set_cons_succ])
                  repeat ((with_reducible refine heldIs ?_); first
                    | (refine heldTake (v := ?_) (by rfl) (by rfl) ?_ ?_; rotate_left; (focus (intro V hV; (try dsimp only at hV); (go_simp <;> with_reducible rfl))); (try simp only [Act.put, List.setIfInBounds_toArray, List.set_cons_zero, List.set_cons_succ]))
                    | (refine heldSkip (by rfl) (by rfl) ?_; (try simp only [Act.put, List.setIfInBounds_toArray, List.set_cons_zero, List.set_cons_succ])))
                  refine heldRun (by rfl) (fun K hK => ?_)
                  go_simp
                  refine (HSm.out _ (Ext.trans (Ext.trans (Ext.trans ((Ext.refl Y).drew) hF1) hF2) hF3)).mono ?_; rintro e v4 ⟨rfl, hF4⟩
                  refine hK.out _ _ ?_ ?_
                  · exact HS.out _ (Ext.trans (Ext.trans (Ext.trans (Ext.trans ((Ext.refl Y).drew) hF1) hF2) hF3) hF4)
                  clear hK K
                  (try simp only [Act.put, List.setIfInBounds_toArray, List.set_cons_zero, List.set_cons_succ])
                  repeat ((with_reducible refine heldIs ?_); first
                    | (refine heldTake (v := ?_) (by rfl) (by rfl) ?_ ?_; rotate_left; (focus (intro V hV; (try dsimp only at hV); (go_simp <;> with_reducible rfl))); (try simp only [Act.put, List.setIfInBounds_toArray, List.set_cons_zero, List.set_cons_succ]))
                    | (refine heldSkip (by rfl) (by rfl) ?_; (try simp only [Act.put, List.setIfInBounds_toArray, List.set_cons_zero, List.set_cons_succ])))
                  refine heldRun (by rfl) (fun K hK => ?_)
                  go_simp
                  refine (HRm.out _ (Ext.trans (Ext.trans (Ext.trans (Ext.trans ((Ext.refl Y).drew) hF1) hF2) hF3) hF4)).mono ?_; rintro e v5 ⟨rfl, hF5⟩
                  refine hK.out _ _ ?_ ?_
                  · exact HS.out _ (Ext.trans (Ext.trans (Ext.trans (Ext.trans (Ext.trans ((Ext.refl Y).drew) hF1) hF2) hF3) hF4) hF5)
                  clear hK K
                  (try simp only [Act.put, List.setIfInBounds_toArray, List.set_cons_zero, List.set_cons_succ])
                  repeat ((with_reducible refine heldIs ?_); first
                    | (refine heldTake (v := ?_) (by rfl) (by rfl) ?_ ?_; rotate_left; (focus (intro V hV; (try dsimp only at hV); (go_simp <;> with_reducible rfl))); (try simp only [Act.put, List.setIfInBounds_toArray, List.set_cons_zero, List.set_cons_succ]))
                    | (refine heldSkip (by rfl) (by rfl) ?_; (try simp only [Act.put, List.setIfInBounds_toArray, List.set_cons_zero, List.set_cons_succ])))
                  refine heldDone ?_
                  refine NoPanic.normal ?_
                  go_wp2_with fail
                  go_ret
                  exact ⟨rfl, hwY.trans (Ext.trans (Ext.trans (Ext.trans (Ext.trans (Ext.trans ((Ext.refl Y).drew) hF1) hF2) hF3) hF4) hF5)⟩
end Go.Proofs.YtbdjoihckienbaaGreatDoor
namespace Go.Proofs.YtbdjoihckienbaaGreatDoor
set_option linter.unusedSimpArgs false
set_option linter.unusedVariables false
open Go.ChangeShapes Go.WideShapes Go.ChangeAt Go.RowKit
set_option maxRecDepth 100000

theorem verdictKeys_contract (H : Type) (enc : TypeId × Value → H) (W : World) (base : Nat) (args : Array Value) (ds gs : List (DataW H)) (before : List MemPlace)
    (hval : ∀ (j : Nat) t v, Tryz.f6.params[j]? = some t → args[j]? = some v → Value.okWide Tryz.prog W .any base t v)
    (hW : DataW.Whole enc Tryz.prog Tryz.f6.params.toList Rows.verdictKeysSpec.vars false W args.toList ds gs before)
    (hsz : (DataW.weightsEach Tryz.prog (Tryz.f6.params.toList ++ (OpenSpec.ofChange Rows.verdictKeysSpec).bare.plain.varTypes Tryz.prog) (ds ++ gs)).all (· ≤ reachBytes) = true)
    (hL : laidMetH Tryz.prog laidL W) :
    Calls Tryz.prog 6 args W fun e W' => ∃ v, e = .returned v ∧ Rows.verdictKeysSpec.post enc Tryz.prog Tryz.f6 false true false false W args v W' := by
  have hW' := hW
  have hp : ∀ t ∈ Tryz.f6.params.toList, Tryz.prog.readableRec t = true ∧ t < Tryz.prog.types.size := by
    have h : (Tryz.f6.params.toList.all fun t => Tryz.prog.readableRec t && decide (t < Tryz.prog.types.size)) = true := by kernel_rfl
    simpa only [List.all_eq_true, Bool.and_eq_true, decide_eq_true_eq] using h
  have hg := laid_of hL
  obtain ⟨p, q, hA0, hV, rfl, _, _⟩ := hW
  have hA : DataW.TrodAll enc Tryz.prog W 0 (fun _ => true) true Tryz.f6.params.toList args.toList ds p := hA0
  clear hA0
  rw [Tryz.params6] at hA hval hsz
  obtain ⟨rfl, rfl⟩ := trodVars_none hV
  obtain ⟨v0, v1, v2, v3, d0, d1, d2, d3, p0, p1, p2, p3, rfl, rfl, rfl, h0, h1, h2, h3⟩ := trodAll_four hA
  obtain ⟨n1, ty1, cl1, rfl, hn1, _, _⟩ := open_question (hval 0 _ _ rfl rfl) h0
  obtain ⟨n2, ty2, cl2, rfl, hn2, _, _⟩ := open_question (hval 1 _ _ rfl rfl) h1
  obtain ⟨x1, code1, aA1, ac1, uA1, uc1, ans1, auth1, ext1, rfl, ha1, hu1, hx1, hao1, huo1, hxo1, hcd1, hq1⟩ := open_msg (hval 2 _ _ rfl rfl) h2
  obtain ⟨x2, code2, aA2, ac2, uA2, uc2, ans2, auth2, ext2, rfl, ha2, hu2, hx2, hao2, huo2, hxo2, hcd2, hq2⟩ := open_msg (hval 3 _ _ rfl rfl) h3
  refine (law_verdictKeys x1 n1 ty1 cl1 code1 aA1 ac1 uA1 uc1 ans1 auth1 ext1 x2 n2 ty2 cl2 code2 aA2 ac2 uA2 uc2 ans2 auth2 ext2 W hg ha1 hu1 hx1 hao1 huo1 hxo1 hn1 hq1 ha2 hu2 hx2 hao2 huo2 hxo2 hn2 hq2).mono ?_
  rintro e W' ⟨rfl, hE⟩
  exact ⟨_, rfl, post_true laid_out rfl (by kernel_rfl) Tryz.underlying4 hp hW' rfl hE⟩

theorem verdictKeys_reads (os : Os) {H : Type} (enc : TypeId × Value → H) : ∃ places, DataW.whole enc Tryz.prog ((laidWorld os).forCall (fun _ _ => 0) ⟨#[], #[.agg #[.string ⟨#[]⟩, .int .u16 0, .int .u16 0], .agg #[.string ⟨#[]⟩, .int .u16 0, .int .u16 0], .agg #[.int .u16 0, .bool false, .int .u8 0, .bool false, .bool false, .bool false, .bool false, .bool false, .bool false, .bool false, .int .u8 0, .slice none 0 0, .slice none 0 0, .slice none 0 0, .slice none 0 0, .bool false, .int .u16 0, .int .u8 0, .int .u8 0, .int .u16 0, .slice none 0 0], .agg #[.int .u16 0, .bool false, .int .u8 0, .bool false, .bool false, .bool false, .bool false, .bool false, .bool false, .bool false, .int .u8 0, .slice none 0 0, .slice none 0 0, .slice none 0 0, .slice none 0 0, .bool false, .int .u16 0, .int .u8 0, .int .u8 0, .int .u16 0, .slice none 0 0]], []⟩).memory Tryz.f6.params.toList Rows.verdictKeysSpec.vars false (#[.agg #[.string ⟨#[]⟩, .int .u16 0, .int .u16 0], .agg #[.string ⟨#[]⟩, .int .u16 0, .int .u16 0], .agg #[.int .u16 0, .bool false, .int .u8 0, .bool false, .bool false, .bool false, .bool false, .bool false, .bool false, .bool false, .int .u8 0, .slice none 0 0, .slice none 0 0, .slice none 0 0, .slice none 0 0, .bool false, .int .u16 0, .int .u8 0, .int .u8 0, .int .u16 0, .slice none 0 0], .agg #[.int .u16 0, .bool false, .int .u8 0, .bool false, .bool false, .bool false, .bool false, .bool false, .bool false, .bool false, .int .u8 0, .slice none 0 0, .slice none 0 0, .slice none 0 0, .slice none 0 0, .bool false, .int .u16 0, .int .u8 0, .int .u8 0, .int .u16 0, .slice none 0 0]] : Array Value).toList 8 = some ([.agg [.lit (.string []), .lit (.int .u16 0), .lit (.int .u16 0)], .agg [.lit (.string []), .lit (.int .u16 0), .lit (.int .u16 0)], .agg [.agg [.lit (.int .u16 0), .lit (.bool false), .lit (.int .u8 0), .lit (.bool false), .lit (.bool false), .lit (.bool false), .lit (.bool false), .lit (.bool false), .lit (.bool false), .lit (.bool false), .lit (.int .u8 0)], .nil, .nil, .nil, .nil, .lit (.bool false), .agg [.lit (.int .u16 0), .lit (.int .u8 0), .lit (.int .u8 0), .lit (.int .u16 0), .nil]], .agg [.agg [.lit (.int .u16 0), .lit (.bool false), .lit (.int .u8 0), .lit (.bool false), .lit (.bool false), .lit (.bool false), .lit (.bool false), .lit (.bool false), .lit (.bool false), .lit (.bool false), .lit (.int .u8 0)], .nil, .nil, .nil, .nil, .lit (.bool false), .agg [.lit (.int .u16 0), .lit (.int .u8 0), .lit (.int .u8 0), .lit (.int .u16 0), .nil]]], [], places) :=
  ⟨[], by kernel_rfl⟩
theorem verdictKeys_lifted (os : Os) (started : os.Started) (H : Type) (enc : TypeId × Value → H) (F : Stop.Interp) :
    ReturnsInHanded {} Tryz.checked os 6 .any ((OpenSpec.ofChange Rows.verdictKeysSpec).preRow enc Tryz.prog Tryz.f6 Rows.verdictKeysRow.domain false Rows.verdictKeysRow.laid) (((OpenSpec.ofChange Rows.verdictKeysSpec).at F).post enc Tryz.prog Tryz.f6 false true false false) := by
  obtain ⟨places, hx⟩ := verdictKeys_reads os enc
  refine returnsInHanded_of_row (C := Tryz.checked) (s := OpenSpec.ofChange Rows.verdictKeysSpec) own_knob started (by kernel_rfl) Tryz.func6
    (witness_row_at (enc := enc) (C := Tryz.checked) false (laidWorld os) #[.agg #[.string ⟨#[]⟩, .int .u16 0, .int .u16 0], .agg #[.string ⟨#[]⟩, .int .u16 0, .int .u16 0], .agg #[.int .u16 0, .bool false, .int .u8 0, .bool false, .bool false, .bool false, .bool false, .bool false, .bool false, .bool false, .int .u8 0, .slice none 0 0, .slice none 0 0, .slice none 0 0, .slice none 0 0, .bool false, .int .u16 0, .int .u8 0, .int .u8 0, .int .u16 0, .slice none 0 0], .agg #[.int .u16 0, .bool false, .int .u8 0, .bool false, .bool false, .bool false, .bool false, .bool false, .bool false, .bool false, .int .u8 0, .slice none 0 0, .slice none 0 0, .slice none 0 0, .slice none 0 0, .bool false, .int .u16 0, .int .u8 0, .int .u8 0, .int .u16 0, .slice none 0 0]] rfl (by kernel_rfl) (by kernel_rfl) (by kernel_rfl)
      (OpenSpec.preRow_of_cond 8 hx (by kernel_rfl) (fun k hk => by cases hk) (by kernel_rfl) (laid_met os _))) ?_
  intro W base args ds gs before hval hW _ _ hsz hL _ _
  exact verdictKeys_contract H enc W base args ds gs before hval hW hsz hL
theorem verdictKeys_said : Rows.VerdictKeysSaid :=
  OpenClaim.holds_of_cond 6 Tryz.f6 rfl rfl rfl rfl rfl rfl rfl ⟨rfl, rfl, rfl, rfl, rfl⟩ rfl rfl rfl rfl rfl (by kernel_rfl) Tryz.func6 (by kernel_rfl)
    (of_decide_eq_true (by kernel_rfl)) (by unfold Func.isWrapper; first | (rw [if_pos (by decide +kernel)]; kernel_rfl) | (rw [if_neg (by decide +kernel)]; exact ⟨rfl, rfl⟩))
    (fun os started H enc _ F => by rw [OpenClaim.pre_eq_preRow]; exact verdictKeys_lifted os started H enc F)
/-- THE CARD. -/
theorem verdictKeys_card : Rows.VerdictKeysCardSaid :=
  Claim7.holds_tied_plain_at .later [] _ _ _ _ verdictKeys_said (fun _ h => by cases h) (by kernel_rfl) (fun _ h => by cases h) verdictKeys_row_tie rfl ⟨rfl, rfl⟩ (by kernel_rfl) rfl
    (fun f fn hf hfn => by
      obtain rfl : f = 6 := Option.some.inj ((show Tryz.prog.funcNamed Rows.verdictKeysRow.func = some 6 by kernel_rfl).symm.trans hf) |>.symm
      obtain rfl : fn = Tryz.f6 := (Option.some.inj (Tryz.func6.symm.trans hfn)).symm
      refine ⟨by kernel_rfl, fun j t ht => ?_⟩
      have h : (Tryz.f6.params.toList.all fun t => !Tryz.prog.wantsStandIn t) = true := by kernel_rfl
      have h2 := List.all_eq_true.1 h t (by simpa using Array.mem_of_getElem? ht)
      exact (by simpa using h2 : Tryz.prog.wantsStandIn t = false))
    (by kernel_rfl)
#print axioms verdictKeys_card
end Go.Proofs.YtbdjoihckienbaaGreatDoor
