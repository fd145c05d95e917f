/- Contracts of functions and plain lemmas that the proofs of this seat share (joined texts). No condition. -/
import Derived.Test.YtbdjoihckienbaaGreatDoorBt
import Derived.Test.YtbdjoihckienbaaGreatDoorBra
import Derived.Test.YtbdjoihckienbaaGreatDoorBrl
import Derived.Test.YtbdjoihckienbaaGreatDoorBg1
import Derived.Test.YtbdjoihckienbaaGreatDoorBht
import Derived.Test.YtbdjoihckienbaaGreatDoorBls
namespace Go.Proofs.YtbdjoihckienbaaGreatDoor
set_option linter.unusedSimpArgs false
set_option linter.unusedVariables false
open Go.RowKit
set_option maxRecDepth 100000

theorem Sets.shapeR {w : World} {lo : Nat} {v : Value} {l : List SetD} (h : Sets w lo v l) : ∃ (ps : List (SetD × Value)) (A : Option Addr) (c : Nat), v = .slice A l.length c ∧ ps.map Prod.fst = l ∧ ps.length = l.length ∧ l.length ≤ c ∧ c ≤ maxLen ∧ Rd w lo 5 A ps.length (ps.flatMap setCells) ∧ ∀ p ∈ ps, Strs w lo p.2 p.1.data := by
  obtain ⟨ps, A, c, h1, h2, h3, h4, h5, h6⟩ := h
  have hl : ps.length = l.length := by rw [← h1]; simp
  exact ⟨ps, A, c, by rw [h2, hl], h1, hl, by rw [← hl]; exact h3, h4, h5, h6⟩
def ROfPost (R : VerR) (w : World) (e : Ending) (w' : World) : Prop :=
  ∃ vs vo, e = .returned (.tuple #[.agg #[.int .u8 R.code, vs, vo], .int .u32 R.time, .int .i64 R.err]) ∧ Sets w' 0 vs R.sets ∧ Sets w' 0 vo R.soa ∧ Ext w w'
theorem rof_bad (w w' : World) (e : Nat) (h : Ext w w') : ROfPost (VerR.bad e) w (.returned (.tuple #[.agg #[.int .u8 0, .slice none 0 0, .slice none 0 0], .int .u32 0, .int .i64 e])) w' :=
  ⟨_, _, rfl, Sets.nil _ _, Sets.nil _ _, h⟩
theorem leastT_min : ∀ (l : List SetD) (a b : Int), leastT l (min a b) = min (leastT l a) b
  | [], a, b => rfl
  | x :: r, a, b => by
    show leastT r (min (min a b) x.ttl) = min (leastT r (min a x.ttl)) b
    rw [← leastT_min r (min a x.ttl) b]
    congr 1
    omega
theorem leastT_tm (l : List SetD) (t : Int) (h : t ≤ 2147483647) : min (leastT l 2147483647) t = leastT l t := by
  rw [← leastT_min]
  congr 1
  omega
/-- Texts that are told from a block that holds none. -/
theorem Strs.offB {w V : World} {lo g : Nat} {v : Value} {l : List (List UInt8)} (h : Strs w lo v l) (hk : ∀ j x, w.cell? ⟨g, j, none⟩ ≠ some (S x)) (hV : OffB g w V) (hz : w.heap.size ≤ V.heap.size) : Strs V lo v l := by
  obtain ⟨A, c, e, h1, h2, hr⟩ := h
  refine ⟨A, c, e, h1, h2, hr.1, fun hn => ?_⟩
  obtain ⟨b, off, e2, hlo, hb, hc⟩ := hr.2 hn
  refine ⟨b, off, e2, hlo, Nat.lt_of_lt_of_le hb hz, fun j u hu => ?_⟩
  have hcu := hc j u hu
  by_cases hbg : b = g
  · subst hbg
    obtain ⟨s, hs⟩ : ∃ s, u = S s := by
      rw [List.getElem?_map] at hu
      rcases hx : l[j]? with _ | s
      · rw [hx] at hu; cases hu
      · rw [hx] at hu; exact ⟨s, (Option.some.inj hu).symm⟩
    rw [hs] at hcu
    exact absurd hcu (hk _ _)
  · rw [hV b _ hb hbg]; exact hcu
theorem off5 {w : World} {lo g n c : Nat} {A : Option Addr} {xs : List Value} {e : TypeId} (h : Own w lo e 1 A n c xs) (hp : (Value.slice A n c).ownBlock = none ∨ (Value.slice A n c).ownBlock ≠ some g) (u0 u1 u2 u3 u4 : Value) :
    Own (((((w.setCell ⟨g, 0, none⟩ u0).setCell ⟨g, 1, none⟩ u1).setCell ⟨g, 2, none⟩ u2).setCell ⟨g, 3, none⟩ u3).setCell ⟨g, 4, none⟩ u4) lo e 1 A n c xs :=
  ((((h.off (p := ⟨g, 0, none⟩) hp u0).off (p := ⟨g, 1, none⟩) hp u1).off (p := ⟨g, 2, none⟩) hp u2).off (p := ⟨g, 3, none⟩) hp u3).off (p := ⟨g, 4, none⟩) hp u4
theorem off_high {w : World} {lo g n c : Nat} {A : Option Addr} {xs : List Value} {e : TypeId} (h : Own w lo e 1 A n c xs) (hg : w.heap.size ≤ g) : (Value.slice A n c).ownBlock = none ∨ (Value.slice A n c).ownBlock ≠ some g := by
  rcases hb : (Value.slice A n c).ownBlock with _ | k
  · exact .inl rfl
  · refine .inr (fun e => ?_)
    injection e with e
    have := (h.blk k hb).2
    omega
theorem off_low {w : World} {lo g n c : Nat} {A : Option Addr} {xs : List Value} {e : TypeId} (h : Own w lo e 1 A n c xs) (hg : g < lo) : (Value.slice A n c).ownBlock = none ∨ (Value.slice A n c).ownBlock ≠ some g := by
  rcases hb : (Value.slice A n c).ownBlock with _ | k
  · exact .inl rfl
  · refine .inr (fun e => ?_)
    injection e with e
    have := (h.blk k hb).1
    omega
theorem OStrs.lower0 {w : World} {lo : Nat} {v : Value} {l : List (List UInt8)} (h : OStrs w lo v l) : OStrs w 0 v l := by
  obtain ⟨A, c, e, ho⟩ := h
  exact ⟨A, c, e, ho.lower (Nat.zero_le _)⟩
structure OfInv (w4 : World) (code : Int) (all : List SetD) (k : Nat) (qs : List (SetD × Value)) (B : Option Addr) (d : Nat) (wr : World) : Prop where
  len : qs.length = k
  fst : qs.map Prod.fst = (all.take k).map ttl0
  box : ∀ j, wr.cell? ⟨w4.heap.size, j, none⟩ = #[.int .u8 code, .slice B qs.length d, .slice none 0 0][j]?
  fro : ∀ j, wr.frozen? ⟨w4.heap.size, j, none⟩ = false
  zb : w4.heap.size < wr.heap.size
  own : Own wr (w4.heap.size + 1) 55 5 B qs.length d (qs.flatMap setCells)
  datas : ∀ p ∈ qs, Strs w4 0 p.2 p.1.data
  ext : Ext w4 wr

theorem of_sets {w4 wo V : World} {code : Int} {all L : List SetD} {k : Nat} {qs : List (SetD × Value)} {B : Option Addr} {d g : Nat} (hI : OfInv w4 code all k qs B d wo) (hq : qs.map Prod.fst = L) (hrx : ∀ j y, w4.cell? ⟨g, j, none⟩ ≠ some (S y)) (hV : OffB g w4 V) (hz : w4.heap.size ≤ V.heap.size) (ho : Own V (w4.heap.size + 1) 55 5 B qs.length d (qs.flatMap setCells)) :
    Sets V 0 (.slice B qs.length d) L :=
  ⟨qs, B, d, hq, rfl, ho.cap.1, ho.cap.2, ho.rd.lower (Nat.zero_le _), fun p hp => (hI.datas p hp).offB hrx hV hz⟩
theorem of_sets3 {w4 wo Y : World} {code : Int} {all L : List SetD} {k : Nat} {qs : List (SetD × Value)} {B : Option Addr} {d g : Nat} (hI : OfInv w4 code all k qs B d wo) (hE : Ext wo Y) (hq : qs.map Prod.fst = L) (hres : g < w4.heap.size) (hrx : ∀ j y, w4.cell? ⟨g, j, none⟩ ≠ some (S y)) (u0 u1 u2 : Value) :
    Sets (((Y.setCell ⟨g, 0, none⟩ u0).setCell ⟨g, 1, none⟩ u1).setCell ⟨g, 2, none⟩ u2) 0 (.slice B qs.length d) L :=
  of_sets hI hq hrx (offB_set (offB_set (offB_set (offB_ext (hI.ext.trans hE)) 0 u0) 1 u1) 2 u2) (by have h1 := hI.ext.size; have h2 := hE.size; simp; omega) ((((hI.own.ext hE).set_other (show g < w4.heap.size + 1 by omega) u0).set_other (show g < w4.heap.size + 1 by omega) u1).set_other (show g < w4.heap.size + 1 by omega) u2)
theorem cell_oth {W : World} {b g i j : Nat} {u : Value} {r : Option Value} (h : W.cell? ⟨g, j, none⟩ = r) (hb : b ≠ g) : (W.setCell ⟨b, i, none⟩ u).cell? ⟨g, j, none⟩ = r := by
  rw [World.cell?_setCell_other W ⟨b, i, none⟩ ⟨g, j, none⟩ _ (by intro e; injection e with e _ _; first | exact hb e | exact hb e.symm)]
  exact h

set_option maxHeartbeats 8000000 in
theorem ref11_of (x : MsgX) (n : List UInt8) (ty cls code : Int) (lo : Nat) (aA : Option Addr) (ac : Nat) (uA : Option Addr) (uc : Nat) (ans auth : List RecD) (w : World)
    (ha : Recs w lo (.slice aA ans.length ac) ans) (hu : Recs w lo (.slice uA auth.length uc) auth) (hab : RecsBd ans) (hub : RecsBd auth) (hut : ∀ r ∈ auth, 0 ≤ r.ttl) (hn : n.length ≤ 1048576) :
    Calls Tryz.prog 12 #[.agg #[S n, .int .u16 ty, .int .u16 cls], msgV x code (.slice aA ans.length ac) (.slice uA auth.length uc)] w (ROfPost (verOf n ty cls code ans auth) w) := by
  have HM := Lib.hid (fun W => ref_may n W hn)
  have HG1 := Lib.hid (fun W (hW : Ext w W) => ref_group lo _ ans W (ha.ext hW) hab)
  have HG2 := Lib.hid (fun W (hW : Ext w W) => ref_group lo _ auth W (hu.ext hW) hub)
  have hb1 := groupR_bd hab
  have hb2 := groupR_bd hub
  have Htt := Lib.hid (fun s (hs : s ∈ groupR auth) => (group_ttl0 hut hs).1)
  rcases hm : may n with _ | _
  · have hR : verOf n ty cls code ans auth = VerR.bad 1 := if_neg (by rw [hm]; rintro ⟨h, _⟩; cases h)
    have HR := Lib.hid hR
    rw [hm] at HM
    clear hm hR
    obtain ⟨X, hX⟩ : ∃ X, X = (((w.alloc (.cells #[S n, .int .u16 ty, .int .u16 cls] 24)).alloc (.cells #[.int .u16 x.id, .bool x.qr, .int .u8 x.op, .bool x.aa, .bool x.tc, .bool x.rd, .bool x.ra, .bool x.z, .bool x.ad, .bool x.cd, .int .u8 code, .slice x.qA x.qn x.qc, .slice aA ans.length ac, .slice uA auth.length uc, .slice x.xA x.xn x.xc, .bool x.he, .int .u16 x.es, .int .u8 x.ee, .int .u8 x.ev, .int .u16 x.ef, .slice x.oA x.on x.oc] 33)).alloc (.cells #[.int .u8 0, .slice none 0 0, .slice none 0 0] 38)) := ⟨_, rfl⟩
    obtain ⟨kq, _, zq⟩ := ext_new_at (w.heap.size) rfl (((Ext.refl (w.alloc (.cells #[S n, .int .u16 ty, .int .u16 cls] 24))).alloc (.cells #[.int .u16 x.id, .bool x.qr, .int .u8 x.op, .bool x.aa, .bool x.tc, .bool x.rd, .bool x.ra, .bool x.z, .bool x.ad, .bool x.cd, .int .u8 code, .slice x.qA x.qn x.qc, .slice aA ans.length ac, .slice uA auth.length uc, .slice x.xA x.xn x.xc, .bool x.he, .int .u16 x.es, .int .u8 x.ee, .int .u8 x.ev, .int .u16 x.ef, .slice x.oA x.on x.oc] 33)).alloc (.cells #[.int .u8 0, .slice none 0 0, .slice none 0 0] 38))
    have zm : w.heap.size + 1 < (((w.alloc (.cells #[S n, .int .u16 ty, .int .u16 cls] 24)).alloc (.cells #[.int .u16 x.id, .bool x.qr, .int .u8 x.op, .bool x.aa, .bool x.tc, .bool x.rd, .bool x.ra, .bool x.z, .bool x.ad, .bool x.cd, .int .u8 code, .slice x.qA x.qn x.qc, .slice aA ans.length ac, .slice uA auth.length uc, .slice x.xA x.xn x.xc, .bool x.he, .int .u16 x.es, .int .u8 x.ee, .int .u8 x.ev, .int .u16 x.ef, .slice x.oA x.on x.oc] 33)).alloc (.cells #[.int .u8 0, .slice none 0 0, .slice none 0 0] 38)).heap.size := by simp
    have hkm : (((w.alloc (.cells #[S n, .int .u16 ty, .int .u16 cls] 24)).alloc (.cells #[.int .u16 x.id, .bool x.qr, .int .u8 x.op, .bool x.aa, .bool x.tc, .bool x.rd, .bool x.ra, .bool x.z, .bool x.ad, .bool x.cd, .int .u8 code, .slice x.qA x.qn x.qc, .slice aA ans.length ac, .slice uA auth.length uc, .slice x.xA x.xn x.xc, .bool x.he, .int .u16 x.es, .int .u8 x.ee, .int .u8 x.ev, .int .u16 x.ef, .slice x.oA x.on x.oc] 33)).alloc (.cells #[.int .u8 0, .slice none 0 0, .slice none 0 0] 38)).heap[w.heap.size + 1]? = some (.cells #[.int .u16 x.id, .bool x.qr, .int .u8 x.op, .bool x.aa, .bool x.tc, .bool x.rd, .bool x.ra, .bool x.z, .bool x.ad, .bool x.cd, .int .u8 code, .slice x.qA x.qn x.qc, .slice aA ans.length ac, .slice uA auth.length uc, .slice x.xA x.xn x.xc, .bool x.he, .int .u16 x.es, .int .u8 x.ee, .int .u8 x.ev, .int .u16 x.ef, .slice x.oA x.on x.oc] 33) := (((Ext.refl ((w.alloc (.cells #[S n, .int .u16 ty, .int .u16 cls] 24)).alloc (.cells #[.int .u16 x.id, .bool x.qr, .int .u8 x.op, .bool x.aa, .bool x.tc, .bool x.rd, .bool x.ra, .bool x.z, .bool x.ad, .bool x.cd, .int .u8 code, .slice x.qA x.qn x.qc, .slice aA ans.length ac, .slice uA auth.length uc, .slice x.xA x.xn x.xc, .bool x.he, .int .u16 x.es, .int .u8 x.ee, .int .u8 x.ev, .int .u16 x.ef, .slice x.oA x.on x.oc] 33))).alloc (.cells #[.int .u8 0, .slice none 0 0, .slice none 0 0] 38)).block (w.heap.size + 1) (by simp)).trans (heap_new_at (w.alloc (.cells #[S n, .int .u16 ty, .int .u16 cls] 24)) _ (w.heap.size + 1) (by simp))
    obtain ⟨kv, kvf, zv⟩ := ext_new_at (w.heap.size + 1 + 1) (by simp) (Ext.refl (((w.alloc (.cells #[S n, .int .u16 ty, .int .u16 cls] 24)).alloc (.cells #[.int .u16 x.id, .bool x.qr, .int .u8 x.op, .bool x.aa, .bool x.tc, .bool x.rd, .bool x.ra, .bool x.z, .bool x.ad, .bool x.cd, .int .u8 code, .slice x.qA x.qn x.qc, .slice aA ans.length ac, .slice uA auth.length uc, .slice x.xA x.xn x.xc, .bool x.he, .int .u16 x.es, .int .u8 x.ee, .int .u8 x.ev, .int .u16 x.ef, .slice x.oA x.on x.oc] 33)).alloc (.cells #[.int .u8 0, .slice none 0 0, .slice none 0 0] 38)))
    rw [← hX] at kq zq zm hkm kv kvf zv
    have hwX : Ext w X := by rw [hX]; exact (((Ext.refl _).alloc _).alloc _).alloc _
    have hXz : w.heap.size + 1 + 1 + 1 = X.heap.size := by rw [hX]; simp
    have HK := Lib.hid (show ∀ V, Ext X V → V.cell? ⟨w.heap.size, 0, none⟩ = some (S n) ∧ V.cell? ⟨w.heap.size, 1, none⟩ = some (.int .u16 ty) ∧ V.cell? ⟨w.heap.size, 2, none⟩ = some (.int .u16 cls) from fun V hV => ⟨(hV.cell (p := ⟨w.heap.size, 0, none⟩) zq).trans (kq 0), (hV.cell (p := ⟨w.heap.size, 1, none⟩) zq).trans (kq 1), (hV.cell (p := ⟨w.heap.size, 2, none⟩) zq).trans (kq 2)⟩)
    have HC := Lib.hid (show ∀ V, Ext X V → V.cell? ⟨w.heap.size + 1, 10, none⟩ = some (.int .u8 code) ∧ V.cell? ⟨w.heap.size + 1, 12, none⟩ = some (.slice aA ans.length ac) ∧ V.cell? ⟨w.heap.size + 1, 13, none⟩ = some (.slice uA auth.length uc) from fun V hV => ⟨heap_cells ((hV.block _ zm).trans hkm) 10, heap_cells ((hV.block _ zm).trans hkm) 12, heap_cells ((hV.block _ zm).trans hkm) 13⟩)
    have HV0 := Lib.hid (show ∀ V, Ext X V → (∀ j, V.cell? ⟨w.heap.size + 1 + 1, j, none⟩ = #[.int .u8 0, .slice none 0 0, .slice none 0 0][j]?) ∧ (∀ j, V.frozen? ⟨w.heap.size + 1 + 1, j, none⟩ = false) ∧ w.heap.size + 1 + 1 < V.heap.size from fun V hV => ⟨fun j => (hV.cell (p := ⟨w.heap.size + 1 + 1, j, none⟩) zv).trans (kv j), fun j => (hV.frozen (p := ⟨w.heap.size + 1 + 1, j, none⟩) zv).trans (kvf j), Nat.lt_of_lt_of_le zv hV.size⟩)
    have HXz := Lib.hid hXz
    clear hkm kv kvf zv zm hXz
    obtain ⟨c0, c1, c2⟩ := HK.out X (Ext.refl _)
    clear kq
    go_enter Tryz.func12, Tryz.ntmps12
    go_upto_region 1 with fail
    rw [← hX]
    clear hX
    go_wp2_with fail
    refine (HM.out X).mono ?_; rintro e w1 ⟨rfl, hX1⟩
    obtain ⟨b0, b1, b2⟩ := HV0.out _ (hX1)
    go_wp2_with fail
    refine bodyPost_ret (v := .tuple #[.agg #[.int .u8 0, .slice none 0 0, .slice none 0 0], .int .u32 0, .int .i64 1]) (by simp [results, Tryz.results12, go_sem, b0, b1, b2]) rfl ?_
    rw [HR.out]
    exact rof_bad w _ 1 (by have hzz := hwX.size; have hw2 := hwX.trans (hX1); (repeat (first | with_reducible exact Ext.refl _ | with_reducible assumption | with_reducible refine Ext.alloc ?_ _ | with_reducible refine Ext.drewN ?_ _ | with_reducible refine Ext.drew ?_ | (with_reducible refine Ext.setCell ?_ ?hp _; case hp => (simp <;> omega)))))
  by_cases hc : code = 0 ∨ code = 3
  rotate_left
  · have hR : verOf n ty cls code ans auth = VerR.bad 1 := if_neg (fun h => hc h.2)
    have f1 : (code != 0) = true := by simp; intro h; exact hc (.inl h)
    have f2 : (code != 3) = true := by simp; intro h; exact hc (.inr h)
    have HR := Lib.hid hR
    rw [hm] at HM
    clear hm hR hc
    obtain ⟨X, hX⟩ : ∃ X, X = (((w.alloc (.cells #[S n, .int .u16 ty, .int .u16 cls] 24)).alloc (.cells #[.int .u16 x.id, .bool x.qr, .int .u8 x.op, .bool x.aa, .bool x.tc, .bool x.rd, .bool x.ra, .bool x.z, .bool x.ad, .bool x.cd, .int .u8 code, .slice x.qA x.qn x.qc, .slice aA ans.length ac, .slice uA auth.length uc, .slice x.xA x.xn x.xc, .bool x.he, .int .u16 x.es, .int .u8 x.ee, .int .u8 x.ev, .int .u16 x.ef, .slice x.oA x.on x.oc] 33)).alloc (.cells #[.int .u8 0, .slice none 0 0, .slice none 0 0] 38)) := ⟨_, rfl⟩
    obtain ⟨kq, _, zq⟩ := ext_new_at (w.heap.size) rfl (((Ext.refl (w.alloc (.cells #[S n, .int .u16 ty, .int .u16 cls] 24))).alloc (.cells #[.int .u16 x.id, .bool x.qr, .int .u8 x.op, .bool x.aa, .bool x.tc, .bool x.rd, .bool x.ra, .bool x.z, .bool x.ad, .bool x.cd, .int .u8 code, .slice x.qA x.qn x.qc, .slice aA ans.length ac, .slice uA auth.length uc, .slice x.xA x.xn x.xc, .bool x.he, .int .u16 x.es, .int .u8 x.ee, .int .u8 x.ev, .int .u16 x.ef, .slice x.oA x.on x.oc] 33)).alloc (.cells #[.int .u8 0, .slice none 0 0, .slice none 0 0] 38))
    have zm : w.heap.size + 1 < (((w.alloc (.cells #[S n, .int .u16 ty, .int .u16 cls] 24)).alloc (.cells #[.int .u16 x.id, .bool x.qr, .int .u8 x.op, .bool x.aa, .bool x.tc, .bool x.rd, .bool x.ra, .bool x.z, .bool x.ad, .bool x.cd, .int .u8 code, .slice x.qA x.qn x.qc, .slice aA ans.length ac, .slice uA auth.length uc, .slice x.xA x.xn x.xc, .bool x.he, .int .u16 x.es, .int .u8 x.ee, .int .u8 x.ev, .int .u16 x.ef, .slice x.oA x.on x.oc] 33)).alloc (.cells #[.int .u8 0, .slice none 0 0, .slice none 0 0] 38)).heap.size := by simp
    have hkm : (((w.alloc (.cells #[S n, .int .u16 ty, .int .u16 cls] 24)).alloc (.cells #[.int .u16 x.id, .bool x.qr, .int .u8 x.op, .bool x.aa, .bool x.tc, .bool x.rd, .bool x.ra, .bool x.z, .bool x.ad, .bool x.cd, .int .u8 code, .slice x.qA x.qn x.qc, .slice aA ans.length ac, .slice uA auth.length uc, .slice x.xA x.xn x.xc, .bool x.he, .int .u16 x.es, .int .u8 x.ee, .int .u8 x.ev, .int .u16 x.ef, .slice x.oA x.on x.oc] 33)).alloc (.cells #[.int .u8 0, .slice none 0 0, .slice none 0 0] 38)).heap[w.heap.size + 1]? = some (.cells #[.int .u16 x.id, .bool x.qr, .int .u8 x.op, .bool x.aa, .bool x.tc, .bool x.rd, .bool x.ra, .bool x.z, .bool x.ad, .bool x.cd, .int .u8 code, .slice x.qA x.qn x.qc, .slice aA ans.length ac, .slice uA auth.length uc, .slice x.xA x.xn x.xc, .bool x.he, .int .u16 x.es, .int .u8 x.ee, .int .u8 x.ev, .int .u16 x.ef, .slice x.oA x.on x.oc] 33) := (((Ext.refl ((w.alloc (.cells #[S n, .int .u16 ty, .int .u16 cls] 24)).alloc (.cells #[.int .u16 x.id, .bool x.qr, .int .u8 x.op, .bool x.aa, .bool x.tc, .bool x.rd, .bool x.ra, .bool x.z, .bool x.ad, .bool x.cd, .int .u8 code, .slice x.qA x.qn x.qc, .slice aA ans.length ac, .slice uA auth.length uc, .slice x.xA x.xn x.xc, .bool x.he, .int .u16 x.es, .int .u8 x.ee, .int .u8 x.ev, .int .u16 x.ef, .slice x.oA x.on x.oc] 33))).alloc (.cells #[.int .u8 0, .slice none 0 0, .slice none 0 0] 38)).block (w.heap.size + 1) (by simp)).trans (heap_new_at (w.alloc (.cells #[S n, .int .u16 ty, .int .u16 cls] 24)) _ (w.heap.size + 1) (by simp))
    obtain ⟨kv, kvf, zv⟩ := ext_new_at (w.heap.size + 1 + 1) (by simp) (Ext.refl (((w.alloc (.cells #[S n, .int .u16 ty, .int .u16 cls] 24)).alloc (.cells #[.int .u16 x.id, .bool x.qr, .int .u8 x.op, .bool x.aa, .bool x.tc, .bool x.rd, .bool x.ra, .bool x.z, .bool x.ad, .bool x.cd, .int .u8 code, .slice x.qA x.qn x.qc, .slice aA ans.length ac, .slice uA auth.length uc, .slice x.xA x.xn x.xc, .bool x.he, .int .u16 x.es, .int .u8 x.ee, .int .u8 x.ev, .int .u16 x.ef, .slice x.oA x.on x.oc] 33)).alloc (.cells #[.int .u8 0, .slice none 0 0, .slice none 0 0] 38)))
    rw [← hX] at kq zq zm hkm kv kvf zv
    have hwX : Ext w X := by rw [hX]; exact (((Ext.refl _).alloc _).alloc _).alloc _
    have hXz : w.heap.size + 1 + 1 + 1 = X.heap.size := by rw [hX]; simp
    have HK := Lib.hid (show ∀ V, Ext X V → V.cell? ⟨w.heap.size, 0, none⟩ = some (S n) ∧ V.cell? ⟨w.heap.size, 1, none⟩ = some (.int .u16 ty) ∧ V.cell? ⟨w.heap.size, 2, none⟩ = some (.int .u16 cls) from fun V hV => ⟨(hV.cell (p := ⟨w.heap.size, 0, none⟩) zq).trans (kq 0), (hV.cell (p := ⟨w.heap.size, 1, none⟩) zq).trans (kq 1), (hV.cell (p := ⟨w.heap.size, 2, none⟩) zq).trans (kq 2)⟩)
    have HC := Lib.hid (show ∀ V, Ext X V → V.cell? ⟨w.heap.size + 1, 10, none⟩ = some (.int .u8 code) ∧ V.cell? ⟨w.heap.size + 1, 12, none⟩ = some (.slice aA ans.length ac) ∧ V.cell? ⟨w.heap.size + 1, 13, none⟩ = some (.slice uA auth.length uc) from fun V hV => ⟨heap_cells ((hV.block _ zm).trans hkm) 10, heap_cells ((hV.block _ zm).trans hkm) 12, heap_cells ((hV.block _ zm).trans hkm) 13⟩)
    have HV0 := Lib.hid (show ∀ V, Ext X V → (∀ j, V.cell? ⟨w.heap.size + 1 + 1, j, none⟩ = #[.int .u8 0, .slice none 0 0, .slice none 0 0][j]?) ∧ (∀ j, V.frozen? ⟨w.heap.size + 1 + 1, j, none⟩ = false) ∧ w.heap.size + 1 + 1 < V.heap.size from fun V hV => ⟨fun j => (hV.cell (p := ⟨w.heap.size + 1 + 1, j, none⟩) zv).trans (kv j), fun j => (hV.frozen (p := ⟨w.heap.size + 1 + 1, j, none⟩) zv).trans (kvf j), Nat.lt_of_lt_of_le zv hV.size⟩)
    have HXz := Lib.hid hXz
    clear hkm kv kvf zv zm hXz
    obtain ⟨c0, c1, c2⟩ := HK.out X (Ext.refl _)
    clear kq
    go_enter Tryz.func12, Tryz.ntmps12
    go_upto_region 1 with fail
    rw [← hX]
    clear hX
    go_wp2_with fail
    refine (HM.out X).mono ?_; rintro e w1 ⟨rfl, hX1⟩
    have q10 := (HC.out _ hX1).1
    obtain ⟨b0, b1, b2⟩ := HV0.out _ (hX1)
    go_wp2_with fail
    refine bodyPost_ret (v := .tuple #[.agg #[.int .u8 0, .slice none 0 0, .slice none 0 0], .int .u32 0, .int .i64 1]) (by simp [results, Tryz.results12, go_sem, b0, b1, b2]) rfl ?_
    rw [HR.out]
    exact rof_bad w _ 1 (by have hzz := hwX.size; have hw2 := hwX.trans (hX1); (repeat (first | with_reducible exact Ext.refl _ | with_reducible assumption | with_reducible refine Ext.alloc ?_ _ | with_reducible refine Ext.drewN ?_ _ | with_reducible refine Ext.drew ?_ | (with_reducible refine Ext.setCell ?_ ?hp _; case hp => (simp <;> omega)))))
  have hR : verOf n ty cls code ans auth = verFol code cls auth (followOf n ty cls (groupR ans)) := if_pos ⟨hm, hc⟩
  rw [hR]
  rw [hm] at HM
  have HF := Lib.hid (fun W lo' v (hS : Sets W lo' v (groupR ans)) => ref_follow lo' n ty cls v _ W hS hb1 hn)
  have hfi := follow_in (groupR ans) n ty cls
  have hfh := follow_here n ty cls (groupR ans)
  generalize groupR ans = gs1 at *
  generalize followOf n ty cls gs1 = R at *
  have Hc := Lib.hid hc
  clear hR hm hc
  obtain ⟨X, hX⟩ : ∃ X, X = (((w.alloc (.cells #[S n, .int .u16 ty, .int .u16 cls] 24)).alloc (.cells #[.int .u16 x.id, .bool x.qr, .int .u8 x.op, .bool x.aa, .bool x.tc, .bool x.rd, .bool x.ra, .bool x.z, .bool x.ad, .bool x.cd, .int .u8 code, .slice x.qA x.qn x.qc, .slice aA ans.length ac, .slice uA auth.length uc, .slice x.xA x.xn x.xc, .bool x.he, .int .u16 x.es, .int .u8 x.ee, .int .u8 x.ev, .int .u16 x.ef, .slice x.oA x.on x.oc] 33)).alloc (.cells #[.int .u8 0, .slice none 0 0, .slice none 0 0] 38)) := ⟨_, rfl⟩
  obtain ⟨kq, _, zq⟩ := ext_new_at (w.heap.size) rfl (((Ext.refl (w.alloc (.cells #[S n, .int .u16 ty, .int .u16 cls] 24))).alloc (.cells #[.int .u16 x.id, .bool x.qr, .int .u8 x.op, .bool x.aa, .bool x.tc, .bool x.rd, .bool x.ra, .bool x.z, .bool x.ad, .bool x.cd, .int .u8 code, .slice x.qA x.qn x.qc, .slice aA ans.length ac, .slice uA auth.length uc, .slice x.xA x.xn x.xc, .bool x.he, .int .u16 x.es, .int .u8 x.ee, .int .u8 x.ev, .int .u16 x.ef, .slice x.oA x.on x.oc] 33)).alloc (.cells #[.int .u8 0, .slice none 0 0, .slice none 0 0] 38))
  have zm : w.heap.size + 1 < (((w.alloc (.cells #[S n, .int .u16 ty, .int .u16 cls] 24)).alloc (.cells #[.int .u16 x.id, .bool x.qr, .int .u8 x.op, .bool x.aa, .bool x.tc, .bool x.rd, .bool x.ra, .bool x.z, .bool x.ad, .bool x.cd, .int .u8 code, .slice x.qA x.qn x.qc, .slice aA ans.length ac, .slice uA auth.length uc, .slice x.xA x.xn x.xc, .bool x.he, .int .u16 x.es, .int .u8 x.ee, .int .u8 x.ev, .int .u16 x.ef, .slice x.oA x.on x.oc] 33)).alloc (.cells #[.int .u8 0, .slice none 0 0, .slice none 0 0] 38)).heap.size := by simp
  have hkm : (((w.alloc (.cells #[S n, .int .u16 ty, .int .u16 cls] 24)).alloc (.cells #[.int .u16 x.id, .bool x.qr, .int .u8 x.op, .bool x.aa, .bool x.tc, .bool x.rd, .bool x.ra, .bool x.z, .bool x.ad, .bool x.cd, .int .u8 code, .slice x.qA x.qn x.qc, .slice aA ans.length ac, .slice uA auth.length uc, .slice x.xA x.xn x.xc, .bool x.he, .int .u16 x.es, .int .u8 x.ee, .int .u8 x.ev, .int .u16 x.ef, .slice x.oA x.on x.oc] 33)).alloc (.cells #[.int .u8 0, .slice none 0 0, .slice none 0 0] 38)).heap[w.heap.size + 1]? = some (.cells #[.int .u16 x.id, .bool x.qr, .int .u8 x.op, .bool x.aa, .bool x.tc, .bool x.rd, .bool x.ra, .bool x.z, .bool x.ad, .bool x.cd, .int .u8 code, .slice x.qA x.qn x.qc, .slice aA ans.length ac, .slice uA auth.length uc, .slice x.xA x.xn x.xc, .bool x.he, .int .u16 x.es, .int .u8 x.ee, .int .u8 x.ev, .int .u16 x.ef, .slice x.oA x.on x.oc] 33) := (((Ext.refl ((w.alloc (.cells #[S n, .int .u16 ty, .int .u16 cls] 24)).alloc (.cells #[.int .u16 x.id, .bool x.qr, .int .u8 x.op, .bool x.aa, .bool x.tc, .bool x.rd, .bool x.ra, .bool x.z, .bool x.ad, .bool x.cd, .int .u8 code, .slice x.qA x.qn x.qc, .slice aA ans.length ac, .slice uA auth.length uc, .slice x.xA x.xn x.xc, .bool x.he, .int .u16 x.es, .int .u8 x.ee, .int .u8 x.ev, .int .u16 x.ef, .slice x.oA x.on x.oc] 33))).alloc (.cells #[.int .u8 0, .slice none 0 0, .slice none 0 0] 38)).block (w.heap.size + 1) (by simp)).trans (heap_new_at (w.alloc (.cells #[S n, .int .u16 ty, .int .u16 cls] 24)) _ (w.heap.size + 1) (by simp))
  obtain ⟨kv, kvf, zv⟩ := ext_new_at (w.heap.size + 1 + 1) (by simp) (Ext.refl (((w.alloc (.cells #[S n, .int .u16 ty, .int .u16 cls] 24)).alloc (.cells #[.int .u16 x.id, .bool x.qr, .int .u8 x.op, .bool x.aa, .bool x.tc, .bool x.rd, .bool x.ra, .bool x.z, .bool x.ad, .bool x.cd, .int .u8 code, .slice x.qA x.qn x.qc, .slice aA ans.length ac, .slice uA auth.length uc, .slice x.xA x.xn x.xc, .bool x.he, .int .u16 x.es, .int .u8 x.ee, .int .u8 x.ev, .int .u16 x.ef, .slice x.oA x.on x.oc] 33)).alloc (.cells #[.int .u8 0, .slice none 0 0, .slice none 0 0] 38)))
  rw [← hX] at kq zq zm hkm kv kvf zv
  have hwX : Ext w X := by rw [hX]; exact (((Ext.refl _).alloc _).alloc _).alloc _
  have hXz : w.heap.size + 1 + 1 + 1 = X.heap.size := by rw [hX]; simp
  have HK := Lib.hid (show ∀ V, Ext X V → V.cell? ⟨w.heap.size, 0, none⟩ = some (S n) ∧ V.cell? ⟨w.heap.size, 1, none⟩ = some (.int .u16 ty) ∧ V.cell? ⟨w.heap.size, 2, none⟩ = some (.int .u16 cls) from fun V hV => ⟨(hV.cell (p := ⟨w.heap.size, 0, none⟩) zq).trans (kq 0), (hV.cell (p := ⟨w.heap.size, 1, none⟩) zq).trans (kq 1), (hV.cell (p := ⟨w.heap.size, 2, none⟩) zq).trans (kq 2)⟩)
  have HC := Lib.hid (show ∀ V, Ext X V → V.cell? ⟨w.heap.size + 1, 10, none⟩ = some (.int .u8 code) ∧ V.cell? ⟨w.heap.size + 1, 12, none⟩ = some (.slice aA ans.length ac) ∧ V.cell? ⟨w.heap.size + 1, 13, none⟩ = some (.slice uA auth.length uc) from fun V hV => ⟨heap_cells ((hV.block _ zm).trans hkm) 10, heap_cells ((hV.block _ zm).trans hkm) 12, heap_cells ((hV.block _ zm).trans hkm) 13⟩)
  have HV0 := Lib.hid (show ∀ V, Ext X V → (∀ j, V.cell? ⟨w.heap.size + 1 + 1, j, none⟩ = #[.int .u8 0, .slice none 0 0, .slice none 0 0][j]?) ∧ (∀ j, V.frozen? ⟨w.heap.size + 1 + 1, j, none⟩ = false) ∧ w.heap.size + 1 + 1 < V.heap.size from fun V hV => ⟨fun j => (hV.cell (p := ⟨w.heap.size + 1 + 1, j, none⟩) zv).trans (kv j), fun j => (hV.frozen (p := ⟨w.heap.size + 1 + 1, j, none⟩) zv).trans (kvf j), Nat.lt_of_lt_of_le zv hV.size⟩)
  have HXz := Lib.hid hXz
  clear hkm kv kvf zv zm hXz
  obtain ⟨c0, c1, c2⟩ := HK.out X (Ext.refl _)
  clear kq
  go_enter Tryz.func12, Tryz.ntmps12
  go_upto_region 1 with fail
  rw [← hX]
  clear hX
  go_cut [32] (fun s32 wx => s32 = .bool false ∧ Ext X wx)
  case first =>
    rcases Hc.out with rfl | rfl
    · go_wp2_with fail
      refine (HM.out X).mono ?_; rintro e w1 ⟨rfl, hX1⟩
      have q10 := (HC.out _ hX1).1
      go_wp2_with fail
      go_meet
      exact ⟨rfl, hX1⟩
    · go_wp2_with fail
      refine (HM.out X).mono ?_; rintro e w1 ⟨rfl, hX1⟩
      have q10 := (HC.out _ hX1).1
      go_wp2_with fail
      go_meet
      exact ⟨rfl, hX1⟩
  case rest =>
  obtain ⟨rfl, hX1⟩ := hcut
  obtain ⟨wa, rfl⟩ : ∃ wa : World, wa = wc := ⟨_, rfl⟩
  clear c0 c1 c2
  have HS3 := Lib.hid (show ∀ V, Ext wa V → V.cell? ⟨w.heap.size, 0, none⟩ = some (S n) ∧ V.cell? ⟨w.heap.size, 1, none⟩ = some (.int .u16 ty) ∧ V.cell? ⟨w.heap.size, 2, none⟩ = some (.int .u16 cls) ∧ V.cell? ⟨w.heap.size + 1, 12, none⟩ = some (.slice aA ans.length ac) from fun V hV => ⟨(HK.out V (hX1.trans hV)).1, (HK.out V (hX1.trans hV)).2.1, (HK.out V (hX1.trans hV)).2.2, (HC.out V (hX1.trans hV)).2.1⟩)
  go_wp2_with fail
  refine wp_region_noPanic ?_
  refine wp_region_tree (S := (fun V => V.cell? ⟨w.heap.size, 0, none⟩ = some (S n) ∧ V.cell? ⟨w.heap.size, 1, none⟩ = some (.int .u16 ty) ∧ V.cell? ⟨w.heap.size, 2, none⟩ = some (.int .u16 cls) ∧ V.cell? ⟨w.heap.size + 1, 12, none⟩ = some (.slice aA ans.length ac))) (.take 0 (.take 1 (.take 2 (.run 3 (.run 4 (.take 5 (.take 6 (.take 7 (.take 8 (.take 9 (.take 10 (.take 11 (.take 12 (.take 13 (.done))))))))))))))) (by kernel_rfl) (by kernel_rfl) (fun _ _ _ _ _ h => h) (HS3.out _ ((Ext.refl wa).drew)) ?_
  repeat ((with_reducible refine treeIs ?_); first
    | (refine treeTake (v := ?_) (by rfl) (by rfl) ?_ ?_; rotate_left; (focus (intro V hV; (try dsimp only at hV); (go_simp <;> with_reducible rfl))); (try simp only [Act.put, List.setIfInBounds_toArray, List.set_cons_zero, List.set_cons_succ]))
    | (refine treeSkip (by rfl) (by rfl) ?_; (try simp only [Act.put, List.setIfInBounds_toArray, List.set_cons_zero, List.set_cons_succ])))
  refine treeRun (by rfl) (fun K hK => ?_)
  go_simp
  refine (HG1.out _ (hwX.trans (hX1.trans ((Ext.refl wa).drew)))).mono ?_; rintro e w3 ⟨g3, rfl, ho3, hE3⟩
  have ha3 : Ext wa w3 := Ext.trans ((Ext.refl wa).drew) hE3
  refine hK.out _ _ ?_ ?_
  · exact HS3.out _ ha3
  clear hK K
  (try simp only [Act.put, List.setIfInBounds_toArray, List.set_cons_zero, List.set_cons_succ])
  refine treeRun (by rfl) (fun K hK => ?_)
  go_simp
  refine (HF.out _ _ _ ho3.sets).mono ?_; rintro e w4 ⟨vp, vf, rfl, hsp, hsf, hE4⟩
  have ha4 : Ext wa w4 := ha3.trans hE4
  refine hK.out _ _ ?_ ?_
  · exact HS3.out _ ha4
  clear hK K
  (try simp only [Act.put, List.setIfInBounds_toArray, List.set_cons_zero, List.set_cons_succ])
  repeat ((with_reducible refine treeIs ?_); first
    | (refine treeTake (v := ?_) (by rfl) (by rfl) ?_ ?_; rotate_left; (focus (intro V hV; (try dsimp only at hV); (go_simp <;> with_reducible rfl))); (try simp only [Act.put, List.setIfInBounds_toArray, List.set_cons_zero, List.set_cons_succ]))
    | (refine treeSkip (by rfl) (by rfl) ?_; (try simp only [Act.put, List.setIfInBounds_toArray, List.set_cons_zero, List.set_cons_succ])))
  refine treeDone ?_
  refine NoPanic.normal ?_
  obtain ⟨path, here, fin, er⟩ := R
  dsimp only at *
  obtain ⟨ps, pA, pc, rfl, hps, hpl0, hpc1, hpc2, hrd1, hst1⟩ := hsp.shapeR
  obtain ⟨fs, fA, fc, rfl, hfs, hfl0, hfc1, hfc2, hrd2, hst2⟩ := hsf.shapeR
  have hX4 := hX1.trans ha4
  have hw4 := hwX.trans hX4
  have hp8 := hfi.len
  have hf1 := hfi.one
  dsimp only at hp8 hf1
  clear hsp hsf
  by_cases he : er = 0
  rotate_left
  · have HR := Lib.hid (show verFol code cls auth ⟨path, here, fin, er⟩ = VerR.bad er from if_neg he)
    have f1 : ((er : Int) == 0) = false := by rw [beq_eq_false_iff_ne]; omega
    have f2 : ((er : Int) != 0) = true := by rw [bne, f1]; rfl
    clear he hpl0 hfl0
    obtain ⟨b0, b1, b2⟩ := HV0.out _ (hX4)
    go_wp2_with fail
    refine bodyPost_ret (v := .tuple #[.agg #[.int .u8 0, .slice none 0 0, .slice none 0 0], .int .u32 0, .int .i64 er]) (by simp [results, Tryz.results12, go_sem, b0, b1, b2]) rfl ?_
    rw [HR.out]
    exact rof_bad w _ er (by have hzz := hwX.size; have hw2 := hwX.trans (hX4); (repeat (first | with_reducible exact Ext.refl _ | with_reducible assumption | with_reducible refine Ext.alloc ?_ _ | with_reducible refine Ext.drewN ?_ _ | with_reducible refine Ext.drew ?_ | (with_reducible refine Ext.setCell ?_ ?hp _; case hp => (simp <;> omega)))))
  subst he
  by_cases h6 : code = 3 ∧ 0 < fin.length
  · obtain ⟨rfl, hfp⟩ := h6
    have hfe : fin ≠ [] := List.length_pos_iff.1 hfp
    have HR := Lib.hid (show verFol 3 cls auth ⟨path, here, fin, 0⟩ = VerR.bad 3 by show (if (0 : Nat) = 0 then (if fin = [] then _ else _) else _) = _; rw [if_pos rfl, if_neg hfe]; rfl)
    have hfp2 : (0 : Int) < (fin.length : Int) := by omega
    have q10 := (HC.out _ hX4).1
    clear hfe hfp hpl0 hfl0
    obtain ⟨b0, b1, b2⟩ := HV0.out _ (hX4)
    go_wp2_with fail
    refine bodyPost_ret (v := .tuple #[.agg #[.int .u8 0, .slice none 0 0, .slice none 0 0], .int .u32 0, .int .i64 3]) (by simp [results, Tryz.results12, go_sem, b0, b1, b2]) rfl ?_
    rw [HR.out]
    exact rof_bad w _ 3 (by have hzz := hwX.size; have hw2 := hwX.trans (hX4); (repeat (first | with_reducible exact Ext.refl _ | with_reducible assumption | with_reducible refine Ext.alloc ?_ _ | with_reducible refine Ext.drewN ?_ _ | with_reducible refine Ext.drew ?_ | (with_reducible refine Ext.setCell ?_ ?hp _; case hp => (simp <;> omega)))))
  have hall : ∃ all, all = path ++ fin := ⟨_, rfl⟩
  obtain ⟨all, hall⟩ := hall
  have hatA : ∀ (k : Nat) (h : k < ps.length), all[k]? = some ps[k].1 := fun k h => by rw [hall, List.getElem?_append_left (by omega), ← hps, List.getElem?_map, List.getElem?_eq_getElem h]; rfl
  have hatB : ∀ (m : Nat) (h : m < fs.length), all[path.length + m]? = some fs[m].1 := fun m h => by rw [hall, List.getElem?_append_right (by omega), Nat.add_sub_cancel_left, ← hfs, List.getElem?_map, List.getElem?_eq_getElem h]; rfl
  have hal : all.length = path.length + fin.length := by rw [hall, List.length_append]
  have Hal := Lib.hid hal
  have Hall := Lib.hid hall
  have Hpl := Lib.hid hpl0
  have Hfl := Lib.hid hfl0
  unfold maxLen at hpc2 hfc2
  obtain ⟨j0, hj0, hy0, hy1, hy2⟩ := info_parts info_set
  clear hall hal hps hfs hpl0 hfl0
  have q10 := (HC.out _ hX4).1
  go_upto_region 6 with fail
  go_cut [56] (fun s56 wx => s56 = .bool false ∧ w4 = wx)
  case first =>
    by_cases h3 : code = 3
    · have h4 : decide ((0 : Int) < (fin.length : Int)) = false := by rw [decide_eq_false_iff_not]; intro h; exact h6 ⟨h3, by omega⟩
      have h5 : (code == 3) = true := by rw [h3]; rfl
      have h4n : decide (0 < fin.length) = false := by rw [decide_eq_false_iff_not]; intro h; exact h6 ⟨h3, h⟩
      clear h6 h3
      go_wp2_with fail
      go_meet
      exact ⟨by first | rfl | rw [h4n], rfl⟩
    · have h5 : (code == 3) = false := by rw [beq_eq_false_iff_ne]; exact h3
      clear h6 h3
      go_wp2_with fail
      go_meet
      exact ⟨rfl, rfl⟩
  case rest =>
  obtain ⟨rfl, rfl⟩ := hcut
  go_wp2_with fail
  go_loopw [12, 13] (fun t i wr => ∃ (k : Nat), k ≤ all.length ∧ i = .int .i64 k ∧ t = .int .u32 (leastT (all.take k) 2147483647) ∧ ∃ (qs : List (SetD × Value)) (B : Option Addr) (dd : Nat), OfInv w4 code all k qs B dd wr) (fun _ i _ => all.length - (intOf i).toNat)
  case atStart =>
    obtain ⟨y0, y1, y2⟩ := ext_new (Ext.refl (w4.alloc (.cells #[.int .u8 code, .slice none 0 0, .slice none 0 0] 38)))
    exact ⟨0, by omega, rfl, rfl, [], none, 0, ⟨rfl, rfl, y0, y1, y2, Own.nil _ _ _ _, by simp, (Ext.refl _).alloc _⟩⟩
  case round =>
    obtain ⟨k, hk, rfl, rfl, qs, B, dd, hI⟩ := hrel
    obtain ⟨wo, rfl⟩ : ∃ wo : World, wo = wr := ⟨_, rfl⟩
    have hE := hI.ext
    clear q10
    by_cases hkl0 : k < all.length
    · have hkl1 : k < path.length + fin.length := by have := Hal.out; omega
      by_cases hkp : k < path.length
      · have hlt : k < ps.length := by have := Hpl.out; omega
        have hp : ps[k]? = some ps[k] := List.getElem?_eq_getElem hlt
        have hpl : all[k]? = some ps[k].1 := hatA k hlt
        have hkl : k < all.length := (List.getElem?_eq_some_iff.1 hpl).1
        have hpe : all[k] = ps[k].1 := (List.getElem?_eq_some_iff.1 hpl).2
        have hts := take_snoc all (k) hkl
        rw [hpe] at hts
        have Hts := Lib.hid hts
        have hstr := hst1 ps[k] (List.getElem_mem hlt)
        generalize ps[k] = p at *
        obtain ⟨b, off, rfl, _, hbz, hc⟩ := hrd1.2 (by omega)
        obtain ⟨c0, c1, c2, c3, c4⟩ := sets_cells hc k p hp
        rw [← hE.cell (p := ⟨b, _, none⟩) hbz] at c0 c1 c2 c3 c4
        have hbz2 : b < wo.heap.size := Nat.lt_of_lt_of_le hbz hE.size
        clear hc hp hpl hpe hts hst1 hst2 hrd1 hrd2 hatA hatB hkl
        obtain ⟨⟨nm, ty1, cl1, tt, da⟩, d⟩ := p
        dsimp only at *
        obtain ⟨dA, dc, rfl⟩ := hstr.shape
        have Hsn := Lib.hid (leastT_snoc (all.take (k)) ⟨nm, ty1, cl1, tt, da⟩ 2147483647)
        generalize leastT (all.take (k)) 2147483647 = tx at *
        have hki : ((k : Nat) : Int) < (path.length : Int) + (fin.length : Int) := by omega
        have hkj : (k : Int) < (path.length : Int) := by omega


        have hk0 : (0 : Int) ≤ (k : Int) := by omega
        have bx := hI.box
        have bxf := hI.fro
        have bz := hI.zb
        have hql : qs.length ≤ 65536 := by have := hI.len; omega
        have h4o : w4.heap.size ≤ wo.heap.size := hE.size
        have hownA := (hI.own.ext ((Ext.refl wo).alloc (.cells #[S nm, .int .u16 ty1, .int .u16 cl1, .int .u32 0, .slice dA da.length dc] 55))).ext ((Ext.refl _).alloc (.cells #[S nm, .int .u16 ty1, .int .u16 cl1, .int .u32 0, .slice dA da.length dc] 55))
        have hWo : Ext wo ((wo.alloc (.cells #[S nm, .int .u16 ty1, .int .u16 cl1, .int .u32 0, .slice dA da.length dc] 55)).alloc (.cells #[S nm, .int .u16 ty1, .int .u16 cl1, .int .u32 0, .slice dA da.length dc] 55)) := ((Ext.refl _).alloc _).alloc _
        go_wp2_with (
          at_builtin
          refine wpList_app _ rfl (.tmp 93) (.tmp 95) _ rfl (w4.heap.size + 1) 55 j0 _ 5 48 Tryz.underlying36 hj0 hy0 hy1 hy2 rfl (by omega) B qs.length dd (qs.flatMap setCells) rfl hownA 0 _ 1 1 (setCells (⟨nm, ty1, cl1, 0, da⟩, .slice dA da.length dc)) rfl (rd_new _ _ (by simp) _ _ 1 5 rfl) (set_oneS ⟨nm, ty1, cl1, 0, da⟩ dA da.length dc) (by omega) (by omega) (by simp; omega) ?_
          intro A5 c5 w5 hown5 hg5 hb5 hat5
          have hb5x : ∀ j, w5.cell? ⟨w4.heap.size, j, none⟩ = #[.int .u8 code, .slice B qs.length dd, .slice none 0 0][j]? := fun j => ((hb5.cell (p := ⟨w4.heap.size, j, none⟩) (Nat.lt_succ_self _)).trans (hWo.cell (p := ⟨w4.heap.size, j, none⟩) bz)).trans (bx j)
          have hb5f : ∀ j, w5.frozen? ⟨w4.heap.size, j, none⟩ = false := fun j => ((hb5.frozen (p := ⟨w4.heap.size, j, none⟩) (Nat.lt_succ_self _)).trans (hWo.frozen (p := ⟨w4.heap.size, j, none⟩) bz)).trans (bxf j)
          have hb5z : w4.heap.size < w5.heap.size := Nat.lt_of_lt_of_le (Nat.lt_of_lt_of_le bz hWo.size) hb5.size
          clear bx bxf hg5 hat5)
        have hE5 : Ext w4 w5 := (hE.trans hWo).then hb5 (Nat.le_succ _)
        go_roundw
        case rel =>
          refine ⟨k + 1, by omega, by go_num, by rw [Hts.out, Hsn.out], qs ++ [(⟨nm, ty1, cl1, 0, da⟩, .slice dA da.length dc)], A5, c5, ⟨by simp [hI.len], by rw [Hts.out, List.map_append, List.map_append, hI.fst]; rfl, ?_, fun j => by simpa using hb5f j, by simpa using hb5z, ?_, fun p hp => ?_, hE5.setCell (Nat.le_refl _) _⟩⟩
          · rw [List.length_append]
            exact boxSet hb5x 1 (.slice A5 (qs.length + 1) c5) (by simp)
          · rw [List.length_append, List.flatMap_append]
            exact Own.set_other (by simpa using hown5) (show w4.heap.size < w4.heap.size + 1 from Nat.lt_succ_self _) _
          · rcases List.mem_append.1 hp with h | h
            · exact hI.datas p h
            · rw [List.mem_singleton] at h; subst h; exact hstr
        case measure => simp [intOf]; omega
      · obtain ⟨m, rfl⟩ : ∃ m, k = path.length + m := ⟨k - path.length, by omega⟩
        have hlt : m < fs.length := by have := Hfl.out; omega
        have hp : fs[m]? = some fs[m] := List.getElem?_eq_getElem hlt
        have hpl : all[path.length + m]? = some fs[m].1 := hatB m hlt
        have hkl : path.length + m < all.length := (List.getElem?_eq_some_iff.1 hpl).1
        have hpe : all[path.length + m] = fs[m].1 := (List.getElem?_eq_some_iff.1 hpl).2
        have hts := take_snoc all (path.length + m) hkl
        rw [hpe] at hts
        have Hts := Lib.hid hts
        have hstr := hst2 fs[m] (List.getElem_mem hlt)
        generalize fs[m] = p at *
        obtain ⟨b, off, rfl, _, hbz, hc⟩ := hrd2.2 (by omega)
        obtain ⟨c0, c1, c2, c3, c4⟩ := sets_cells hc m p hp
        rw [← hE.cell (p := ⟨b, _, none⟩) hbz] at c0 c1 c2 c3 c4
        have hbz2 : b < wo.heap.size := Nat.lt_of_lt_of_le hbz hE.size
        clear hc hp hpl hpe hts hst1 hst2 hrd1 hrd2 hatA hatB hkl
        obtain ⟨⟨nm, ty1, cl1, tt, da⟩, d⟩ := p
        dsimp only at *
        obtain ⟨dA, dc, rfl⟩ := hstr.shape
        have Hsn := Lib.hid (leastT_snoc (all.take (path.length + m)) ⟨nm, ty1, cl1, tt, da⟩ 2147483647)
        generalize leastT (all.take (path.length + m)) 2147483647 = tx at *
        have hki : ((path.length + m : Nat) : Int) < (path.length : Int) + (fin.length : Int) := by omega
        have hkj : ¬ ((path.length + m : Nat) : Int) < (path.length : Int) := by omega
        have hkm : ((path.length + m : Nat) : Int) - (path.length : Int) = (m : Int) := by omega
        have hmi : (m : Int) < (fin.length : Int) := by omega
        have hk0 : (0 : Int) ≤ (m : Int) := by omega
        have bx := hI.box
        have bxf := hI.fro
        have bz := hI.zb
        have hql : qs.length ≤ 65536 := by have := hI.len; omega
        have h4o : w4.heap.size ≤ wo.heap.size := hE.size
        have hownA := (hI.own.ext ((Ext.refl wo).alloc (.cells #[S nm, .int .u16 ty1, .int .u16 cl1, .int .u32 0, .slice dA da.length dc] 55))).ext ((Ext.refl _).alloc (.cells #[S nm, .int .u16 ty1, .int .u16 cl1, .int .u32 0, .slice dA da.length dc] 55))
        have hWo : Ext wo ((wo.alloc (.cells #[S nm, .int .u16 ty1, .int .u16 cl1, .int .u32 0, .slice dA da.length dc] 55)).alloc (.cells #[S nm, .int .u16 ty1, .int .u16 cl1, .int .u32 0, .slice dA da.length dc] 55)) := ((Ext.refl _).alloc _).alloc _
        go_wp2_with (
          at_builtin
          refine wpList_app _ rfl (.tmp 93) (.tmp 95) _ rfl (w4.heap.size + 1) 55 j0 _ 5 48 Tryz.underlying36 hj0 hy0 hy1 hy2 rfl (by omega) B qs.length dd (qs.flatMap setCells) rfl hownA 0 _ 1 1 (setCells (⟨nm, ty1, cl1, 0, da⟩, .slice dA da.length dc)) rfl (rd_new _ _ (by simp) _ _ 1 5 rfl) (set_oneS ⟨nm, ty1, cl1, 0, da⟩ dA da.length dc) (by omega) (by omega) (by simp; omega) ?_
          intro A5 c5 w5 hown5 hg5 hb5 hat5
          have hb5x : ∀ j, w5.cell? ⟨w4.heap.size, j, none⟩ = #[.int .u8 code, .slice B qs.length dd, .slice none 0 0][j]? := fun j => ((hb5.cell (p := ⟨w4.heap.size, j, none⟩) (Nat.lt_succ_self _)).trans (hWo.cell (p := ⟨w4.heap.size, j, none⟩) bz)).trans (bx j)
          have hb5f : ∀ j, w5.frozen? ⟨w4.heap.size, j, none⟩ = false := fun j => ((hb5.frozen (p := ⟨w4.heap.size, j, none⟩) (Nat.lt_succ_self _)).trans (hWo.frozen (p := ⟨w4.heap.size, j, none⟩) bz)).trans (bxf j)
          have hb5z : w4.heap.size < w5.heap.size := Nat.lt_of_lt_of_le (Nat.lt_of_lt_of_le bz hWo.size) hb5.size
          clear bx bxf hg5 hat5)
        have hE5 : Ext w4 w5 := (hE.trans hWo).then hb5 (Nat.le_succ _)
        go_roundw
        case rel =>
          refine ⟨path.length + m + 1, by omega, by go_num, by rw [Hts.out, Hsn.out], qs ++ [(⟨nm, ty1, cl1, 0, da⟩, .slice dA da.length dc)], A5, c5, ⟨by simp [hI.len], by rw [Hts.out, List.map_append, List.map_append, hI.fst]; rfl, ?_, fun j => by simpa using hb5f j, by simpa using hb5z, ?_, fun p hp => ?_, hE5.setCell (Nat.le_refl _) _⟩⟩
          · rw [List.length_append]
            exact boxSet hb5x 1 (.slice A5 (qs.length + 1) c5) (by simp)
          · rw [List.length_append, List.flatMap_append]
            exact Own.set_other (by simpa using hown5) (show w4.heap.size < w4.heap.size + 1 from Nat.lt_succ_self _) _
          · rcases List.mem_append.1 hp with h | h
            · exact hI.datas p h
            · rw [List.mem_singleton] at h; subst h; exact hstr
        case measure => simp [intOf]; omega
    · have hki : ¬ (k : Int) < (path.length : Int) + (fin.length : Int) := by have := Hal.out; omega
      have e1 : all.take k = all := List.take_of_length_le (by omega)
      have HQ := Lib.hid hI.fst
      rw [e1] at HQ ⊢
      clear e1
      obtain ⟨wf, rfl⟩ : ∃ wf : World, wf = wo := ⟨_, rfl⟩
      have hXf := hX4.trans hE
      have hwf := hwX.trans hXf
      have h4f : w4.heap.size ≤ wf.heap.size := hE.size
      have bx := hI.box
      have bxf := hI.fro
      have bz := hI.zb
      have hres : w.heap.size + 1 + 1 < w4.heap.size := by have h1 := HXz.out; have h2 := hX4.size; omega
      have hrx : ∀ j y, w4.cell? ⟨w.heap.size + 1 + 1, j, none⟩ ≠ some (S y) := fun j y h => by
        rw [(HV0.out _ hX4).1 j] at h
        rcases j with _ | _ | _ | j <;> simp at h
      have hql : qs.length ≤ 65536 := by have h8 := hI.len; have h9 := Hal.out; omega
      obtain ⟨b0, b1, b2⟩ := HV0.out _ hXf
      by_cases hfe : fin = []
      rotate_left
      · have hfp : 0 < fin.length := List.length_pos_iff.2 hfe
        have hc3 : code ≠ 3 := fun h => h6 ⟨h, hfp⟩
        have HR := Lib.hid (show verFol code cls auth ⟨path, here, fin, 0⟩ = ⟨code, all.map ttl0, [], leastT all 2147483647, 0⟩ by
          show (if (0 : Nat) = 0 then (if fin = [] then _ else verEnd code path fin) else _) = _
          rw [if_pos rfl, if_neg hfe, verEnd, if_neg hc3, Hall.out])
        have hfp2 : (0 : Int) < (fin.length : Int) := by omega
        clear hfe hc3 h6
        go_wp2_with fail
        refine bodyPost_ret (v := .tuple #[.agg #[.int .u8 code, .slice B qs.length dd, .slice none 0 0], .int .u32 (leastT all 2147483647), .int .i64 0]) (by simp [results, Tryz.results12, go_sem, b0, b1, b2]) rfl ?_
        rw [HR.out]
        exact ⟨_, _, rfl, of_sets3 hI (Ext.refl _) HQ.out hres hrx _ _ _, Sets.nil _ _, by have hzz := hwX.size; (repeat (first | with_reducible exact Ext.refl _ | with_reducible assumption | with_reducible refine Ext.alloc ?_ _ | with_reducible refine Ext.drewN ?_ _ | with_reducible refine Ext.drew ?_ | (with_reducible refine Ext.setCell ?_ ?hp _; case hp => (simp <;> omega))))⟩
      · subst hfe
        have HSet : Hid (verFol code cls auth ⟨path, here, [], 0⟩ = verSoa code path (soaFind (groupR auth) here cls)) := Lib.hid (by
          show (if (0 : Nat) = 0 then (if ([] : List SetD) = [] then _ else _) else _) = _
          rw [if_pos rfl, if_pos rfl])
        have hap : all = path := by rw [Hall.out, List.append_nil]
        rw [hap] at HQ
        have hin := Lib.hid (fun s (h : (soaFind (groupR auth) here cls).set = some s) => (soa_mem h).1)
        generalize groupR auth = gs2 at *
        obtain ⟨r, hr⟩ : ∃ r, soaFind gs2 here cls = r := ⟨_, rfl⟩
        rw [hr] at HSet hin
        have hr0 := Lib.hid hr
        have HS22 := Lib.hid (show ∀ V, Ext wf V → V.cell? ⟨w.heap.size, 2, none⟩ = some (.int .u16 cls) ∧ V.cell? ⟨w.heap.size + 1, 13, none⟩ = some (.slice uA auth.length uc) from fun V hV => ⟨(HK.out V (hXf.trans hV)).2.2, (HC.out V (hXf.trans hV)).2.2⟩)
        have Bx := Lib.hid (And.intro bx (And.intro bxf bz))
        have B0 := Lib.hid (And.intro b0 (And.intro b1 b2))
        have Hap := Lib.hid hap
        clear hr hap bx bxf bz b0 b1 b2 h6
        go_upto_region 22 with fail
        go_cut [10, 15, 16] (fun s10 s15 s16 wx => ∃ (g2 dc : Nat) (dA : Option Addr), s10 = .int .i64 r.err ∧ s15 = .pointer (some ⟨g2, 0, none⟩) ∧ s16 = .bool r.set.isSome ∧ (∀ j, wx.cell? ⟨g2, j, none⟩ = #[S (r.set.getD SetD.zero).name, .int .u16 (r.set.getD SetD.zero).typ, .int .u16 (r.set.getD SetD.zero).cls, .int .u32 (r.set.getD SetD.zero).ttl, .slice dA (r.set.getD SetD.zero).data.length dc][j]?) ∧ (∀ j, wx.frozen? ⟨g2, j, none⟩ = false) ∧ wf.heap.size ≤ g2 ∧ g2 < wx.heap.size ∧ OStrs wx wf.heap.size (.slice dA (r.set.getD SetD.zero).data.length dc) (r.set.getD SetD.zero).data ∧ ((Value.slice dA (r.set.getD SetD.zero).data.length dc).ownBlock = none ∨ (Value.slice dA (r.set.getD SetD.zero).data.length dc).ownBlock ≠ some g2) ∧ Ext wf wx)
        case first =>
          as_aux_lemma =>
            refine wp_region_noPanic ?_
            refine wp_region_tree (S := (fun V => V.cell? ⟨w.heap.size, 2, none⟩ = some (.int .u16 cls) ∧ V.cell? ⟨w.heap.size + 1, 13, none⟩ = some (.slice uA auth.length uc))) (.take 0 (.take 1 (.take 3 (.take 4 (.take 5 (.run2 2 (.run2 6 (.take 7 (.take 8 (.take 9 (.take 10 (.run 11 (.run 12 (.take 13 (.take 14 (.done))))))))) 11 (.run 6 (.take 7 (.take 8 (.take 9 (.take 10 (.run 12 (.take 13 (.take 14 (.done)))))))))) 11 (.run 2 (.run 6 (.take 7 (.take 8 (.take 9 (.take 10 (.run 12 (.take 13 (.take 14 (.done)))))))))))))))) (by kernel_rfl) (by kernel_rfl) (fun _ _ _ _ _ h => h) (HS22.out _ ((Ext.refl wf).drew)) ?_
            repeat ((with_reducible refine treeIs ?_); first
              | (refine treeTake (v := ?_) (by rfl) (by rfl) ?_ ?_; rotate_left; (focus (intro V hV; (try dsimp only at hV); (go_simp <;> with_reducible rfl))); (try simp only [Act.put, List.setIfInBounds_toArray, List.set_cons_zero, List.set_cons_succ]))
              | (refine treeSkip (by rfl) (by rfl) ?_; (try simp only [Act.put, List.setIfInBounds_toArray, List.set_cons_zero, List.set_cons_succ])))
            refine treeRun2 ?_ ?_
            · refine treeRun (by rfl) (fun K hK => ?_)
              go_simp
              refine (HG2.out _ (hwf.trans ((Ext.refl wf).drew))).mono ?_; rintro e w5 ⟨g5, rfl, ⟨qs5, gA, gc, hq1, rfl, hq2, hq3⟩, hE5⟩
              have hq2' := hq2.lower (show wf.heap.size ≤ _ by simp)
              have Hgd := Lib.hid (fun p hp => (hq3 p hp).lower (show wf.heap.size ≤ _ by simp))
              have HSo := Lib.hid (fun W (hW : Ext w5 W) => ref10_find wf.heap.size qs5 gA gc gs2 here cls W hq1 hq2'.cap.1 hq2'.cap.2 (hq2'.rd.ext hW) (fun p hp => (Hgd.out p hp).strs.ext hW) hb2 (by omega))
              rw [hr0.out] at HSo
              clear hq1 hq2 hq3 hq2'
              have hf5 : Ext wf w5 := Ext.trans ((Ext.refl wf).drew) hE5
              have hf5s : wf.heap.size ≤ w5.heap.size := hf5.size
              refine hK.out _ _ ?_ ?_
              · exact HS22.out _ hf5
              clear hK K
              (try simp only [Act.put, List.setIfInBounds_toArray, List.set_cons_zero, List.set_cons_succ])
              refine treeRun2 ?_ ?_
              · refine treeRun (by rfl) (fun K hK => ?_)
                go_simp
                refine (HSo.out _ (show Ext w5 w5 by (repeat (first | with_reducible exact Ext.refl _ | with_reducible assumption | with_reducible refine Ext.alloc ?_ _ | with_reducible refine Ext.drewN ?_ _ | with_reducible refine Ext.drew ?_ | (with_reducible refine Ext.setCell ?_ ?hp _; case hp => (simp <;> omega)))))).mono ?_; rintro e w6 ⟨d6, rfl, hP6, hE6⟩
                have ho6 : OStrs w5 wf.heap.size d6 (r.set.getD SetD.zero).data := hP6 (fun v s => OStrs w5 wf.heap.size v s.data) (fun p hp => Hgd.out p hp) ⟨none, 0, rfl, Own.nil _ _ _ _⟩
                have h56 : Ext w5 w6 := Ext.trans (show Ext w5 w5 by (repeat (first | with_reducible exact Ext.refl _ | with_reducible assumption | with_reducible refine Ext.alloc ?_ _ | with_reducible refine Ext.drewN ?_ _ | with_reducible refine Ext.drew ?_ | (with_reducible refine Ext.setCell ?_ ?hp _; case hp => (simp <;> omega))))) hE6
                obtain ⟨dA, dc, rfl, how6⟩ := ho6
                have hf6 : Ext wf w6 := Ext.trans hf5 hE6
                have hf6s : wf.heap.size ≤ w6.heap.size := hf6.size
                refine hK.out _ _ ?_ ?_
                · exact HS22.out _ hf6
                clear hK K
                (try simp only [Act.put, List.setIfInBounds_toArray, List.set_cons_zero, List.set_cons_succ])
                repeat ((with_reducible refine treeIs ?_); first
                  | (refine treeTake (v := ?_) (by rfl) (by rfl) ?_ ?_; rotate_left; (focus (intro V hV; (try dsimp only at hV); (go_simp <;> with_reducible rfl))); (try simp only [Act.put, List.setIfInBounds_toArray, List.set_cons_zero, List.set_cons_succ]))
                  | (refine treeSkip (by rfl) (by rfl) ?_; (try simp only [Act.put, List.setIfInBounds_toArray, List.set_cons_zero, List.set_cons_succ])))
                refine treeRun (by rfl) (fun K hK => ?_)
                go_simp
                obtain ⟨z2, zf2, zz2⟩ := ext_new_at (w := w6) (w6.heap.size) rfl (Ext.refl (w6.alloc (.cells #[S [], .int .u16 0, .int .u16 0, .int .u32 0, .slice none 0 0] 55)))
                refine hK.out _ _ ?_ ?_
                · exact HS22.out _ (by (repeat (first | with_reducible exact Ext.refl _ | with_reducible assumption | with_reducible refine Ext.alloc ?_ _ | with_reducible refine Ext.drewN ?_ _ | with_reducible refine Ext.drew ?_ | (with_reducible refine Ext.setCell ?_ ?hp _; case hp => (simp <;> omega)))))
                clear hK K
                (try simp only [Act.put, List.setIfInBounds_toArray, List.set_cons_zero, List.set_cons_succ])
                refine treeRun (by rfl) (fun K hK => ?_)
                go_simp
                refine hK.out _ _ ?_ ?_
                · exact HS22.out _ (by (repeat (first | with_reducible exact Ext.refl _ | with_reducible assumption | with_reducible refine Ext.alloc ?_ _ | with_reducible refine Ext.drewN ?_ _ | with_reducible refine Ext.drew ?_ | (with_reducible refine Ext.setCell ?_ ?hp _; case hp => (simp <;> omega)))))
                clear hK K
                (try simp only [Act.put, List.setIfInBounds_toArray, List.set_cons_zero, List.set_cons_succ])
                repeat ((with_reducible refine treeIs ?_); first
                  | (refine treeTake (v := ?_) (by rfl) (by rfl) ?_ ?_; rotate_left; (focus (intro V hV; (try dsimp only at hV); (go_simp <;> with_reducible rfl))); (try simp only [Act.put, List.setIfInBounds_toArray, List.set_cons_zero, List.set_cons_succ]))
                  | (refine treeSkip (by rfl) (by rfl) ?_; (try simp only [Act.put, List.setIfInBounds_toArray, List.set_cons_zero, List.set_cons_succ])))
                refine treeDone ?_
                refine NoPanic.normal ?_
                go_wp2_with fail
                go_meet
                exact ⟨w6.heap.size, dc, dA, rfl, rfl, rfl, (fun j => World.cell?_alloc_mark w6 _ _ _ j), (ext_new (Ext.refl (w6.alloc (.cells #[S (r.set.getD SetD.zero).name, .int .u16 (r.set.getD SetD.zero).typ, .int .u16 (r.set.getD SetD.zero).cls, .int .u32 (r.set.getD SetD.zero).ttl, .slice dA (r.set.getD SetD.zero).data.length dc] 55)))).2.1, hf6.size, by simp, (show OStrs w6 wf.heap.size _ _ from ⟨dA, dc, rfl, how6.ext h56⟩).ext ((Ext.refl _).alloc _), off_high (how6.ext h56) (Nat.le_refl _), hf6.alloc _⟩
              · refine treeRun (by rfl) (fun K hK => ?_)
                go_simp
                obtain ⟨z1, zf1, zz1⟩ := ext_new_at (w := w5) (w5.heap.size) rfl (Ext.refl (w5.alloc (.cells #[S [], .int .u16 0, .int .u16 0, .int .u32 0, .slice none 0 0] 55)))
                refine hK.out _ _ ?_ ?_
                · exact HS22.out _ (by (repeat (first | with_reducible exact Ext.refl _ | with_reducible assumption | with_reducible refine Ext.alloc ?_ _ | with_reducible refine Ext.drewN ?_ _ | with_reducible refine Ext.drew ?_ | (with_reducible refine Ext.setCell ?_ ?hp _; case hp => (simp <;> omega)))))
                clear hK K
                (try simp only [Act.put, List.setIfInBounds_toArray, List.set_cons_zero, List.set_cons_succ])
                refine treeRun (by rfl) (fun K hK => ?_)
                go_simp
                refine (HSo.out _ (show Ext w5 (w5.alloc (.cells #[S [], .int .u16 0, .int .u16 0, .int .u32 0, .slice none 0 0] 55)) by (repeat (first | with_reducible exact Ext.refl _ | with_reducible assumption | with_reducible refine Ext.alloc ?_ _ | with_reducible refine Ext.drewN ?_ _ | with_reducible refine Ext.drew ?_ | (with_reducible refine Ext.setCell ?_ ?hp _; case hp => (simp <;> omega)))))).mono ?_; rintro e w6 ⟨d6, rfl, hP6, hE6⟩
                have ho6 : OStrs w5 wf.heap.size d6 (r.set.getD SetD.zero).data := hP6 (fun v s => OStrs w5 wf.heap.size v s.data) (fun p hp => Hgd.out p hp) ⟨none, 0, rfl, Own.nil _ _ _ _⟩
                have h56 : Ext w5 w6 := Ext.trans (show Ext w5 (w5.alloc (.cells #[S [], .int .u16 0, .int .u16 0, .int .u32 0, .slice none 0 0] 55)) by (repeat (first | with_reducible exact Ext.refl _ | with_reducible assumption | with_reducible refine Ext.alloc ?_ _ | with_reducible refine Ext.drewN ?_ _ | with_reducible refine Ext.drew ?_ | (with_reducible refine Ext.setCell ?_ ?hp _; case hp => (simp <;> omega))))) hE6
                obtain ⟨dA, dc, rfl, how6⟩ := ho6
                have hf6 : Ext wf w6 := Ext.trans (Ext.alloc hf5 _) hE6
                have hf6s : wf.heap.size ≤ w6.heap.size := hf6.size
                have z2 : ∀ j, w6.cell? ⟨w5.heap.size, j, none⟩ = #[S [], .int .u16 0, .int .u16 0, .int .u32 0, .slice none 0 0][j]? := fun j => (hE6.cell (p := ⟨w5.heap.size, j, none⟩) zz1).trans (z1 j)
                have zf2 : ∀ j, w6.frozen? ⟨w5.heap.size, j, none⟩ = false := fun j => (hE6.frozen (p := ⟨w5.heap.size, j, none⟩) zz1).trans (zf1 j)
                have zz2 : w5.heap.size < w6.heap.size := Nat.lt_of_lt_of_le zz1 hE6.size
                refine hK.out _ _ ?_ ?_
                · exact HS22.out _ hf6
                clear hK K
                (try simp only [Act.put, List.setIfInBounds_toArray, List.set_cons_zero, List.set_cons_succ])
                repeat ((with_reducible refine treeIs ?_); first
                  | (refine treeTake (v := ?_) (by rfl) (by rfl) ?_ ?_; rotate_left; (focus (intro V hV; (try dsimp only at hV); (go_simp <;> with_reducible rfl))); (try simp only [Act.put, List.setIfInBounds_toArray, List.set_cons_zero, List.set_cons_succ]))
                  | (refine treeSkip (by rfl) (by rfl) ?_; (try simp only [Act.put, List.setIfInBounds_toArray, List.set_cons_zero, List.set_cons_succ])))
                refine treeRun (by rfl) (fun K hK => ?_)
                go_simp
                refine hK.out _ _ ?_ ?_
                · exact HS22.out _ (by (repeat (first | with_reducible exact Ext.refl _ | with_reducible assumption | with_reducible refine Ext.alloc ?_ _ | with_reducible refine Ext.drewN ?_ _ | with_reducible refine Ext.drew ?_ | (with_reducible refine Ext.setCell ?_ ?hp _; case hp => (simp <;> omega)))))
                clear hK K
                (try simp only [Act.put, List.setIfInBounds_toArray, List.set_cons_zero, List.set_cons_succ])
                repeat ((with_reducible refine treeIs ?_); first
                  | (refine treeTake (v := ?_) (by rfl) (by rfl) ?_ ?_; rotate_left; (focus (intro V hV; (try dsimp only at hV); (go_simp <;> with_reducible rfl))); (try simp only [Act.put, List.setIfInBounds_toArray, List.set_cons_zero, List.set_cons_succ]))
                  | (refine treeSkip (by rfl) (by rfl) ?_; (try simp only [Act.put, List.setIfInBounds_toArray, List.set_cons_zero, List.set_cons_succ])))
                refine treeDone ?_
                refine NoPanic.normal ?_
                go_wp2_with fail
                go_meet
                have hoff : (Value.slice dA (r.set.getD SetD.zero).data.length dc).ownBlock = none ∨ (Value.slice dA (r.set.getD SetD.zero).data.length dc).ownBlock ≠ some w5.heap.size := off_high how6 (Nat.le_refl _)
                exact ⟨w5.heap.size, dc, dA, rfl, rfl, rfl, box5 z2 (S (r.set.getD SetD.zero).name) (.int .u16 (r.set.getD SetD.zero).typ) (.int .u16 (r.set.getD SetD.zero).cls) (.int .u32 (r.set.getD SetD.zero).ttl) (.slice dA (r.set.getD SetD.zero).data.length dc), (fun j => by simpa using zf2 j), hf5s, (by simpa using zz2), (show OStrs _ wf.heap.size _ _ from ⟨dA, dc, rfl, (off5 (how6.ext h56) hoff _ _ _ _ _).lower (by first | exact Nat.le_refl _ | omega)⟩), hoff, (by have hsz := hf5s; (repeat (first | with_reducible exact Ext.refl _ | with_reducible assumption | with_reducible refine Ext.alloc ?_ _ | with_reducible refine Ext.drewN ?_ _ | with_reducible refine Ext.drew ?_ | (with_reducible refine Ext.setCell ?_ ?hp _; case hp => (simp <;> omega)))))⟩
            · refine treeRun (by rfl) (fun K hK => ?_)
              go_simp
              obtain ⟨z0, zf0, zz0⟩ := ext_new_at (w := wf.drew) (wf.heap.size) rfl (Ext.refl (wf.drew.alloc (.cells #[S [], .int .u16 0, .int .u16 0, .int .u32 0, .slice none 0 0] 55)))
              refine hK.out _ _ ?_ ?_
              · exact HS22.out _ (by (repeat (first | with_reducible exact Ext.refl _ | with_reducible assumption | with_reducible refine Ext.alloc ?_ _ | with_reducible refine Ext.drewN ?_ _ | with_reducible refine Ext.drew ?_ | (with_reducible refine Ext.setCell ?_ ?hp _; case hp => (simp <;> omega)))))
              clear hK K
              (try simp only [Act.put, List.setIfInBounds_toArray, List.set_cons_zero, List.set_cons_succ])
              refine treeRun (by rfl) (fun K hK => ?_)
              go_simp
              refine (HG2.out _ (hwf.trans (Ext.alloc ((Ext.refl wf).drew) _))).mono ?_; rintro e w5 ⟨g5, rfl, ⟨qs5, gA, gc, hq1, rfl, hq2, hq3⟩, hE5⟩
              have hq2' := hq2.lower (show (wf.heap.size + 1) ≤ _ by simp)
              have Hgd := Lib.hid (fun p hp => (hq3 p hp).lower (show (wf.heap.size + 1) ≤ _ by simp))
              have HSo := Lib.hid (fun W (hW : Ext w5 W) => ref10_find (wf.heap.size + 1) qs5 gA gc gs2 here cls W hq1 hq2'.cap.1 hq2'.cap.2 (hq2'.rd.ext hW) (fun p hp => (Hgd.out p hp).strs.ext hW) hb2 (by omega))
              rw [hr0.out] at HSo
              clear hq1 hq2 hq3 hq2'
              have hf5 : Ext wf w5 := Ext.trans (Ext.alloc ((Ext.refl wf).drew) _) hE5
              have hf5s : wf.heap.size ≤ w5.heap.size := hf5.size
              have z1 : ∀ j, w5.cell? ⟨wf.heap.size, j, none⟩ = #[S [], .int .u16 0, .int .u16 0, .int .u32 0, .slice none 0 0][j]? := fun j => (hE5.cell (p := ⟨wf.heap.size, j, none⟩) zz0).trans (z0 j)
              have zf1 : ∀ j, w5.frozen? ⟨wf.heap.size, j, none⟩ = false := fun j => (hE5.frozen (p := ⟨wf.heap.size, j, none⟩) zz0).trans (zf0 j)
              have zz1 : wf.heap.size < w5.heap.size := Nat.lt_of_lt_of_le zz0 hE5.size
              refine hK.out _ _ ?_ ?_
              · exact HS22.out _ hf5
              clear hK K
              (try simp only [Act.put, List.setIfInBounds_toArray, List.set_cons_zero, List.set_cons_succ])
              refine treeRun (by rfl) (fun K hK => ?_)
              go_simp
              refine (HSo.out _ (show Ext w5 w5 by (repeat (first | with_reducible exact Ext.refl _ | with_reducible assumption | with_reducible refine Ext.alloc ?_ _ | with_reducible refine Ext.drewN ?_ _ | with_reducible refine Ext.drew ?_ | (with_reducible refine Ext.setCell ?_ ?hp _; case hp => (simp <;> omega)))))).mono ?_; rintro e w6 ⟨d6, rfl, hP6, hE6⟩
              have ho6 : OStrs w5 (wf.heap.size + 1) d6 (r.set.getD SetD.zero).data := hP6 (fun v s => OStrs w5 (wf.heap.size + 1) v s.data) (fun p hp => Hgd.out p hp) ⟨none, 0, rfl, Own.nil _ _ _ _⟩
              have h56 : Ext w5 w6 := Ext.trans (show Ext w5 w5 by (repeat (first | with_reducible exact Ext.refl _ | with_reducible assumption | with_reducible refine Ext.alloc ?_ _ | with_reducible refine Ext.drewN ?_ _ | with_reducible refine Ext.drew ?_ | (with_reducible refine Ext.setCell ?_ ?hp _; case hp => (simp <;> omega))))) hE6
              obtain ⟨dA, dc, rfl, how6⟩ := ho6
              have hf6 : Ext wf w6 := Ext.trans hf5 hE6
              have hf6s : wf.heap.size ≤ w6.heap.size := hf6.size
              have z2 : ∀ j, w6.cell? ⟨wf.heap.size, j, none⟩ = #[S [], .int .u16 0, .int .u16 0, .int .u32 0, .slice none 0 0][j]? := fun j => (hE6.cell (p := ⟨wf.heap.size, j, none⟩) zz1).trans (z1 j)
              have zf2 : ∀ j, w6.frozen? ⟨wf.heap.size, j, none⟩ = false := fun j => (hE6.frozen (p := ⟨wf.heap.size, j, none⟩) zz1).trans (zf1 j)
              have zz2 : wf.heap.size < w6.heap.size := Nat.lt_of_lt_of_le zz1 hE6.size
              refine hK.out _ _ ?_ ?_
              · exact HS22.out _ hf6
              clear hK K
              (try simp only [Act.put, List.setIfInBounds_toArray, List.set_cons_zero, List.set_cons_succ])
              repeat ((with_reducible refine treeIs ?_); first
                | (refine treeTake (v := ?_) (by rfl) (by rfl) ?_ ?_; rotate_left; (focus (intro V hV; (try dsimp only at hV); (go_simp <;> with_reducible rfl))); (try simp only [Act.put, List.setIfInBounds_toArray, List.set_cons_zero, List.set_cons_succ]))
                | (refine treeSkip (by rfl) (by rfl) ?_; (try simp only [Act.put, List.setIfInBounds_toArray, List.set_cons_zero, List.set_cons_succ])))
              refine treeRun (by rfl) (fun K hK => ?_)
              go_simp
              refine hK.out _ _ ?_ ?_
              · exact HS22.out _ (by (repeat (first | with_reducible exact Ext.refl _ | with_reducible assumption | with_reducible refine Ext.alloc ?_ _ | with_reducible refine Ext.drewN ?_ _ | with_reducible refine Ext.drew ?_ | (with_reducible refine Ext.setCell ?_ ?hp _; case hp => (simp <;> omega)))))
              clear hK K
              (try simp only [Act.put, List.setIfInBounds_toArray, List.set_cons_zero, List.set_cons_succ])
              repeat ((with_reducible refine treeIs ?_); first
                | (refine treeTake (v := ?_) (by rfl) (by rfl) ?_ ?_; rotate_left; (focus (intro V hV; (try dsimp only at hV); (go_simp <;> with_reducible rfl))); (try simp only [Act.put, List.setIfInBounds_toArray, List.set_cons_zero, List.set_cons_succ]))
                | (refine treeSkip (by rfl) (by rfl) ?_; (try simp only [Act.put, List.setIfInBounds_toArray, List.set_cons_zero, List.set_cons_succ])))
              refine treeDone ?_
              refine NoPanic.normal ?_
              go_wp2_with fail
              go_meet
              have hoff : (Value.slice dA (r.set.getD SetD.zero).data.length dc).ownBlock = none ∨ (Value.slice dA (r.set.getD SetD.zero).data.length dc).ownBlock ≠ some wf.heap.size := off_low how6 (by simp)
              exact ⟨wf.heap.size, dc, dA, rfl, rfl, rfl, box5 z2 (S (r.set.getD SetD.zero).name) (.int .u16 (r.set.getD SetD.zero).typ) (.int .u16 (r.set.getD SetD.zero).cls) (.int .u32 (r.set.getD SetD.zero).ttl) (.slice dA (r.set.getD SetD.zero).data.length dc), (fun j => by simpa using zf2 j), Nat.le_refl _, (by simpa using zz2), (show OStrs _ wf.heap.size _ _ from ⟨dA, dc, rfl, (off5 (how6.ext h56) hoff _ _ _ _ _).lower (by first | exact Nat.le_refl _ | omega)⟩), hoff, (by have hsz := hf5s; (repeat (first | with_reducible exact Ext.refl _ | with_reducible assumption | with_reducible refine Ext.alloc ?_ _ | with_reducible refine Ext.drewN ?_ _ | with_reducible refine Ext.drew ?_ | (with_reducible refine Ext.setCell ?_ ?hp _; case hp => (simp <;> omega)))))⟩
        case rest =>
        obtain ⟨g2, dc, dA, rfl, rfl, rfl, hgc, hgf, hgl, hgz, hst, hof, hEx⟩ := hcut
        obtain ⟨Y, rfl⟩ : ∃ Y : World, Y = wc := ⟨_, rfl⟩
        have hXY := hXf.trans hEx
        have hwY := hwX.trans hXY
        have h4Y := hE.trans hEx
        have hVX := Lib.hid (show ∀ V, Ext Y V → (∀ j, V.cell? ⟨w4.heap.size, j, none⟩ = #[.int .u8 code, .slice B qs.length dd, .slice none 0 0][j]?) ∧ (∀ j, V.frozen? ⟨w4.heap.size, j, none⟩ = false) ∧ w4.heap.size < V.heap.size from fun V hV => ⟨fun j => ((hEx.trans hV).cell (p := ⟨w4.heap.size, j, none⟩) Bx.out.2.2).trans (Bx.out.1 j), fun j => ((hEx.trans hV).frozen (p := ⟨w4.heap.size, j, none⟩) Bx.out.2.2).trans (Bx.out.2.1 j), Nat.lt_of_lt_of_le Bx.out.2.2 (hEx.trans hV).size⟩)
        have bzf := Bx.out.2.2
        rcases r with ⟨st, er⟩
        dsimp only at *
        by_cases hre : er = 0
        rotate_left
        · have HR := Lib.hid (HSet.out.trans (show verSoa code path ⟨st, er⟩ = VerR.bad er from if_neg hre))
          have f1 : ((er : Int) == 0) = false := by rw [beq_eq_false_iff_ne]; omega
          have f2 : ((er : Int) != 0) = true := by rw [bne, f1]; rfl
          clear hre
          obtain ⟨b0, b1, b2⟩ := HV0.out _ (hXY)
          go_wp2_with fail
          refine bodyPost_ret (v := .tuple #[.agg #[.int .u8 0, .slice none 0 0, .slice none 0 0], .int .u32 0, .int .i64 er]) (by simp [results, Tryz.results12, go_sem, b0, b1, b2]) rfl ?_
          rw [HR.out]
          exact rof_bad w _ er (by have hzz := hwX.size; have hw2 := hwX.trans (hXY); (repeat (first | with_reducible exact Ext.refl _ | with_reducible assumption | with_reducible refine Ext.alloc ?_ _ | with_reducible refine Ext.drewN ?_ _ | with_reducible refine Ext.drew ?_ | (with_reducible refine Ext.setCell ?_ ?hp _; case hp => (simp <;> omega)))))
        subst hre
        rcases st with _ | s
        · have HR := Lib.hid (HSet.out.trans (show verSoa code path ⟨none, 0⟩ = ⟨code, path.map ttl0, [], 0, 0⟩ from rfl))
          dsimp only [Option.getD, Option.isSome] at *
          obtain ⟨b0, b1, b2⟩ := HV0.out _ hXY
          obtain ⟨v0, v1, v2⟩ := hVX.out _ (Ext.refl _)
          go_wp2_with fail
          refine bodyPost_ret (v := .tuple #[.agg #[.int .u8 code, .slice B qs.length dd, .slice none 0 0], .int .u32 0, .int .i64 0]) (by simp [results, Tryz.results12, go_sem, b0, b1, b2]) rfl ?_
          rw [HR.out]
          exact ⟨_, _, rfl, of_sets3 hI hEx HQ.out hres hrx _ _ _, Sets.nil _ _, by have hzz := hwX.size; (repeat (first | with_reducible exact Ext.refl _ | with_reducible assumption | with_reducible refine Ext.alloc ?_ _ | with_reducible refine Ext.drewN ?_ _ | with_reducible refine Ext.drew ?_ | (with_reducible refine Ext.setCell ?_ ?hp _; case hp => (simp <;> omega))))⟩
        · have HR := Lib.hid (HSet.out.trans (show verSoa code path ⟨some s, 0⟩ = ⟨code, path.map ttl0, [ttl0 s], leastT path (soaTime s), 0⟩ from rfl))
          have hsm := hin.out s rfl
          have hsb := hb2 s hsm
          have ht0 := Htt.out s hsm
          dsimp only [Option.getD, Option.isSome] at *
          have hmin := Lib.hid (leastT_tm path (soaTime s) (soaTime_bd s ht0).2)
          have HTi := Lib.hid (fun W (hW : Ext Y W) => ref10_time wf.heap.size s _ W (hst.strs.ext hW) hsb.2.2 ht0)
          generalize soaTime s = tm at *
          rw [Hap.out]
          generalize hlp : leastT path 2147483647 = lp at *
          clear hlp
          go_wp2_with fail
          refine (HTi.out _ (Ext.refl _)).mono ?_; rintro e w7 ⟨rfl, hE7⟩
          have g7 : ∀ j, w7.cell? ⟨g2, j, none⟩ = _ := fun j => (hE7.cell (p := ⟨g2, j, none⟩) hgz).trans (hgc j)
          have g7f : ∀ j, w7.frozen? ⟨g2, j, none⟩ = false := fun j => (hE7.frozen (p := ⟨g2, j, none⟩) hgz).trans (hgf j)
          have g7z : g2 < w7.heap.size := Nat.lt_of_lt_of_le hgz hE7.size
          obtain ⟨b0, b1, b2⟩ := HV0.out _ (hXY.trans hE7)
          obtain ⟨v0, v1, v2⟩ := hVX.out _ hE7
          have n1 : g2 ≠ w4.heap.size := by omega
          have n2 : g2 ≠ w.heap.size + 1 + 1 := by omega
          have n3 : w4.heap.size ≠ w.heap.size + 1 + 1 := by omega
          have n4 : w4.heap.size ≠ g2 := by omega
          have n5 : w.heap.size + 1 + 1 ≠ g2 := by omega
          have n6 : w.heap.size + 1 + 1 ≠ w4.heap.size := by omega
          clear hgc hgf hgz
          go_wp2_with fail
          refine bodyPost_ret (v := .tuple #[.agg #[.int .u8 code, .slice B qs.length dd, .slice (some ⟨w7.heap.size, 0, none⟩) 1 1], .int .u32 (min lp tm), .int .i64 0]) (by simp [results, Tryz.results12, go_sem, b0, b1, b2, n1, n2, n3, n4, n5, n6]) rfl ?_
          have hf7 := hEx.trans hE7
          have hf7s : wf.heap.size ≤ w7.heap.size := hf7.size
          have h47 := hE.trans hf7
          have hw7 := hwX.trans (hXY.trans hE7)
          obtain ⟨V0, hV0⟩ : ∃ V0, V0 = (((((w7.setCell ⟨g2, 3, none⟩ (.int .u32 0)).setCell ⟨w4.heap.size, 2, none⟩ (.slice (some ⟨w7.heap.size, 0, none⟩) 1 1)).setCell ⟨w.heap.size + 1 + 1, 0, none⟩ (.int .u8 code)).setCell ⟨w.heap.size + 1 + 1, 1, none⟩ (.slice B qs.length dd)).setCell ⟨w.heap.size + 1 + 1, 2, none⟩ (.slice (some ⟨w7.heap.size, 0, none⟩) 1 1)) := ⟨_, rfl⟩
          rw [← hV0]
          have hz0 : V0.heap.size = w7.heap.size := by rw [hV0]; simp
          have h4z : Ext w4 ((w7.setCell ⟨g2, 3, none⟩ (.int .u32 0)).setCell ⟨w4.heap.size, 2, none⟩ (.slice (some ⟨w7.heap.size, 0, none⟩) 1 1)) := (h47.setCell (show w4.heap.size ≤ g2 by omega) _).setCell (Nat.le_refl _) _
          have hfz : Ext wf (w7.setCell ⟨g2, 3, none⟩ (.int .u32 0)) := hf7.setCell hgl _
          have s1 : Sets V0 0 (.slice B qs.length dd) (path.map ttl0) := by
            rw [hV0]
            exact of_sets hI HQ.out hrx (offB_set (offB_set (offB_set (offB_ext h4z) 0 _) 1 _) 2 _) (by simp; omega) (((((hI.own.ext hfz).set_other (show w4.heap.size < w4.heap.size + 1 by omega) _).set_other (show w.heap.size + 1 + 1 < w4.heap.size + 1 by omega) _).set_other (show w.heap.size + 1 + 1 < w4.heap.size + 1 by omega) _).set_other (show w.heap.size + 1 + 1 < w4.heap.size + 1 by omega) _)
          have o1 : OStrs V0 wf.heap.size (.slice dA s.data.length dc) s.data := by
            rw [hV0]
            exact ostrs_set (ostrs_set (ostrs_set (ostrs_set ((hst.ext hE7).set_other (p := ⟨g2, 3, none⟩) _ hof) (show w4.heap.size < wf.heap.size from bzf) _) (show w.heap.size + 1 + 1 < wf.heap.size by omega) _) (show w.heap.size + 1 + 1 < wf.heap.size by omega) _) (show w.heap.size + 1 + 1 < wf.heap.size by omega) _
          have e0 : Ext w V0 := by
            have hzz := hwX.size
            have hzw : w.heap.size ≤ w4.heap.size := hw4.size
            rw [hV0]
            exact ((((hw7.setCell (show w.heap.size ≤ g2 by omega) _).setCell hzw _).setCell (show w.heap.size ≤ w.heap.size + 1 + 1 by omega) _).setCell (show w.heap.size ≤ w.heap.size + 1 + 1 by omega) _).setCell (show w.heap.size ≤ w.heap.size + 1 + 1 by omega) _
          clear hV0
          rw [HR.out, ← hmin.out]
          refine ⟨_, _, rfl, s1.ext ((Ext.refl _).alloc _), ?_, e0.alloc _⟩
          obtain ⟨y0, _, y2⟩ := ext_new_at (w := V0) (w7.heap.size) hz0.symm (Ext.refl (V0.alloc (.cells #[S s.name, .int .u16 s.typ, .int .u16 s.cls, .int .u32 0, .slice dA s.data.length dc] 55)))
          exact sets_cells1 (s := ttl0 s) (dv := .slice dA s.data.length dc) y0 y2 ((OStrs.lower0 o1).strs.ext ((Ext.refl _).alloc _))
end Go.Proofs.YtbdjoihckienbaaGreatDoor
