/- hustingslaw09.ChainEnd returns true for every input, and every argument reads behind the call as it read before; the listed variable (errors.errorType) is tied to the program's text. No condition of ours. -/
import Derived.Test.YthdlgmfeicikpaaGreatDoorBj
import Derived.Test.YthdlgmfeicikpaaGreatDoorBq
import Derived.Test.YthdlgmfeicikpaaGreatDoorBk
import Derived.Test.YthdlgmfeicikpaaGreatDoorBg
import Derived.Deep.RegionHeld3
import Derived.Deep.DeepMust
import Derived.Test.YthdlgmfeicikpaaGreatDoorBn
namespace Go.Proofs.YthdlgmfeicikpaaGreatDoor
set_option linter.unusedSimpArgs false
set_option linter.unusedVariables false
open Go.RowKit
set_option maxRecDepth 100000

theorem recsOk_of {l : List RecD} (h : ∀ r ∈ l, RecOk r) : RecsOk l := fun r hr => ⟨(h r hr).2.2.1, (h r hr).2.2.2.1⟩
theorem osets_one {w : World} {lo : Nat} {u : Value} {s : SetD} (h : OSets w lo u [s]) : ∃ (g c : Nat) (dv : Value), u = .slice (some ⟨g, 0, none⟩) 1 c ∧ g < w.heap.size ∧ OStrs w lo dv s.data ∧ w.cell? ⟨g, 0, none⟩ = some (S s.name) ∧ w.cell? ⟨g, 1, none⟩ = some (.int .u16 s.typ) ∧ w.cell? ⟨g, 2, none⟩ = some (.int .u16 s.cls) ∧ w.cell? ⟨g, 3, none⟩ = some (.int .u32 s.ttl) ∧ w.cell? ⟨g, 4, none⟩ = some dv := by
  obtain ⟨ps, A, c, h1, h2, h3, h4⟩ := h
  obtain ⟨p, rfl⟩ : ∃ p, ps = [p] := by
    have : ps.length = 1 := by have := congrArg List.length h1; simpa using this
    exact List.length_eq_one_iff.1 this
  obtain ⟨⟨sn, st, sc, sl, sd⟩, dv⟩ := p
  simp only [List.map_cons, List.map_nil, List.cons.injEq, and_true] at h1
  subst h1
  obtain ⟨g, rfl, _, hz, _, hc⟩ := h3.addr (by simp)
  exact ⟨g, c, dv, h2, hz, h4 (⟨sn, st, sc, sl, sd⟩, dv) (by simp), hc 0 _ rfl, hc 1 _ rfl, hc 2 _ rfl, hc 3 _ rfl, hc 4 _ rfl⟩

set_option maxHeartbeats 4000000 in
theorem law_chainEnd (n : List UInt8) (ty cl : Int) (v : Value) (l : List RecD) (w : World) (hg : Laid w) (h : Recs w 0 v l) (hok : ∀ r ∈ l, RecOk r) (hn : n.length ≤ maxLen) :
    Calls Tryz.prog 14 #[.agg #[S n, .int .u16 ty, .int .u16 cl], v] w fun e w' => e = .returned (.bool true) ∧ Ext w w' := by
  have HL := Lib.hid (fun W (hW : Ext w W) => law_large 0 v l W (h.ext hW) hok)
  have HA := Lib.hid (fun W (hW : Ext w W) => law_awake W (hg.ext hW))
  have HNF := Lib.hid (fun W => name_fold n W hn)
  obtain ⟨A, c, rfl, h1, h2, h3⟩ := h
  have h : Recs w 0 (.slice A l.length c) l := ⟨A, c, rfl, h1, h2, h3⟩
  have Hh := Lib.hid h
  clear h h3
  unfold maxLen at hn h2
  rcases hlg : largeB l with _ | _
  · have hbd := recsBd_of hlg
    rw [hlg] at HL
    have HG := Lib.hid (fun W (hW : Ext w W) => rrset_groupR 0 _ l W (hg.ext hW) (Hh.out.ext hW) hbd (recsOk_of hok))
    have hsb := groupR_bd hbd
    clear hlg
    by_cases hq : n.length ≤ 1000
    · have hqi : ¬ (1000 : Int) < (n.length : Int) := by omega
      have hqd : decide ((1000 : Int) < (n.length : Int)) = false := by simpa using hqi
      have hF0 := follow_ok (groupR l) n ty cl
      have HF := Lib.hid (fun W (hW : Ext w W) x g (hS : Sets W x g (groupR l)) => chain_follow x n ty cl g (groupR l) W (hg.ext hW) hS hsb (by omega))
      have hhl := follow_here n ty cl (groupR l)
      generalize groupR l = sets at *
      generalize followOf n ty cl sets = R at *
      obtain ⟨path, here, fin, err⟩ := R
      dsimp only at hhl
      have HFi := Lib.hid (fun k W x g (hS : Sets W x g sets) => rrset_find x g sets here k cl W hS hsb (by omega))
      have HF0 := Lib.hid hF0
      clear hbd hsb hF0
      go_enter Tryz.func14, Tryz.ntmps14
      go_wp2_with fail
      refine (HL.out _ ((Ext.refl _).alloc _)).mono ?_; rintro e w1 ⟨rfl, hE1⟩
      obtain ⟨b1, _, bz1⟩ := ext_new hE1
      have b10 : w1.cell? ⟨w.heap.size, 0, none⟩ = some (S n) := b1 0
      clear b1
      go_wp2_with fail
      refine (HA.out _ (((Ext.refl _).alloc _).trans hE1)).mono ?_; rintro e w2 ⟨rfl, hE2⟩
      go_wp2_with fail
      refine (HG.out _ ((((Ext.refl _).alloc _).trans hE1).trans hE2)).mono ?_; rintro e w3 ⟨g3, rfl, ho3, hE3⟩
      obtain ⟨gA3, gc3, rfl, k1, k2⟩ := ho3.shape
      obtain ⟨b3, _, bz3⟩ := ext_new ((hE1.trans hE2).trans hE3)
      have b30 : w3.cell? ⟨w.heap.size, 0, none⟩ = some (S n) := b3 0
      have b31 : w3.cell? ⟨w.heap.size, 1, none⟩ = some (.int .u16 ty) := b3 1
      have b32 : w3.cell? ⟨w.heap.size, 2, none⟩ = some (.int .u16 cl) := b3 2
      have hEq3 := (hE1.trans hE2).trans hE3
      have hEw3 : Ext w w3 := ((Ext.refl w).alloc _).trans hEq3
      clear b3 b10 bz1 hE1 hE2 hE3
      go_wp2_with fail
      refine (HF.out _ hEw3 _ _ ho3.sets).mono ?_; rintro e w4 ⟨v4, u4, wm, rfl, hv4, hEm, hu4, hEn⟩
      dsimp only at hv4 hu4 ⊢
      obtain ⟨vA, vc, rfl, hv1, hv2⟩ := hv4.shape
      have hE4 := hEm.trans hEn
      have hEq4 := hEq3.trans hE4
      obtain ⟨b4, _, bz4⟩ := ext_new hEq4
      have b40 : w4.cell? ⟨w.heap.size, 0, none⟩ = some (S n) := b4 0
      have b41 : w4.cell? ⟨w.heap.size, 1, none⟩ = some (.int .u16 ty) := b4 1
      have b42 : w4.cell? ⟨w.heap.size, 2, none⟩ = some (.int .u16 cl) := b4 2
      have hEw4 := hEw3.trans hE4
      clear b4 b30 b31 b32 bz3
      unfold maxLen at hv2
      by_cases he : err = 0
      · have f1 : ((err : Int) == 0) = true := by rw [beq_iff_eq]; omega
        have f2 : ((err : Int) != 0) = false := by rw [bne, f1]; rfl
        have hfin := HF0.out.fin he
        have hstop := HF0.out.stop he
        have hpl := HF0.out.plain he
        dsimp only at hfin hstop hpl
        clear he
        rcases hf : findS sets here ty cl with _ | s5
        · rw [hf] at hfin
          have hfe : fin = [] := hfin
          subst hfe
          obtain ⟨uA, uc, rfl, hu1, hu2⟩ := hu4.shape
          have Hf := Lib.hid hf
          by_cases h5 : ty = 5
          · have Hf6 := Lib.hid (show findS sets here 5 cl = none by rw [← h5]; exact hf)
            have Hpl := Lib.hid (hpl h5)
            have hpe := Hpl.out.1
            subst hpe
            have g1 : (ty == 5) = true := by rw [beq_iff_eq]; exact h5
            have g2 : (ty != 5) = false := by rw [bne, g1]; rfl
            clear h5 hf hfin hstop hpl
            go_wp2_with fail
            refine (HFi.out ty _ _ _ (ho3.sets.ext hE4)).mono ?_; rintro e w5 ⟨d5, rfl, ho5, hE5⟩
            rw [Hf.out] at ho5 ⊢
            dsimp only [Option.getD, Option.isSome] at ho5 ⊢
            obtain ⟨dA5, dc5, rfl⟩ := ho5.strs.shape
            obtain ⟨b5, _, bz5⟩ := ext_new (hEq4.trans hE5)
            have b52 : w5.cell? ⟨w.heap.size, 2, none⟩ = some (.int .u16 cl) := b5 2
            clear b5
            have hE5b := hE5.alloc (.cells #[S SetD.zero.name, .int .u16 SetD.zero.typ, .int .u16 SetD.zero.cls, .int .u32 SetD.zero.ttl, .slice dA5 SetD.zero.data.length dc5] 27)
            go_wp2_with fail
            refine (HFi.out 5 _ _ _ ((ho3.sets.ext hE4).ext hE5b)).mono ?_; rintro e w6 ⟨d6, rfl, ho6, hE6⟩
            rw [Hf6.out] at ho6 ⊢
            dsimp only [Option.getD, Option.isSome] at ho6 ⊢
            obtain ⟨dA6, dc6, rfl⟩ := ho6.strs.shape
            obtain ⟨b6, _, bz6⟩ := ext_new ((hEq4.trans hE5b).trans hE6)
            have b60 : w6.cell? ⟨w.heap.size, 0, none⟩ = some (S n) := b6 0
            have b61 : w6.cell? ⟨w.heap.size, 1, none⟩ = some (.int .u16 ty) := b6 1
            have hEw6 : Ext w w6 := (hEw4.trans hE5b).trans hE6
            clear b6 b52 b40 b41 b42
            go_wp2_with fail
            go_quiet (fail)
            go_wp2_with fail
            refine (HNF.out _).mono ?_; rintro e w8 ⟨rfl, hE8⟩
            go_wp2_with fail
            go_ret
            exact ⟨ret_bool (by simp [Hpl.out.2]), hEw6.trans (Ext.trans (by (repeat (first | with_reducible exact Ext.refl _ | with_reducible assumption | with_reducible refine Ext.alloc ?_ _ | with_reducible refine Ext.drewN ?_ _ | with_reducible refine Ext.drew ?_ | (with_reducible refine Ext.setCell ?_ ?hp _; case hp => (simp <;> omega))))) hE8)⟩
          · have Hf6 := Lib.hid (hstop h5)
            have g1 : (ty == 5) = false := by rw [beq_eq_false_iff_ne]; exact h5
            have g2 : (ty != 5) = true := by rw [bne, g1]; rfl
            clear h5 hf hfin hstop hpl
            go_wp2_with fail
            refine (HFi.out ty _ _ _ (ho3.sets.ext hE4)).mono ?_; rintro e w5 ⟨d5, rfl, ho5, hE5⟩
            rw [Hf.out] at ho5 ⊢
            dsimp only [Option.getD, Option.isSome] at ho5 ⊢
            obtain ⟨dA5, dc5, rfl⟩ := ho5.strs.shape
            obtain ⟨b5, _, bz5⟩ := ext_new (hEq4.trans hE5)
            have b52 : w5.cell? ⟨w.heap.size, 2, none⟩ = some (.int .u16 cl) := b5 2
            clear b5
            have hE5b := hE5.alloc (.cells #[S SetD.zero.name, .int .u16 SetD.zero.typ, .int .u16 SetD.zero.cls, .int .u32 SetD.zero.ttl, .slice dA5 SetD.zero.data.length dc5] 27)
            go_wp2_with fail
            refine (HFi.out 5 _ _ _ ((ho3.sets.ext hE4).ext hE5b)).mono ?_; rintro e w6 ⟨d6, rfl, ho6, hE6⟩
            rw [Hf6.out] at ho6 ⊢
            dsimp only [Option.getD, Option.isSome] at ho6 ⊢
            obtain ⟨dA6, dc6, rfl⟩ := ho6.strs.shape
            obtain ⟨b6, _, bz6⟩ := ext_new ((hEq4.trans hE5b).trans hE6)
            have b60 : w6.cell? ⟨w.heap.size, 0, none⟩ = some (S n) := b6 0
            have b61 : w6.cell? ⟨w.heap.size, 1, none⟩ = some (.int .u16 ty) := b6 1
            have hEw6 : Ext w w6 := (hEw4.trans hE5b).trans hE6
            clear b6 b52 b40 b41 b42
            go_wp2_with fail
            go_quiet (fail)
            go_wp2_with fail
            go_ret
            exact ⟨rfl, hEw6.trans (by (repeat (first | with_reducible exact Ext.refl _ | with_reducible assumption | with_reducible refine Ext.alloc ?_ _ | with_reducible refine Ext.drewN ?_ _ | with_reducible refine Ext.drew ?_ | (with_reducible refine Ext.setCell ?_ ?hp _; case hp => (simp <;> omega)))))⟩
        · rw [hf] at hfin
          have hfe : fin = [s5] := hfin
          subst hfe
          obtain ⟨gu, cu, du, rfl, hguz, hdu, yu0, yu1, yu2, yu3, yu4⟩ := osets_one hu4
          obtain ⟨dAu, dcu, rfl⟩ := hdu.strs.shape
          have Hf := Lib.hid hf
          by_cases h5 : ty = 5
          · have Hf6 := Lib.hid (show findS sets here 5 cl = some s5 by rw [← h5]; exact hf)
            have Hpl := Lib.hid (hpl h5)
            have hpe := Hpl.out.1
            subst hpe
            have g1 : (ty == 5) = true := by rw [beq_iff_eq]; exact h5
            have g2 : (ty != 5) = false := by rw [bne, g1]; rfl
            clear h5 hf hfin hstop hpl
            go_wp2_with fail
            refine (HFi.out ty _ _ _ (ho3.sets.ext hE4)).mono ?_; rintro e w5 ⟨d5, rfl, ho5, hE5⟩
            rw [Hf.out] at ho5 ⊢
            dsimp only [Option.getD, Option.isSome] at ho5 ⊢
            obtain ⟨dA5, dc5, rfl⟩ := ho5.strs.shape
            obtain ⟨b5, _, bz5⟩ := ext_new (hEq4.trans hE5)
            have b52 : w5.cell? ⟨w.heap.size, 2, none⟩ = some (.int .u16 cl) := b5 2
            clear b5
            have hE5b := hE5.alloc (.cells #[S s5.name, .int .u16 s5.typ, .int .u16 s5.cls, .int .u32 s5.ttl, .slice dA5 s5.data.length dc5] 27)
            go_wp2_with fail
            refine (HFi.out 5 _ _ _ ((ho3.sets.ext hE4).ext hE5b)).mono ?_; rintro e w6 ⟨d6, rfl, ho6, hE6⟩
            rw [Hf6.out] at ho6 ⊢
            dsimp only [Option.getD, Option.isSome] at ho6 ⊢
            obtain ⟨dA6, dc6, rfl⟩ := ho6.strs.shape
            obtain ⟨b6, _, bz6⟩ := ext_new ((hEq4.trans hE5b).trans hE6)
            have b60 : w6.cell? ⟨w.heap.size, 0, none⟩ = some (S n) := b6 0
            have b61 : w6.cell? ⟨w.heap.size, 1, none⟩ = some (.int .u16 ty) := b6 1
            have hEw6 : Ext w w6 := (hEw4.trans hE5b).trans hE6
            clear b6 b52 b40 b41 b42
            obtain ⟨x6, _, xz6⟩ := ext_new hE6
            have x60 : w6.cell? ⟨w5.heap.size, 0, none⟩ = some (S s5.name) := x6 0
            have x61 : w6.cell? ⟨w5.heap.size, 1, none⟩ = some (.int .u16 s5.typ) := x6 1
            have x62 : w6.cell? ⟨w5.heap.size, 2, none⟩ = some (.int .u16 s5.cls) := x6 2
            have x63 : w6.cell? ⟨w5.heap.size, 3, none⟩ = some (.int .u32 s5.ttl) := x6 3
            have x64 : w6.cell? ⟨w5.heap.size, 4, none⟩ = some (.slice dA5 s5.data.length dc5) := x6 4
            have hE46 := hE5b.trans hE6
            have y60 := (hE46.cell (p := ⟨gu, 0, none⟩) hguz).trans yu0
            have y61 := (hE46.cell (p := ⟨gu, 1, none⟩) hguz).trans yu1
            have y62 := (hE46.cell (p := ⟨gu, 2, none⟩) hguz).trans yu2
            have y63 := (hE46.cell (p := ⟨gu, 3, none⟩) hguz).trans yu3
            have y64 := (hE46.cell (p := ⟨gu, 4, none⟩) hguz).trans yu4
            have hguz6 : gu < w6.heap.size := Nat.lt_of_lt_of_le hguz hE46.size
            clear x6
            go_wp2_with fail
            have HSm := Lib.hid (fun V (hV : Ext w6 V) => rrset_same s5 s5 _ _ _ _ V ((ho5.strs.ext (((Ext.refl w5).alloc _).trans hE6)).ext hV) ((hdu.strs.ext hE46).ext hV))
            rw [decide_eq_true rfl] at HSm
            go_region_held3 (fun V => V.cell? ⟨w5.heap.size, 0, none⟩ = some (S s5.name) ∧ V.cell? ⟨w5.heap.size, 1, none⟩ = some (.int .u16 s5.typ) ∧ V.cell? ⟨w5.heap.size, 2, none⟩ = some (.int .u16 s5.cls) ∧ V.cell? ⟨w5.heap.size, 3, none⟩ = some (.int .u32 s5.ttl) ∧ V.cell? ⟨w5.heap.size, 4, none⟩ = some (.slice dA5 s5.data.length dc5) ∧ V.cell? ⟨gu, 0, none⟩ = some (S s5.name) ∧ V.cell? ⟨gu, 1, none⟩ = some (.int .u16 s5.typ) ∧ V.cell? ⟨gu, 2, none⟩ = some (.int .u16 s5.cls) ∧ V.cell? ⟨gu, 3, none⟩ = some (.int .u32 s5.ttl) ∧ V.cell? ⟨gu, 4, none⟩ = some (.slice dAu s5.data.length dcu) ∧ V.cell? ⟨w.heap.size, 1, none⟩ = some (.int .u16 ty))
              (first | go_keep | (have hK : Ext w6 w7 := Ext.trans (by (repeat (first | with_reducible exact Ext.refl _ | with_reducible assumption | with_reducible refine Ext.alloc ?_ _ | with_reducible refine Ext.drewN ?_ _ | with_reducible refine Ext.drew ?_ | (with_reducible refine Ext.setCell ?_ ?hp _; case hp => (simp <;> omega))))) hE7; exact ⟨(hK.cell (p := ⟨w5.heap.size, 0, none⟩) xz6).trans x60, (hK.cell (p := ⟨w5.heap.size, 1, none⟩) xz6).trans x61, (hK.cell (p := ⟨w5.heap.size, 2, none⟩) xz6).trans x62, (hK.cell (p := ⟨w5.heap.size, 3, none⟩) xz6).trans x63, (hK.cell (p := ⟨w5.heap.size, 4, none⟩) xz6).trans x64, (hK.cell (p := ⟨gu, 0, none⟩) hguz6).trans y60, (hK.cell (p := ⟨gu, 1, none⟩) hguz6).trans y61, (hK.cell (p := ⟨gu, 2, none⟩) hguz6).trans y62, (hK.cell (p := ⟨gu, 3, none⟩) hguz6).trans y63, (hK.cell (p := ⟨gu, 4, none⟩) hguz6).trans y64, (hK.cell (p := ⟨w.heap.size, 1, none⟩) bz6).trans b61⟩))
              (first | (go_at_call 20; refine (HSm.out _ (by (repeat (first | with_reducible exact Ext.refl _ | with_reducible assumption | with_reducible refine Ext.alloc ?_ _ | with_reducible refine Ext.drewN ?_ _ | with_reducible refine Ext.drew ?_ | (with_reducible refine Ext.setCell ?_ ?hp _; case hp => (simp <;> omega)))))).mono ?_; rintro e w7 ⟨rfl, hE7⟩))
            have hK : Ext w6 w7 := Ext.trans (by (repeat (first | with_reducible exact Ext.refl _ | with_reducible assumption | with_reducible refine Ext.alloc ?_ _ | with_reducible refine Ext.drewN ?_ _ | with_reducible refine Ext.drew ?_ | (with_reducible refine Ext.setCell ?_ ?hp _; case hp => (simp <;> omega))))) hE7
            have b70 := (hK.cell (p := ⟨w.heap.size, 0, none⟩) bz6).trans b60
            have b71 := (hK.cell (p := ⟨w.heap.size, 1, none⟩) bz6).trans b61
            go_wp2_with fail
            refine (HNF.out _).mono ?_; rintro e w8 ⟨rfl, hE8⟩
            go_wp2_with fail
            go_ret
            exact ⟨ret_bool (by simp [Hpl.out.2]), (hEw6.trans hK).trans hE8⟩
          · have Hf6 := Lib.hid (hstop h5)
            have g1 : (ty == 5) = false := by rw [beq_eq_false_iff_ne]; exact h5
            have g2 : (ty != 5) = true := by rw [bne, g1]; rfl
            clear h5 hf hfin hstop hpl
            go_wp2_with fail
            refine (HFi.out ty _ _ _ (ho3.sets.ext hE4)).mono ?_; rintro e w5 ⟨d5, rfl, ho5, hE5⟩
            rw [Hf.out] at ho5 ⊢
            dsimp only [Option.getD, Option.isSome] at ho5 ⊢
            obtain ⟨dA5, dc5, rfl⟩ := ho5.strs.shape
            obtain ⟨b5, _, bz5⟩ := ext_new (hEq4.trans hE5)
            have b52 : w5.cell? ⟨w.heap.size, 2, none⟩ = some (.int .u16 cl) := b5 2
            clear b5
            have hE5b := hE5.alloc (.cells #[S s5.name, .int .u16 s5.typ, .int .u16 s5.cls, .int .u32 s5.ttl, .slice dA5 s5.data.length dc5] 27)
            go_wp2_with fail
            refine (HFi.out 5 _ _ _ ((ho3.sets.ext hE4).ext hE5b)).mono ?_; rintro e w6 ⟨d6, rfl, ho6, hE6⟩
            rw [Hf6.out] at ho6 ⊢
            dsimp only [Option.getD, Option.isSome] at ho6 ⊢
            obtain ⟨dA6, dc6, rfl⟩ := ho6.strs.shape
            obtain ⟨b6, _, bz6⟩ := ext_new ((hEq4.trans hE5b).trans hE6)
            have b60 : w6.cell? ⟨w.heap.size, 0, none⟩ = some (S n) := b6 0
            have b61 : w6.cell? ⟨w.heap.size, 1, none⟩ = some (.int .u16 ty) := b6 1
            have hEw6 : Ext w w6 := (hEw4.trans hE5b).trans hE6
            clear b6 b52 b40 b41 b42
            obtain ⟨x6, _, xz6⟩ := ext_new hE6
            have x60 : w6.cell? ⟨w5.heap.size, 0, none⟩ = some (S s5.name) := x6 0
            have x61 : w6.cell? ⟨w5.heap.size, 1, none⟩ = some (.int .u16 s5.typ) := x6 1
            have x62 : w6.cell? ⟨w5.heap.size, 2, none⟩ = some (.int .u16 s5.cls) := x6 2
            have x63 : w6.cell? ⟨w5.heap.size, 3, none⟩ = some (.int .u32 s5.ttl) := x6 3
            have x64 : w6.cell? ⟨w5.heap.size, 4, none⟩ = some (.slice dA5 s5.data.length dc5) := x6 4
            have hE46 := hE5b.trans hE6
            have y60 := (hE46.cell (p := ⟨gu, 0, none⟩) hguz).trans yu0
            have y61 := (hE46.cell (p := ⟨gu, 1, none⟩) hguz).trans yu1
            have y62 := (hE46.cell (p := ⟨gu, 2, none⟩) hguz).trans yu2
            have y63 := (hE46.cell (p := ⟨gu, 3, none⟩) hguz).trans yu3
            have y64 := (hE46.cell (p := ⟨gu, 4, none⟩) hguz).trans yu4
            have hguz6 : gu < w6.heap.size := Nat.lt_of_lt_of_le hguz hE46.size
            clear x6
            go_wp2_with fail
            have HSm := Lib.hid (fun V (hV : Ext w6 V) => rrset_same s5 s5 _ _ _ _ V ((ho5.strs.ext (((Ext.refl w5).alloc _).trans hE6)).ext hV) ((hdu.strs.ext hE46).ext hV))
            rw [decide_eq_true rfl] at HSm
            have hE6W : Ext w6 w6 := Ext.refl _
            have HK := Lib.hid (show ∀ V, Ext w6 V → V.cell? ⟨w5.heap.size, 0, none⟩ = some (S s5.name) ∧ V.cell? ⟨w5.heap.size, 1, none⟩ = some (.int .u16 s5.typ) ∧ V.cell? ⟨w5.heap.size, 2, none⟩ = some (.int .u16 s5.cls) ∧ V.cell? ⟨w5.heap.size, 3, none⟩ = some (.int .u32 s5.ttl) ∧ V.cell? ⟨w5.heap.size, 4, none⟩ = some (.slice dA5 s5.data.length dc5) ∧ V.cell? ⟨gu, 0, none⟩ = some (S s5.name) ∧ V.cell? ⟨gu, 1, none⟩ = some (.int .u16 s5.typ) ∧ V.cell? ⟨gu, 2, none⟩ = some (.int .u16 s5.cls) ∧ V.cell? ⟨gu, 3, none⟩ = some (.int .u32 s5.ttl) ∧ V.cell? ⟨gu, 4, none⟩ = some (.slice dAu s5.data.length dcu) from fun V hK => ⟨(hK.cell (p := ⟨w5.heap.size, 0, none⟩) xz6).trans x60, (hK.cell (p := ⟨w5.heap.size, 1, none⟩) xz6).trans x61, (hK.cell (p := ⟨w5.heap.size, 2, none⟩) xz6).trans x62, (hK.cell (p := ⟨w5.heap.size, 3, none⟩) xz6).trans x63, (hK.cell (p := ⟨w5.heap.size, 4, none⟩) xz6).trans x64, (hK.cell (p := ⟨gu, 0, none⟩) hguz6).trans y60, (hK.cell (p := ⟨gu, 1, none⟩) hguz6).trans y61, (hK.cell (p := ⟨gu, 2, none⟩) hguz6).trans y62, (hK.cell (p := ⟨gu, 3, none⟩) hguz6).trans y63, (hK.cell (p := ⟨gu, 4, none⟩) hguz6).trans y64⟩)
            refine wp_region_noPanic ?_
            refine wp_region_seq (S := (fun V => V.cell? ⟨w5.heap.size, 0, none⟩ = some (S s5.name) ∧ V.cell? ⟨w5.heap.size, 1, none⟩ = some (.int .u16 s5.typ) ∧ V.cell? ⟨w5.heap.size, 2, none⟩ = some (.int .u16 s5.cls) ∧ V.cell? ⟨w5.heap.size, 3, none⟩ = some (.int .u32 s5.ttl) ∧ V.cell? ⟨w5.heap.size, 4, none⟩ = some (.slice dA5 s5.data.length dc5) ∧ V.cell? ⟨gu, 0, none⟩ = some (S s5.name) ∧ V.cell? ⟨gu, 1, none⟩ = some (.int .u16 s5.typ) ∧ V.cell? ⟨gu, 2, none⟩ = some (.int .u16 s5.cls) ∧ V.cell? ⟨gu, 3, none⟩ = some (.int .u32 s5.ttl) ∧ V.cell? ⟨gu, 4, none⟩ = some (.slice dAu s5.data.length dcu))) [(0, true), (1, true), (2, true), (3, true), (4, true), (5, true), (6, true), (7, true), (8, true), (9, true), (10, true), (11, true), (12, false), (13, true), (14, true), (15, true), (16, true), (17, true), (18, true), (19, true), (20, true), (21, true), (22, true), (23, true)] (by kernel_rfl) (by kernel_rfl) (fun _ _ _ _ _ h => h) (HK.out _ (((Ext.refl w6).alloc _).drew)) ?_
            repeat ((with_reducible refine heldIs ?_); first
              | (refine heldTake (v := ?_) (by rfl) (by rfl) ?_ ?_; rotate_left; (focus (intro V hV; (try dsimp only at hV); (go_simp <;> with_reducible rfl))); (try simp only [Act.put, List.setIfInBounds_toArray, List.set_cons_zero, List.set_cons_succ]))
              | (refine heldSkip (by rfl) (by rfl) ?_; (try simp only [Act.put, List.setIfInBounds_toArray, List.set_cons_zero, List.set_cons_succ])))
            refine heldRun (by rfl) (fun K hK => ?_)
            go_simp
            refine (HSm.out _ (((Ext.refl w6).alloc _).drew)).mono ?_; rintro e w7 ⟨rfl, hE7⟩
            refine hK.out _ _ ?_ ?_
            · exact HK.out _ (Ext.trans (((Ext.refl w6).alloc _).drew) hE7)
            clear hK K
            (try simp only [Act.put, List.setIfInBounds_toArray, List.set_cons_zero, List.set_cons_succ])
            repeat ((with_reducible refine heldIs ?_); first
              | (refine heldTake (v := ?_) (by rfl) (by rfl) ?_ ?_; rotate_left; (focus (intro V hV; (try dsimp only at hV); (go_simp <;> with_reducible rfl))); (try simp only [Act.put, List.setIfInBounds_toArray, List.set_cons_zero, List.set_cons_succ]))
              | (refine heldSkip (by rfl) (by rfl) ?_; (try simp only [Act.put, List.setIfInBounds_toArray, List.set_cons_zero, List.set_cons_succ])))
            refine heldDone ?_
            refine NoPanic.normal ?_
            have hK : Ext w6 w7 := Ext.trans (((Ext.refl w6).alloc _).drew) hE7
            have b70 := (hK.cell (p := ⟨w.heap.size, 0, none⟩) bz6).trans b60
            have b71 := (hK.cell (p := ⟨w.heap.size, 1, none⟩) bz6).trans b61
            go_wp2_with fail
            go_ret
            exact ⟨rfl, hEw6.trans hK⟩
      · have f1 : ((err : Int) == 0) = false := by rw [beq_eq_false_iff_ne]; omega
        have f2 : ((err : Int) != 0) = true := by rw [bne, f1]; rfl
        obtain ⟨uA, uc, rfl, hu1, hu2⟩ := hu4.shape
        by_cases h5 : ty = 5
        · have he1 : err = 1 := by
            rcases HF0.out.cn h5 with h | h
            · exact absurd h he
            · exact h
          subst he1
          have g1 : (ty == 5) = true := by rw [beq_iff_eq]; exact h5
          have g2 : (ty != 5) = false := by rw [bne, g1]; rfl
          clear h5 he
          go_wp2_with fail
          go_ret
          exact ⟨rfl, hEw4⟩
        · have g1 : (ty == 5) = false := by rw [beq_eq_false_iff_ne]; exact h5
          have g2 : (ty != 5) = true := by rw [bne, g1]; rfl
          clear h5 he
          go_wp2_with fail
          go_ret
          exact ⟨rfl, hEw4⟩
    · have hqi : (1000 : Int) < (n.length : Int) := by omega
      go_enter Tryz.func14, Tryz.ntmps14
      go_wp2_with fail
      refine (HL.out _ ((Ext.refl _).alloc _)).mono ?_; rintro e w1 ⟨rfl, hE1⟩
      obtain ⟨b1, _, bz1⟩ := ext_new hE1
      have b10 : w1.cell? ⟨w.heap.size, 0, none⟩ = some (S n) := b1 0
      clear b1
      go_wp2_with fail
      refine (HA.out _ (((Ext.refl _).alloc _).trans hE1)).mono ?_; rintro e w2 ⟨rfl, hE2⟩
      go_wp2_with fail
      go_ret
      exact ⟨rfl, (((Ext.refl _).alloc _).trans hE1).trans hE2⟩
  · rw [hlg] at HL
    clear hlg
    go_enter Tryz.func14, Tryz.ntmps14
    go_wp2_with fail
    refine (HL.out _ ((Ext.refl _).alloc _)).mono ?_; rintro e w1 ⟨rfl, hE1⟩
    go_wp2_with fail
    refine (HA.out _ (((Ext.refl _).alloc _).trans hE1)).mono ?_; rintro e w2 ⟨rfl, hE2⟩
    go_wp2_with fail
    go_ret
    exact ⟨rfl, (((Ext.refl _).alloc _).trans hE1).trans hE2⟩
end Go.Proofs.YthdlgmfeicikpaaGreatDoor
namespace Go.Proofs.YthdlgmfeicikpaaGreatDoor
set_option linter.unusedSimpArgs false
set_option linter.unusedVariables false
open Go.ChangeShapes Go.WideShapes Go.ChangeAt Go.RowKit
set_option maxRecDepth 100000

theorem chainEnd_contract (H : Type) (enc : TypeId × Value → H) (W : World) (base : Nat) (args : Array Value) (ds gs : List (DataW H)) (before : List MemPlace)
    (hval : ∀ (j : Nat) t v, Tryz.f14.params[j]? = some t → args[j]? = some v → Value.okWide Tryz.prog W .any base t v)
    (hW : DataW.Whole enc Tryz.prog Tryz.f14.params.toList Rows.chainEndSpec.vars false W args.toList ds gs before)
    (hsz : (DataW.weightsEach Tryz.prog (Tryz.f14.params.toList ++ (OpenSpec.ofChange Rows.chainEndSpec).bare.plain.varTypes Tryz.prog) (ds ++ gs)).all (· ≤ reachBytes) = true)
    (hL : laidMetH Tryz.prog laidL W) :
    Calls Tryz.prog 14 args W fun e W' => ∃ v, e = .returned v ∧ Rows.chainEndSpec.post enc Tryz.prog Tryz.f14 false true false false W args v W' := by
  have hW' := hW
  have hp : ∀ t ∈ Tryz.f14.params.toList, Tryz.prog.readableRec t = true ∧ t < Tryz.prog.types.size := by
    have h : (Tryz.f14.params.toList.all fun t => Tryz.prog.readableRec t && decide (t < Tryz.prog.types.size)) = true := by kernel_rfl
    simpa only [List.all_eq_true, Bool.and_eq_true, decide_eq_true_eq] using h
  have hg := laid_of hL
  obtain ⟨p, q, hA0, hV, rfl, _, _⟩ := hW
  have hA : DataW.TrodAll enc Tryz.prog W 0 (fun _ => true) true Tryz.f14.params.toList args.toList ds p := hA0
  clear hA0
  rw [Tryz.params14] at hA hval hsz
  obtain ⟨rfl, rfl⟩ := trodVars_none hV
  obtain ⟨v0, v1, d0, d1, p0, p1, rfl, rfl, rfl, h0, h1⟩ := trodAll_two hA
  obtain ⟨n, ty, cl, rfl, hn, _, _⟩ := open_question (hval 0 _ _ rfl rfl) h0
  obtain ⟨l, hr, hok⟩ := open_recs (hval 1 _ _ rfl rfl) h1
  refine (law_chainEnd n ty cl v1 l W hg hr hok hn).mono ?_
  rintro e W' ⟨rfl, hE⟩
  exact ⟨_, rfl, post_true laid_out rfl (by kernel_rfl) Tryz.underlying4 hp hW' rfl hE⟩

theorem chainEnd_reads (os : Os) {H : Type} (enc : TypeId × Value → H) : ∃ places, DataW.whole enc Tryz.prog ((laidWorld os).forCall (fun _ _ => 0) ⟨#[], #[.agg #[.string ⟨#[]⟩, .int .u16 0, .int .u16 0], .slice none 0 0], []⟩).memory Tryz.f14.params.toList Rows.chainEndSpec.vars false (#[.agg #[.string ⟨#[]⟩, .int .u16 0, .int .u16 0], .slice none 0 0] : Array Value).toList 8 = some ([.agg [.lit (.string []), .lit (.int .u16 0), .lit (.int .u16 0)], .nil], [], places) :=
  ⟨[], by kernel_rfl⟩
theorem chainEnd_lifted (os : Os) (started : os.Started) (H : Type) (enc : TypeId × Value → H) (F : Stop.Interp) :
    ReturnsInHanded {} Tryz.checked os 14 .any ((OpenSpec.ofChange Rows.chainEndSpec).preRow enc Tryz.prog Tryz.f14 Rows.chainEndRow.domain false Rows.chainEndRow.laid) (((OpenSpec.ofChange Rows.chainEndSpec).at F).post enc Tryz.prog Tryz.f14 false true false false) := by
  obtain ⟨places, hx⟩ := chainEnd_reads os enc
  refine returnsInHanded_of_row (C := Tryz.checked) (s := OpenSpec.ofChange Rows.chainEndSpec) own_knob started (by kernel_rfl) Tryz.func14
    (witness_row_at (enc := enc) (C := Tryz.checked) false (laidWorld os) #[.agg #[.string ⟨#[]⟩, .int .u16 0, .int .u16 0], .slice none 0 0] rfl (by kernel_rfl) (by kernel_rfl) (by kernel_rfl)
      (OpenSpec.preRow_of_cond 8 hx (by kernel_rfl) (fun k hk => by cases hk) (by kernel_rfl) (laid_met os _))) ?_
  intro W base args ds gs before hval hW _ _ hsz hL _ _
  exact chainEnd_contract H enc W base args ds gs before hval hW hsz hL
theorem chainEnd_said : Rows.ChainEndSaid :=
  OpenClaim.holds_of_cond 14 Tryz.f14 rfl rfl rfl rfl rfl rfl rfl ⟨rfl, rfl, rfl, rfl, rfl⟩ rfl rfl rfl rfl rfl (by kernel_rfl) Tryz.func14 (by kernel_rfl)
    (of_decide_eq_true (by kernel_rfl)) (by unfold Func.isWrapper; first | (rw [if_pos (by decide +kernel)]; kernel_rfl) | (rw [if_neg (by decide +kernel)]; exact ⟨rfl, rfl⟩))
    (fun os started H enc _ F => by rw [OpenClaim.pre_eq_preRow]; exact chainEnd_lifted os started H enc F)
/-- THE CARD. -/
theorem chainEnd_card : Rows.ChainEndCardSaid :=
  Claim7.holds_tied_plain_at .later [] _ _ _ _ chainEnd_said (fun _ h => by cases h) (by kernel_rfl) (fun _ h => by cases h) chainEnd_row_tie rfl ⟨rfl, rfl⟩ (by kernel_rfl) rfl
    (fun f fn hf hfn => by
      obtain rfl : f = 14 := Option.some.inj ((show Tryz.prog.funcNamed Rows.chainEndRow.func = some 14 by kernel_rfl).symm.trans hf) |>.symm
      obtain rfl : fn = Tryz.f14 := (Option.some.inj (Tryz.func14.symm.trans hfn)).symm
      refine ⟨by kernel_rfl, fun j t ht => ?_⟩
      have h : (Tryz.f14.params.toList.all fun t => !Tryz.prog.wantsStandIn t) = true := by kernel_rfl
      have h2 := List.all_eq_true.1 h t (by simpa using Array.mem_of_getElem? ht)
      exact (by simpa using h2 : Tryz.prog.wantsStandIn t = false))
    (by kernel_rfl)
#print axioms chainEnd_card
end Go.Proofs.YthdlgmfeicikpaaGreatDoor
