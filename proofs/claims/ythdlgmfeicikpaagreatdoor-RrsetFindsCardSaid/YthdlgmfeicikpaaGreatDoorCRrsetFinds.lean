/- hustingslaw08.RrsetFinds returns true for every input, and every argument reads behind the call as it read before; the listed variable (errors.errorType) is tied to the program's text. No condition of ours. -/
import Derived.Test.YthdlgmfeicikpaaGreatDoorBm
import Derived.Test.YthdlgmfeicikpaaGreatDoorBn
import Derived.Test.YthdlgmfeicikpaaGreatDoorBg
namespace Go.Proofs.YthdlgmfeicikpaaGreatDoor
set_option linter.unusedSimpArgs false
set_option linter.unusedVariables false
open Go.RowKit
set_option maxRecDepth 100000

theorem sets_lit2 (w : World) (g : Nat) (hg : g = w.heap.size) (s t : SetD) (dv ev : Value) (h : Strs w 0 dv s.data) (k : Strs w 0 ev t.data) : Sets (w.alloc (.cells (setCells (s, dv) ++ setCells (t, ev)).toArray 27)) 0 (.slice (some ⟨g, 0, none⟩) 2 2) [s, t] :=
  ⟨[(s, dv), (t, ev)], _, _, rfl, rfl, Nat.le_refl _, by unfold maxLen; omega, rd_new w g hg _ _ 2 5 rfl, fun p hp => by
    rcases List.mem_cons.1 hp with rfl | hp
    · exact h.ext ((Ext.refl _).alloc _)
    · rw [List.mem_singleton] at hp; subst hp; exact k.ext ((Ext.refl _).alloc _)⟩

set_option maxHeartbeats 8000000 in
theorem law_rrsetFinds (l : List SetD) (v : Value) (n : List UInt8) (ty cl : Int) (sa sb : SetD) (da db : Value) (w : World) (hg : Laid w) (hl : Sets w 0 v l) (hlo : ∀ s ∈ l, SetRe s) (hn : n.length ≤ maxLen)
    (hda : Strs w 0 da sa.data) (hdb : Strs w 0 db sb.data) (hra : SetRe sa) (hrb : SetRe sb) :
    Calls Tryz.prog 3 #[v, S n, .int .u16 ty, .int .u16 cl, setVal sa da, setVal sb db] w fun e w' => e = .returned (.bool true) ∧ Ext w w' := by
  have HL := Lib.hid (fun W (hW : Ext w W) => law_longSets 0 v l W (hl.ext hW) hlo)
  have HL2 := Lib.hid (fun W v (hW : Sets W 0 v [sa, sb]) => law_longSets 0 v [sa, sb] W hW (by intro s hs; rcases List.mem_cons.1 hs with rfl | hs; exact hra; rw [List.mem_singleton] at hs; subst hs; exact hrb))
  have HA := Lib.hid (fun W (hW : Ext w W) => law8_awake W (hg.ext hW))
  obtain ⟨aA, ac, rfl⟩ := hda.shape
  obtain ⟨bA, bc, rfl⟩ := hdb.shape
  have Hl := Lib.hid hl
  clear hl
  unfold maxLen at hn
  rcases hb1 : longSB l with _ | _
  · rcases hb2 : longSB [sa, sb] with _ | _
    · by_cases hn3 : n.length ≤ 3000
      · have hni : ¬ (3000 : Int) < (n.length : Int) := by omega
        have hnd : decide ((3000 : Int) < (n.length : Int)) = false := by simpa using hni
        have hsb := setsBd8 hb1
        rw [hb1] at HL
        rw [hb2] at HL2
        have HF := Lib.hid (fun W (hW : Ext w W) => rrset_find 0 v l n ty cl W (Hl.out.ext hW) hsb (by omega))
        have HFr := Lib.hid (fun W (hW : Ext w W) => ref_find 0 v l n ty cl w W Hl.out hW hsb (by omega))
        generalize findS l n ty cl = fo at *
        clear hb1 hb2 hsb
        go_enter Tryz.func3, Tryz.ntmps3
        go_wp2_with fail
        refine (HL.out _ (((Ext.refl w).alloc _).alloc _)).mono ?_; rintro e w1 ⟨rfl, rfl⟩
        go_wp2_with fail
        refine (HL2.out _ _ (sets_lit2 _ _ (by simp) sa sb _ _ (hda.ext (((Ext.refl w).alloc _).alloc _)) (hdb.ext (((Ext.refl w).alloc _).alloc _)))).mono ?_; rintro e w2 ⟨rfl, rfl⟩
        go_wp2_with fail
        refine (HF.out _ ((((Ext.refl w).alloc _).alloc _).alloc _)).mono ?_; rintro e w4 ⟨d4, rfl, ho4, hE4⟩
        obtain ⟨r, hr⟩ : ∃ r, r = fo.getD SetD.zero := ⟨_, rfl⟩
        rw [← hr] at ho4 ⊢
        have Hr := Lib.hid hr
        clear hr
        obtain ⟨xA, xc, rfl⟩ := ho4.strs.shape
        obtain ⟨ca, _, zo⟩ := ext_new_at w.heap.size rfl ((((Ext.refl _).alloc _).alloc _).trans hE4)
        obtain ⟨cb, _, zb⟩ := ext_new_at (w.heap.size + 1) (by simp) (((Ext.refl _).alloc _).trans hE4)
        have hEw4 : Ext w w4 := ((((Ext.refl w).alloc _).alloc _).alloc _).trans hE4
        clear hE4
        go_wp2_with fail
        refine (HFr.out _ (hEw4.alloc _)).mono ?_; rintro e w5 ⟨d5, rfl, hs5, hE5⟩
        rw [← Hr.out] at hs5 ⊢
        obtain ⟨yA, yc, rfl⟩ := hs5.shape
        have hE45 : Ext w4 w5 := ((Ext.refl _).alloc _).trans hE5
        have H4 := Lib.hid (ho4.strs.ext hE45)
        have H5 := Lib.hid ((hs5.ext hEw4).ext hE45)
        clear hs5
        obtain ⟨cx, _, zx⟩ := ext_new_at w4.heap.size rfl hE5
        clear hE5
        obtain ⟨X, hX⟩ : ∃ X, X = w5.alloc (.cells #[S r.name, .int .u16 r.typ, .int .u16 r.cls, .int .u32 r.ttl, .slice yA r.data.length yc] 27) := ⟨_, rfl⟩
        have hExX : Ext w5 X := by rw [hX]; exact (Ext.refl _).alloc _
        obtain ⟨cy, _, zy⟩ := ext_new_at w5.heap.size rfl (show Ext (w5.alloc _) X by rw [hX]; exact Ext.refl _)
        have hEoX := hE45.trans hExX
        have hEwX := hEw4.trans hEoX
        have HSX := Lib.hid (show ∀ V, Ext X V → V.cell? ⟨w.heap.size, 0, none⟩ = some (S sa.name) ∧ V.cell? ⟨w.heap.size, 1, none⟩ = some (.int .u16 sa.typ) ∧ V.cell? ⟨w.heap.size, 2, none⟩ = some (.int .u16 sa.cls) ∧ V.cell? ⟨w.heap.size, 3, none⟩ = some (.int .u32 sa.ttl) ∧ V.cell? ⟨w.heap.size, 4, none⟩ = some (.slice aA sa.data.length ac) ∧ V.cell? ⟨w.heap.size + 1, 0, none⟩ = some (S sb.name) ∧ V.cell? ⟨w.heap.size + 1, 1, none⟩ = some (.int .u16 sb.typ) ∧ V.cell? ⟨w.heap.size + 1, 2, none⟩ = some (.int .u16 sb.cls) ∧ V.cell? ⟨w.heap.size + 1, 3, none⟩ = some (.int .u32 sb.ttl) ∧ V.cell? ⟨w.heap.size + 1, 4, none⟩ = some (.slice bA sb.data.length bc) ∧ V.cell? ⟨w4.heap.size, 0, none⟩ = some (S r.name) ∧ V.cell? ⟨w4.heap.size, 1, none⟩ = some (.int .u16 r.typ) ∧ V.cell? ⟨w4.heap.size, 2, none⟩ = some (.int .u16 r.cls) ∧ V.cell? ⟨w4.heap.size, 3, none⟩ = some (.int .u32 r.ttl) ∧ V.cell? ⟨w4.heap.size, 4, none⟩ = some (.slice xA r.data.length xc) ∧ V.cell? ⟨w5.heap.size, 0, none⟩ = some (S r.name) ∧ V.cell? ⟨w5.heap.size, 1, none⟩ = some (.int .u16 r.typ) ∧ V.cell? ⟨w5.heap.size, 2, none⟩ = some (.int .u16 r.cls) ∧ V.cell? ⟨w5.heap.size, 3, none⟩ = some (.int .u32 r.ttl) ∧ V.cell? ⟨w5.heap.size, 4, none⟩ = some (.slice yA r.data.length yc) from fun V hV => ⟨((hEoX.trans hV).cell (p := ⟨w.heap.size, 0, none⟩) zo).trans (ca 0), ((hEoX.trans hV).cell (p := ⟨w.heap.size, 1, none⟩) zo).trans (ca 1), ((hEoX.trans hV).cell (p := ⟨w.heap.size, 2, none⟩) zo).trans (ca 2), ((hEoX.trans hV).cell (p := ⟨w.heap.size, 3, none⟩) zo).trans (ca 3), ((hEoX.trans hV).cell (p := ⟨w.heap.size, 4, none⟩) zo).trans (ca 4), ((hEoX.trans hV).cell (p := ⟨w.heap.size + 1, 0, none⟩) zb).trans (cb 0), ((hEoX.trans hV).cell (p := ⟨w.heap.size + 1, 1, none⟩) zb).trans (cb 1), ((hEoX.trans hV).cell (p := ⟨w.heap.size + 1, 2, none⟩) zb).trans (cb 2), ((hEoX.trans hV).cell (p := ⟨w.heap.size + 1, 3, none⟩) zb).trans (cb 3), ((hEoX.trans hV).cell (p := ⟨w.heap.size + 1, 4, none⟩) zb).trans (cb 4), ((hExX.trans hV).cell (p := ⟨w4.heap.size, 0, none⟩) zx).trans (cx 0), ((hExX.trans hV).cell (p := ⟨w4.heap.size, 1, none⟩) zx).trans (cx 1), ((hExX.trans hV).cell (p := ⟨w4.heap.size, 2, none⟩) zx).trans (cx 2), ((hExX.trans hV).cell (p := ⟨w4.heap.size, 3, none⟩) zx).trans (cx 3), ((hExX.trans hV).cell (p := ⟨w4.heap.size, 4, none⟩) zx).trans (cx 4), (hV.cell (p := ⟨w5.heap.size, 0, none⟩) zy).trans (cy 0), (hV.cell (p := ⟨w5.heap.size, 1, none⟩) zy).trans (cy 1), (hV.cell (p := ⟨w5.heap.size, 2, none⟩) zy).trans (cy 2), (hV.cell (p := ⟨w5.heap.size, 3, none⟩) zy).trans (cy 3), (hV.cell (p := ⟨w5.heap.size, 4, none⟩) zy).trans (cy 4)⟩)
        have HXY := Lib.hid (fun V (hV : Ext X V) => ref_sameSet r r (.slice xA r.data.length xc) (.slice yA r.data.length yc) _ _ V ((H4.out.ext hExX).ext hV) ((H5.out.ext hExX).ext hV))
        rw [decide_eq_true rfl] at HXY
        have HAB := Lib.hid (fun V (hV : Ext X V) => rrset_same sa sb (.slice aA sa.data.length ac) (.slice bA sb.data.length bc) _ _ V ((hda.ext hEwX).ext hV) ((hdb.ext hEwX).ext hV))
        have HABr := Lib.hid (fun V (hV : Ext X V) => ref_sameSet sa sb (.slice aA sa.data.length ac) (.slice bA sb.data.length bc) _ _ V ((hda.ext hEwX).ext hV) ((hdb.ext hEwX).ext hV))
        have HAA := Lib.hid (fun V (hV : Ext X V) => rrset_same sa sa (.slice aA sa.data.length ac) (.slice aA sa.data.length ac) _ _ V ((hda.ext hEwX).ext hV) ((hda.ext hEwX).ext hV))
        rw [decide_eq_true rfl] at HAA
        generalize decide (sa = sb) = q at *
        clear ca cb cx cy ho4 Hr
        rcases fo with _ | so
        · dsimp only [Option.isSome]
          rcases q with _ | _
          all_goals
            go_wp2_with fail
            rw [← hX]
            clear hX
            have g1 := True.intro
            go_region_held3 (fun V => V.cell? ⟨w.heap.size, 0, none⟩ = some (S sa.name) ∧ V.cell? ⟨w.heap.size, 1, none⟩ = some (.int .u16 sa.typ) ∧ V.cell? ⟨w.heap.size, 2, none⟩ = some (.int .u16 sa.cls) ∧ V.cell? ⟨w.heap.size, 3, none⟩ = some (.int .u32 sa.ttl) ∧ V.cell? ⟨w.heap.size, 4, none⟩ = some (.slice aA sa.data.length ac) ∧ V.cell? ⟨w.heap.size + 1, 0, none⟩ = some (S sb.name) ∧ V.cell? ⟨w.heap.size + 1, 1, none⟩ = some (.int .u16 sb.typ) ∧ V.cell? ⟨w.heap.size + 1, 2, none⟩ = some (.int .u16 sb.cls) ∧ V.cell? ⟨w.heap.size + 1, 3, none⟩ = some (.int .u32 sb.ttl) ∧ V.cell? ⟨w.heap.size + 1, 4, none⟩ = some (.slice bA sb.data.length bc) ∧ V.cell? ⟨w4.heap.size, 0, none⟩ = some (S r.name) ∧ V.cell? ⟨w4.heap.size, 1, none⟩ = some (.int .u16 r.typ) ∧ V.cell? ⟨w4.heap.size, 2, none⟩ = some (.int .u16 r.cls) ∧ V.cell? ⟨w4.heap.size, 3, none⟩ = some (.int .u32 r.ttl) ∧ V.cell? ⟨w4.heap.size, 4, none⟩ = some (.slice xA r.data.length xc) ∧ V.cell? ⟨w5.heap.size, 0, none⟩ = some (S r.name) ∧ V.cell? ⟨w5.heap.size, 1, none⟩ = some (.int .u16 r.typ) ∧ V.cell? ⟨w5.heap.size, 2, none⟩ = some (.int .u16 r.cls) ∧ V.cell? ⟨w5.heap.size, 3, none⟩ = some (.int .u32 r.ttl) ∧ V.cell? ⟨w5.heap.size, 4, none⟩ = some (.slice yA r.data.length yc)) (exact HSX.out _ (by (repeat (first | with_reducible exact Ext.refl _ | with_reducible assumption | with_reducible refine Ext.alloc ?_ _ | with_reducible refine Ext.drewN ?_ _ | with_reducible refine Ext.drew ?_ | (with_reducible refine Ext.setCell ?_ ?hp _; case hp => (simp <;> omega))))))
              (first
                | (go_at_call 19; (with_reducible refine (HXY.out _ (by (repeat (first | with_reducible exact Ext.refl _ | with_reducible assumption | with_reducible refine Ext.alloc ?_ _ | with_reducible refine Ext.drewN ?_ _ | with_reducible refine Ext.drew ?_ | (with_reducible refine Ext.setCell ?_ ?hp _; case hp => (simp <;> omega)))))).mono ?_); rintro e wa ⟨rfl, hEa⟩; have hXa : Ext X wa := Ext.trans (by (repeat (first | with_reducible exact Ext.refl _ | with_reducible assumption | with_reducible refine Ext.alloc ?_ _ | with_reducible refine Ext.drewN ?_ _ | with_reducible refine Ext.drew ?_ | (with_reducible refine Ext.setCell ?_ ?hp _; case hp => (simp <;> omega))))) hEa)
                | (go_at_call 20; (with_reducible refine (HAB.out _ (by (repeat (first | with_reducible exact Ext.refl _ | with_reducible assumption | with_reducible refine Ext.alloc ?_ _ | with_reducible refine Ext.drewN ?_ _ | with_reducible refine Ext.drew ?_ | (with_reducible refine Ext.setCell ?_ ?hp _; case hp => (simp <;> omega)))))).mono ?_); rintro e wb ⟨rfl, hEb⟩; have hXb : Ext X wb := Ext.trans (by (repeat (first | with_reducible exact Ext.refl _ | with_reducible assumption | with_reducible refine Ext.alloc ?_ _ | with_reducible refine Ext.drewN ?_ _ | with_reducible refine Ext.drew ?_ | (with_reducible refine Ext.setCell ?_ ?hp _; case hp => (simp <;> omega))))) hEb)
                | (go_at_call 19; (with_reducible refine (HABr.out _ (by (repeat (first | with_reducible exact Ext.refl _ | with_reducible assumption | with_reducible refine Ext.alloc ?_ _ | with_reducible refine Ext.drewN ?_ _ | with_reducible refine Ext.drew ?_ | (with_reducible refine Ext.setCell ?_ ?hp _; case hp => (simp <;> omega)))))).mono ?_); rintro e wc ⟨rfl, hEc⟩; have hXc : Ext X wc := Ext.trans (by (repeat (first | with_reducible exact Ext.refl _ | with_reducible assumption | with_reducible refine Ext.alloc ?_ _ | with_reducible refine Ext.drewN ?_ _ | with_reducible refine Ext.drew ?_ | (with_reducible refine Ext.setCell ?_ ?hp _; case hp => (simp <;> omega))))) hEc)
                | (go_at_call 20; (with_reducible refine (HAA.out _ (by (repeat (first | with_reducible exact Ext.refl _ | with_reducible assumption | with_reducible refine Ext.alloc ?_ _ | with_reducible refine Ext.drewN ?_ _ | with_reducible refine Ext.drew ?_ | (with_reducible refine Ext.setCell ?_ ?hp _; case hp => (simp <;> omega)))))).mono ?_); rintro e wd ⟨rfl, hEd⟩; have hXd : Ext X wd := Ext.trans (by (repeat (first | with_reducible exact Ext.refl _ | with_reducible assumption | with_reducible refine Ext.alloc ?_ _ | with_reducible refine Ext.drewN ?_ _ | with_reducible refine Ext.drew ?_ | (with_reducible refine Ext.setCell ?_ ?hp _; case hp => (simp <;> omega))))) hEd)
                | (go_at_call 16; (with_reducible refine (HA.out _ (hEwX.trans (by (repeat (first | with_reducible exact Ext.refl _ | with_reducible assumption | with_reducible refine Ext.alloc ?_ _ | with_reducible refine Ext.drewN ?_ _ | with_reducible refine Ext.drew ?_ | (with_reducible refine Ext.setCell ?_ ?hp _; case hp => (simp <;> omega))))))).mono ?_); rintro e wz ⟨rfl, hEz⟩; have hXz : Ext X wz := Ext.trans (by (repeat (first | with_reducible exact Ext.refl _ | with_reducible assumption | with_reducible refine Ext.alloc ?_ _ | with_reducible refine Ext.drewN ?_ _ | with_reducible refine Ext.drew ?_ | (with_reducible refine Ext.setCell ?_ ?hp _; case hp => (simp <;> omega))))) hEz))
            all_goals
              go_wp2_with fail
              go_ret
              exact ⟨rfl, hEwX.trans hXz⟩
        · dsimp only [Option.isSome]
          rcases q with _ | _
          all_goals
            go_wp2_with fail
            rw [← hX]
            clear hX
            have g1 := True.intro
            go_region_held3 (fun V => V.cell? ⟨w.heap.size, 0, none⟩ = some (S sa.name) ∧ V.cell? ⟨w.heap.size, 1, none⟩ = some (.int .u16 sa.typ) ∧ V.cell? ⟨w.heap.size, 2, none⟩ = some (.int .u16 sa.cls) ∧ V.cell? ⟨w.heap.size, 3, none⟩ = some (.int .u32 sa.ttl) ∧ V.cell? ⟨w.heap.size, 4, none⟩ = some (.slice aA sa.data.length ac) ∧ V.cell? ⟨w.heap.size + 1, 0, none⟩ = some (S sb.name) ∧ V.cell? ⟨w.heap.size + 1, 1, none⟩ = some (.int .u16 sb.typ) ∧ V.cell? ⟨w.heap.size + 1, 2, none⟩ = some (.int .u16 sb.cls) ∧ V.cell? ⟨w.heap.size + 1, 3, none⟩ = some (.int .u32 sb.ttl) ∧ V.cell? ⟨w.heap.size + 1, 4, none⟩ = some (.slice bA sb.data.length bc) ∧ V.cell? ⟨w4.heap.size, 0, none⟩ = some (S r.name) ∧ V.cell? ⟨w4.heap.size, 1, none⟩ = some (.int .u16 r.typ) ∧ V.cell? ⟨w4.heap.size, 2, none⟩ = some (.int .u16 r.cls) ∧ V.cell? ⟨w4.heap.size, 3, none⟩ = some (.int .u32 r.ttl) ∧ V.cell? ⟨w4.heap.size, 4, none⟩ = some (.slice xA r.data.length xc) ∧ V.cell? ⟨w5.heap.size, 0, none⟩ = some (S r.name) ∧ V.cell? ⟨w5.heap.size, 1, none⟩ = some (.int .u16 r.typ) ∧ V.cell? ⟨w5.heap.size, 2, none⟩ = some (.int .u16 r.cls) ∧ V.cell? ⟨w5.heap.size, 3, none⟩ = some (.int .u32 r.ttl) ∧ V.cell? ⟨w5.heap.size, 4, none⟩ = some (.slice yA r.data.length yc)) (exact HSX.out _ (by (repeat (first | with_reducible exact Ext.refl _ | with_reducible assumption | with_reducible refine Ext.alloc ?_ _ | with_reducible refine Ext.drewN ?_ _ | with_reducible refine Ext.drew ?_ | (with_reducible refine Ext.setCell ?_ ?hp _; case hp => (simp <;> omega))))))
              (first
                | (go_at_call 19; (with_reducible refine (HXY.out _ (by (repeat (first | with_reducible exact Ext.refl _ | with_reducible assumption | with_reducible refine Ext.alloc ?_ _ | with_reducible refine Ext.drewN ?_ _ | with_reducible refine Ext.drew ?_ | (with_reducible refine Ext.setCell ?_ ?hp _; case hp => (simp <;> omega)))))).mono ?_); rintro e wa ⟨rfl, hEa⟩; have hXa : Ext X wa := Ext.trans (by (repeat (first | with_reducible exact Ext.refl _ | with_reducible assumption | with_reducible refine Ext.alloc ?_ _ | with_reducible refine Ext.drewN ?_ _ | with_reducible refine Ext.drew ?_ | (with_reducible refine Ext.setCell ?_ ?hp _; case hp => (simp <;> omega))))) hEa)
                | (go_at_call 20; (with_reducible refine (HAB.out _ (by (repeat (first | with_reducible exact Ext.refl _ | with_reducible assumption | with_reducible refine Ext.alloc ?_ _ | with_reducible refine Ext.drewN ?_ _ | with_reducible refine Ext.drew ?_ | (with_reducible refine Ext.setCell ?_ ?hp _; case hp => (simp <;> omega)))))).mono ?_); rintro e wb ⟨rfl, hEb⟩; have hXb : Ext X wb := Ext.trans (by (repeat (first | with_reducible exact Ext.refl _ | with_reducible assumption | with_reducible refine Ext.alloc ?_ _ | with_reducible refine Ext.drewN ?_ _ | with_reducible refine Ext.drew ?_ | (with_reducible refine Ext.setCell ?_ ?hp _; case hp => (simp <;> omega))))) hEb)
                | (go_at_call 19; (with_reducible refine (HABr.out _ (by (repeat (first | with_reducible exact Ext.refl _ | with_reducible assumption | with_reducible refine Ext.alloc ?_ _ | with_reducible refine Ext.drewN ?_ _ | with_reducible refine Ext.drew ?_ | (with_reducible refine Ext.setCell ?_ ?hp _; case hp => (simp <;> omega)))))).mono ?_); rintro e wc ⟨rfl, hEc⟩; have hXc : Ext X wc := Ext.trans (by (repeat (first | with_reducible exact Ext.refl _ | with_reducible assumption | with_reducible refine Ext.alloc ?_ _ | with_reducible refine Ext.drewN ?_ _ | with_reducible refine Ext.drew ?_ | (with_reducible refine Ext.setCell ?_ ?hp _; case hp => (simp <;> omega))))) hEc)
                | (go_at_call 20; (with_reducible refine (HAA.out _ (by (repeat (first | with_reducible exact Ext.refl _ | with_reducible assumption | with_reducible refine Ext.alloc ?_ _ | with_reducible refine Ext.drewN ?_ _ | with_reducible refine Ext.drew ?_ | (with_reducible refine Ext.setCell ?_ ?hp _; case hp => (simp <;> omega)))))).mono ?_); rintro e wd ⟨rfl, hEd⟩; have hXd : Ext X wd := Ext.trans (by (repeat (first | with_reducible exact Ext.refl _ | with_reducible assumption | with_reducible refine Ext.alloc ?_ _ | with_reducible refine Ext.drewN ?_ _ | with_reducible refine Ext.drew ?_ | (with_reducible refine Ext.setCell ?_ ?hp _; case hp => (simp <;> omega))))) hEd)
                | (go_at_call 16; (with_reducible refine (HA.out _ (hEwX.trans (by (repeat (first | with_reducible exact Ext.refl _ | with_reducible assumption | with_reducible refine Ext.alloc ?_ _ | with_reducible refine Ext.drewN ?_ _ | with_reducible refine Ext.drew ?_ | (with_reducible refine Ext.setCell ?_ ?hp _; case hp => (simp <;> omega))))))).mono ?_); rintro e wz ⟨rfl, hEz⟩; have hXz : Ext X wz := Ext.trans (by (repeat (first | with_reducible exact Ext.refl _ | with_reducible assumption | with_reducible refine Ext.alloc ?_ _ | with_reducible refine Ext.drewN ?_ _ | with_reducible refine Ext.drew ?_ | (with_reducible refine Ext.setCell ?_ ?hp _; case hp => (simp <;> omega))))) hEz))
            all_goals
              go_wp2_with fail
              go_ret
              exact ⟨rfl, hEwX.trans hXz⟩
      · have hni : (3000 : Int) < (n.length : Int) := by omega
        rw [hb1] at HL
        rw [hb2] at HL2
        clear hb1 hb2
        go_enter Tryz.func3, Tryz.ntmps3
        go_wp2_with fail
        refine (HL.out _ (((Ext.refl w).alloc _).alloc _)).mono ?_; rintro e w1 ⟨rfl, rfl⟩
        go_wp2_with fail
        refine (HL2.out _ _ (sets_lit2 _ _ (by simp) sa sb _ _ (hda.ext (((Ext.refl w).alloc _).alloc _)) (hdb.ext (((Ext.refl w).alloc _).alloc _)))).mono ?_; rintro e w2 ⟨rfl, rfl⟩
        go_wp2_with fail
        refine (HA.out _ ((((Ext.refl w).alloc _).alloc _).alloc _)).mono ?_; rintro e w9 ⟨rfl, hE9⟩
        go_wp2_with fail
        go_ret
        exact ⟨rfl, ((((Ext.refl w).alloc _).alloc _).alloc _).trans hE9⟩
    · rw [hb1] at HL
      rw [hb2] at HL2
      clear hb1 hb2
      go_enter Tryz.func3, Tryz.ntmps3
      go_wp2_with fail
      refine (HL.out _ (((Ext.refl w).alloc _).alloc _)).mono ?_; rintro e w1 ⟨rfl, rfl⟩
      go_wp2_with fail
      refine (HL2.out _ _ (sets_lit2 _ _ (by simp) sa sb _ _ (hda.ext (((Ext.refl w).alloc _).alloc _)) (hdb.ext (((Ext.refl w).alloc _).alloc _)))).mono ?_; rintro e w2 ⟨rfl, rfl⟩
      go_wp2_with fail
      refine (HA.out _ ((((Ext.refl w).alloc _).alloc _).alloc _)).mono ?_; rintro e w9 ⟨rfl, hE9⟩
      go_wp2_with fail
      go_ret
      exact ⟨rfl, ((((Ext.refl w).alloc _).alloc _).alloc _).trans hE9⟩
  · rw [hb1] at HL
    clear hb1
    go_enter Tryz.func3, Tryz.ntmps3
    go_wp2_with fail
    refine (HL.out _ (((Ext.refl w).alloc _).alloc _)).mono ?_; rintro e w1 ⟨rfl, rfl⟩
    go_wp2_with fail
    refine (HA.out _ (((Ext.refl w).alloc _).alloc _)).mono ?_; rintro e w9 ⟨rfl, hE9⟩
    go_wp2_with fail
    go_ret
    exact ⟨rfl, (((Ext.refl w).alloc _).alloc _).trans hE9⟩
end Go.Proofs.YthdlgmfeicikpaaGreatDoor
namespace Go.Proofs.YthdlgmfeicikpaaGreatDoor
set_option linter.unusedSimpArgs false
set_option linter.unusedVariables false
open Go.ChangeShapes Go.WideShapes Go.ChangeAt Go.RowKit
set_option maxRecDepth 100000

theorem rrsetFinds_contract (H : Type) (enc : TypeId × Value → H) (W : World) (base : Nat) (args : Array Value) (ds gs : List (DataW H)) (before : List MemPlace)
    (hval : ∀ (j : Nat) t v, Tryz.f3.params[j]? = some t → args[j]? = some v → Value.okWide Tryz.prog W .any base t v)
    (hW : DataW.Whole enc Tryz.prog Tryz.f3.params.toList Rows.rrsetFindsSpec.vars false W args.toList ds gs before)
    (hsz : (DataW.weightsEach Tryz.prog (Tryz.f3.params.toList ++ (OpenSpec.ofChange Rows.rrsetFindsSpec).bare.plain.varTypes Tryz.prog) (ds ++ gs)).all (· ≤ reachBytes) = true)
    (hL : laidMetH Tryz.prog laidL W) :
    Calls Tryz.prog 3 args W fun e W' => ∃ v, e = .returned v ∧ Rows.rrsetFindsSpec.post enc Tryz.prog Tryz.f3 false true false false W args v W' := by
  have hW' := hW
  have hp : ∀ t ∈ Tryz.f3.params.toList, Tryz.prog.readableRec t = true ∧ t < Tryz.prog.types.size := by
    have h : (Tryz.f3.params.toList.all fun t => Tryz.prog.readableRec t && decide (t < Tryz.prog.types.size)) = true := by kernel_rfl
    simpa only [List.all_eq_true, Bool.and_eq_true, decide_eq_true_eq] using h
  have hg := laid_of hL
  obtain ⟨p, q, hA0, hV, rfl, _, _⟩ := hW
  have hA : DataW.TrodAll enc Tryz.prog W 0 (fun _ => true) true Tryz.f3.params.toList args.toList ds p := hA0
  clear hA0
  rw [Tryz.params3] at hA hval hsz
  obtain ⟨rfl, rfl⟩ := trodVars_none hV
  obtain ⟨v0, v1, v2, v3, v4, v5, d0, d1, d2, d3, d4, d5, p0, p1, p2, p3, p4, p5, rfl, rfl, rfl, h0, h1, h2, h3, h4, h5⟩ := trodAll_six hA
  obtain ⟨l, hl, hlo⟩ := open_sets (hval 0 _ _ rfl rfl) h0
  obtain ⟨n, rfl, hn⟩ := open_str (hval 1 _ _ rfl rfl) h1
  obtain ⟨ty, rfl, _, _⟩ := open_u16 (hval 2 _ _ rfl rfl) h2
  obtain ⟨cl, rfl, _, _⟩ := open_u16 (hval 3 _ _ rfl rfl) h3
  obtain ⟨sa, da, rfl, hda, _, na, xa⟩ := open_set (hval 4 _ _ rfl rfl) h4
  obtain ⟨sb, db, rfl, hdb, _, nb, xb⟩ := open_set (hval 5 _ _ rfl rfl) h5
  refine (law_rrsetFinds l v0 n ty cl sa sb da db W hg hl (fun s hs => ⟨reach_of hsz (j := 0) rfl rfl (hlo s hs).2.1, fun x hx => reach_of hsz (j := 0) rfl rfl ((hlo s hs).2.2 x hx)⟩) hn hda hdb ⟨reach_of hsz (j := 4) rfl rfl na, fun x hx => reach_of hsz (j := 4) rfl rfl (xa x hx)⟩ ⟨reach_of hsz (j := 5) rfl rfl nb, fun x hx => reach_of hsz (j := 5) rfl rfl (xb x hx)⟩).mono ?_
  rintro e W' ⟨rfl, hE⟩
  exact ⟨_, rfl, post_true laid_out rfl (by kernel_rfl) Tryz.underlying4 hp hW' rfl hE⟩

theorem rrsetFinds_reads (os : Os) {H : Type} (enc : TypeId × Value → H) : ∃ places, DataW.whole enc Tryz.prog ((laidWorld os).forCall (fun _ _ => 0) ⟨#[], #[.slice none 0 0, .string ⟨#[]⟩, .int .u16 0, .int .u16 0, .agg #[.string ⟨#[]⟩, .int .u16 0, .int .u16 0, .int .u32 0, .slice none 0 0], .agg #[.string ⟨#[]⟩, .int .u16 0, .int .u16 0, .int .u32 0, .slice none 0 0]], []⟩).memory Tryz.f3.params.toList Rows.rrsetFindsSpec.vars false (#[.slice none 0 0, .string ⟨#[]⟩, .int .u16 0, .int .u16 0, .agg #[.string ⟨#[]⟩, .int .u16 0, .int .u16 0, .int .u32 0, .slice none 0 0], .agg #[.string ⟨#[]⟩, .int .u16 0, .int .u16 0, .int .u32 0, .slice none 0 0]] : Array Value).toList 8 = some ([.nil, .lit (.string []), .lit (.int .u16 0), .lit (.int .u16 0), .agg [.lit (.string []), .lit (.int .u16 0), .lit (.int .u16 0), .lit (.int .u32 0), .nil], .agg [.lit (.string []), .lit (.int .u16 0), .lit (.int .u16 0), .lit (.int .u32 0), .nil]], [], places) :=
  ⟨[], by kernel_rfl⟩
theorem rrsetFinds_lifted (os : Os) (started : os.Started) (H : Type) (enc : TypeId × Value → H) (F : Stop.Interp) :
    ReturnsInHanded {} Tryz.checked os 3 .any ((OpenSpec.ofChange Rows.rrsetFindsSpec).preRow enc Tryz.prog Tryz.f3 Rows.rrsetFindsRow.domain false Rows.rrsetFindsRow.laid) (((OpenSpec.ofChange Rows.rrsetFindsSpec).at F).post enc Tryz.prog Tryz.f3 false true false false) := by
  obtain ⟨places, hx⟩ := rrsetFinds_reads os enc
  refine returnsInHanded_of_row (C := Tryz.checked) (s := OpenSpec.ofChange Rows.rrsetFindsSpec) own_knob started (by kernel_rfl) Tryz.func3
    (witness_row_at (enc := enc) (C := Tryz.checked) false (laidWorld os) #[.slice none 0 0, .string ⟨#[]⟩, .int .u16 0, .int .u16 0, .agg #[.string ⟨#[]⟩, .int .u16 0, .int .u16 0, .int .u32 0, .slice none 0 0], .agg #[.string ⟨#[]⟩, .int .u16 0, .int .u16 0, .int .u32 0, .slice none 0 0]] rfl (by kernel_rfl) (by kernel_rfl) (by kernel_rfl)
      (OpenSpec.preRow_of_cond 8 hx (by kernel_rfl) (fun k hk => by cases hk) (by kernel_rfl) (laid_met os _))) ?_
  intro W base args ds gs before hval hW _ _ hsz hL _ _
  exact rrsetFinds_contract H enc W base args ds gs before hval hW hsz hL
theorem rrsetFinds_said : Rows.RrsetFindsSaid :=
  OpenClaim.holds_of_cond 3 Tryz.f3 rfl rfl rfl rfl rfl rfl rfl ⟨rfl, rfl, rfl, rfl, rfl⟩ rfl rfl rfl rfl rfl (by kernel_rfl) Tryz.func3 (by kernel_rfl)
    (of_decide_eq_true (by kernel_rfl)) (by unfold Func.isWrapper; first | (rw [if_pos (by decide +kernel)]; kernel_rfl) | (rw [if_neg (by decide +kernel)]; exact ⟨rfl, rfl⟩))
    (fun os started H enc _ F => by rw [OpenClaim.pre_eq_preRow]; exact rrsetFinds_lifted os started H enc F)
/-- THE CARD. -/
theorem rrsetFinds_card : Rows.RrsetFindsCardSaid :=
  Claim7.holds_tied_plain_at .later [] _ _ _ _ rrsetFinds_said (fun _ h => by cases h) (by kernel_rfl) (fun _ h => by cases h) rrsetFinds_row_tie rfl ⟨rfl, rfl⟩ (by kernel_rfl) rfl
    (fun f fn hf hfn => by
      obtain rfl : f = 3 := Option.some.inj ((show Tryz.prog.funcNamed Rows.rrsetFindsRow.func = some 3 by kernel_rfl).symm.trans hf) |>.symm
      obtain rfl : fn = Tryz.f3 := (Option.some.inj (Tryz.func3.symm.trans hfn)).symm
      refine ⟨by kernel_rfl, fun j t ht => ?_⟩
      have h : (Tryz.f3.params.toList.all fun t => !Tryz.prog.wantsStandIn t) = true := by kernel_rfl
      have h2 := List.all_eq_true.1 h t (by simpa using Array.mem_of_getElem? ht)
      exact (by simpa using h2 : Tryz.prog.wantsStandIn t = false))
    (by kernel_rfl)
#print axioms rrsetFinds_card
end Go.Proofs.YthdlgmfeicikpaaGreatDoor
