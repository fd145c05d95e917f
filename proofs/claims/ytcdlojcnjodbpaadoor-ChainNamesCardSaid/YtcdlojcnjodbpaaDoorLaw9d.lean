/- The walk of hustingslaw09.ChainNames: a closed statement. -/
import Derived.Test.YtcdlojcnjodbpaaDoorLaw9c
import Derived.Test.YtcdlojcnjodbpaaDoorMem2
namespace Go.Proofs.YtcdlojcnjodbpaaDoor
set_option linter.unusedSimpArgs false
set_option linter.unusedVariables false
open Go.RowKit
set_option maxRecDepth 100000
def aliasAt (k : Nat) : List RecD := (List.range k).map fun j => aliasR (UInt8.ofNat (97 + j)) (UInt8.ofNat (98 + j))
theorem info_rec : (Tryd.prog.info? 27).map (fun i => (i.zero, i.size, i.bytes)) = some (some (.agg #[.string ⟨#[]⟩, .int .u16 0, .int .u16 0, .int .u32 0, .string ⟨#[]⟩]), 5, 40) := by kernel_rfl
theorem rec_one (r : RecD) : ∀ u ∈ recCells r, u.oneCell' = true := by
  intro u hu
  simp only [recCells, List.mem_cons, List.not_mem_nil, or_false] at hu
  rcases hu with rfl | rfl | rfl | rfl | rfl <;> rfl
theorem keep5 {w w' : World} {t : TypeId} {a b c d e : Value} (hE : Ext (w.alloc (.cells #[a, b, c, d, e] t)) w') : w'.cell? ⟨w.heap.size, 0, none⟩ = some a ∧ w'.cell? ⟨w.heap.size, 1, none⟩ = some b ∧ w'.cell? ⟨w.heap.size, 2, none⟩ = some c ∧ w'.cell? ⟨w.heap.size, 3, none⟩ = some d ∧ w'.cell? ⟨w.heap.size, 4, none⟩ = some e := by
  have h := (ext_new hE).1
  exact ⟨h 0, h 1, h 2, h 3, h 4⟩
theorem aliasAt_step (k : Nat) : aliasAt (k + 1) = aliasAt k ++ [aliasR (UInt8.ofNat (97 + k)) (UInt8.ofNat (98 + k))] := by simp [aliasAt, List.range_succ]

set_option maxHeartbeats 16000000 in
theorem law_chainNames (w : World) (hg : Laid w) : Calls Tryd.prog 3 #[] w fun e w' => e = .returned (.bool true) ∧ Ext w w' := by
  have hE0 : Ext w w := Ext.refl w
  obtain ⟨i0, hi0, hz0, hz1, hz2⟩ := info_parts info_rec
  go_enter Tryd.func3, Tryd.ntmps3
  go_wp2_with fail
  refine (law_awake _ (hg.ext hE0)).mono ?_; rintro e w1 ⟨rfl, hx⟩
  have hE1 : Ext w w1 := Ext.trans hE0 hx
  clear hx
  go_wp2_with fail
  go_loopw [1, 2] (fun s i wr => ∃ (k : Nat) (A : Option Addr) (c : Nat), k ≤ 8 ∧ i = .int .u8 k ∧ s = .slice A k c ∧ Own wr w.heap.size 27 5 A k c ((aliasAt k).flatMap recCells) ∧ Ext w wr) (fun _ i _ => 8 - (intOf i).toNat)
  case atStart => exact ⟨0, none, 0, by omega, rfl, rfl, Own.nil _ _ _ _, hE1⟩
  case round =>
    obtain ⟨k, A, c, hk, rfl, rfl, hown, hE⟩ := hrel
    obtain ⟨wo, rfl⟩ : ∃ wo : World, wo = wr := ⟨_, rfl⟩
    clear hE1
    by_cases hlt : k < 8
    · have hx : (97 : Int) + (k : Int) = (UInt8.ofNat (97 + k)).toNat := by rw [UInt8.toNat_ofNat_of_lt' (by show _ < 256; omega)]; omega
      have hy : (98 : Int) + (k : Int) = (UInt8.ofNat (98 + k)).toNat := by rw [UInt8.toNat_ofNat_of_lt' (by show _ < 256; omega)]; omega
      have HC := Lib.hid (fun W => law_alias _ _ _ _ W hx hy)
      have HS := Lib.hid (aliasAt_step k)
      clear hx hy
      go_wp2_with fail
      refine (HC.out _).mono ?_; rintro e w2 ⟨rfl, hE2⟩
      generalize aliasR (UInt8.ofNat (97 + k)) (UInt8.ofNat (98 + k)) = r at *
      obtain ⟨rn, rt, rc, rl, rd⟩ := r
      go_wp2_with (at_builtin; refine wpList_app _ rfl (.tmp 50) (.tmp 56) _ rfl w.heap.size 27 i0 _ 5 40 Tryd.underlying23 hi0 hz0 hz1 hz2 rfl (by omega) A k c ((aliasAt k).flatMap recCells) rfl ((hown.ext hE2).ext ((Ext.refl _).alloc _)) 0 _ 1 1 (recCells ⟨rn, rt, rc, rl, rd⟩) rfl (rd_new _ _ (by simp) _ _ 1 5 rfl) (rec_one _) (by omega) (by omega) (by have := (hE.trans hE2).size; simp; omega) ?_; intro A5 c5 w5 hown5 hg5 hb5 hat5)
      go_roundw
      case rel => exact ⟨k + 1, A5, c5, by omega, by go_num, rfl, by rw [HS.out, List.flatMap_append]; exact hown5, Ext.then (lo := w.heap.size) ((hE.trans hE2).alloc _) hb5 (Nat.le_refl _)⟩
      case measure => simp [intOf]; omega
    · obtain rfl : k = 8 := by omega
      have hown0 := hown
      have hE9 := hE
      clear hown hE hlt hk
      go_wp2_with fail
      refine (law_of 97 97 1 _ rfl).mono ?_; rintro e w10 ⟨rfl, hx⟩
      have hE10 : Ext w w10 := Ext.trans hE9 hx
      have hown10 := hown0.ext hx
      clear hown0
      clear hx
      go_wp2_with fail
      refine (law_address 105 105 _ rfl).mono ?_; rintro e w11 ⟨rfl, hx⟩
      have hE11 : Ext w w11 := Ext.trans hE10 hx
      have hown11 := hown10.ext hx
      clear hown10
      clear hx
      go_wp2_with (at_builtin; refine wpList_app2 _ rfl (.tmp 60) (.tmp 62) _ rfl w.heap.size 27 i0 _ 5 40 Tryd.underlying23 hi0 hz0 hz1 hz2 rfl (by omega) A 8 c ((aliasAt 8).flatMap recCells) rfl ((hown11.ext (Ext.refl _)).ext ((Ext.refl _).alloc _)) 0 _ 1 1 (recCells (addrR 105)) rfl (rd_new _ _ (by simp) _ _ 1 5 rfl) (rec_one _) (by omega) (by omega) (by omega) (by have := hE11.size; simp; omega) ?_; intro A12 c12 w12 hn12 hown12 hg12 hb12 hat12; clear hg12 hat12)
      have hE12 : Ext w w12 := Ext.then (lo := w.heap.size) ((hE11).alloc _) hb12 (Nat.le_refl _)
      clear hb12
      have hr12 : Recs w12 w.heap.size (.slice A12 9 c12) (aliasAt 8 ++ [addrR 105]) := ⟨A12, c12, rfl, hn12.cap.1, hn12.cap.2, by exact hn12.rd⟩
      clear hn12
      go_wp2_with fail
      refine (told_at 8 (letterL 105) 1 0 _ (letterL 97) 1 1 _ _ _ (hg.ext hE12) hr12 (by as_aux_lemma => decide) (by decide) (by as_aux_lemma => kernel_rfl)).mono ?_; rintro e w13 ⟨rfl, hx⟩
      have hE13 : Ext w w13 := Ext.trans hE12 hx
      have hown13 := hown12.ext hx
      clear hx hr12 hown12
      go_wp2_with fail
      refine (law_of 98 98 1 _ rfl).mono ?_; rintro e w14 ⟨rfl, hx⟩
      have hE14 : Ext w w14 := Ext.trans hE13 hx
      have hown14 := hown13.ext hx
      clear hown13
      clear hx
      go_wp2_with fail
      refine (law_alias 105 106 105 106 _ rfl rfl).mono ?_; rintro e w15 ⟨rfl, hx⟩
      have hE15 : Ext w w15 := Ext.trans hE14 hx
      have hown15 := hown14.ext hx
      clear hown14
      clear hx
      go_wp2_with (at_builtin; refine wpList_app2 _ rfl (.tmp 71) (.tmp 73) _ rfl w.heap.size 27 i0 _ 5 40 Tryd.underlying23 hi0 hz0 hz1 hz2 rfl (by omega) A 8 c ((aliasAt 8).flatMap recCells) rfl ((hown15.ext (Ext.refl _)).ext ((Ext.refl _).alloc _)) 0 _ 1 1 (recCells (aliasR 105 106)) rfl (rd_new _ _ (by simp) _ _ 1 5 rfl) (rec_one _) (by omega) (by omega) (by omega) (by have := hE15.size; simp; omega) ?_; intro A16 c16 w16 hn16 hown16 hg16 hb16 hat16; clear hg16 hat16)
      have hE16 : Ext w w16 := Ext.then (lo := w.heap.size) ((hE15).alloc _) hb16 (Nat.le_refl _)
      clear hb16
      have hr16 : Recs w16 w.heap.size (.slice A16 9 c16) (aliasAt 8 ++ [aliasR 105 106]) := ⟨A16, c16, rfl, hn16.cap.1, hn16.cap.2, by exact hn16.rd⟩
      clear hn16
      go_wp2_with fail
      refine (told_at 8 (letterL 106) 0 0 _ (letterL 98) 1 1 _ _ _ (hg.ext hE16) hr16 (by as_aux_lemma => decide) (by decide) (by as_aux_lemma => kernel_rfl)).mono ?_; rintro e w17 ⟨rfl, hx⟩
      have hE17 : Ext w w17 := Ext.trans hE16 hx
      have hown17 := hown16.ext hx
      clear hx hr16 hown16
      go_wp2_with fail
      refine (law_of 97 97 1 _ rfl).mono ?_; rintro e w18 ⟨rfl, hx⟩
      have hE18 : Ext w w18 := Ext.trans hE17 hx
      have hown18 := hown17.ext hx
      clear hown17
      clear hx
      go_wp2_with fail
      refine (law_alias 105 106 105 106 _ rfl rfl).mono ?_; rintro e w19 ⟨rfl, hx⟩
      have hE19 : Ext w w19 := Ext.trans hE18 hx
      have hown19 := hown18.ext hx
      clear hown18
      clear hx
      go_wp2_with (at_builtin; refine wpList_app2 _ rfl (.tmp 82) (.tmp 84) _ rfl w.heap.size 27 i0 _ 5 40 Tryd.underlying23 hi0 hz0 hz1 hz2 rfl (by omega) A 8 c ((aliasAt 8).flatMap recCells) rfl ((hown19.ext (Ext.refl _)).ext ((Ext.refl _).alloc _)) 0 _ 1 1 (recCells (aliasR 105 106)) rfl (rd_new _ _ (by simp) _ _ 1 5 rfl) (rec_one _) (by omega) (by omega) (by omega) (by have := hE19.size; simp; omega) ?_; intro A20 c20 w20 hn20 hown20 hg20 hb20 hat20; clear hg20 hat20)
      have hE20 : Ext w w20 := Ext.then (lo := w.heap.size) ((hE19).alloc _) hb20 (Nat.le_refl _)
      clear hb20
      have hr20 : Recs w20 w.heap.size (.slice A20 9 c20) (aliasAt 8 ++ [aliasR 105 106]) := ⟨A20, c20, rfl, hn20.cap.1, hn20.cap.2, by exact hn20.rd⟩
      clear hn20
      go_wp2_with fail
      refine (told_at 0 ([]) 0 5 _ (letterL 97) 1 1 _ _ _ (hg.ext hE20) hr20 (by as_aux_lemma => decide) (by decide) (by as_aux_lemma => kernel_rfl)).mono ?_; rintro e w21 ⟨rfl, hx⟩
      have hE21 : Ext w w21 := Ext.trans hE20 hx
      have hown21 := hown20.ext hx
      clear hx hr20 hown20
      go_wp2_with fail
      refine (law_of 97 97 1 _ rfl).mono ?_; rintro e w22 ⟨rfl, hx⟩
      have hE22 : Ext w w22 := Ext.trans hE21 hx
      have hown22 := hown21.ext hx
      clear hown21
      clear hx
      go_wp2_with fail
      refine (law_alias 105 97 105 97 _ rfl rfl).mono ?_; rintro e w23 ⟨rfl, hx⟩
      have hE23 : Ext w w23 := Ext.trans hE22 hx
      have hown23 := hown22.ext hx
      clear hown22
      clear hx
      go_wp2_with (at_builtin; refine wpList_app2 _ rfl (.tmp 93) (.tmp 95) _ rfl w.heap.size 27 i0 _ 5 40 Tryd.underlying23 hi0 hz0 hz1 hz2 rfl (by omega) A 8 c ((aliasAt 8).flatMap recCells) rfl ((hown23.ext (Ext.refl _)).ext ((Ext.refl _).alloc _)) 0 _ 1 1 (recCells (aliasR 105 97)) rfl (rd_new _ _ (by simp) _ _ 1 5 rfl) (rec_one _) (by omega) (by omega) (by omega) (by have := hE23.size; simp; omega) ?_; intro A24 c24 w24 hn24 hown24 hg24 hb24 hat24; clear hg24 hat24)
      have hE24 : Ext w w24 := Ext.then (lo := w.heap.size) ((hE23).alloc _) hb24 (Nat.le_refl _)
      clear hb24
      have hr24 : Recs w24 w.heap.size (.slice A24 9 c24) (aliasAt 8 ++ [aliasR 105 97]) := ⟨A24, c24, rfl, hn24.cap.1, hn24.cap.2, by exact hn24.rd⟩
      clear hn24
      go_wp2_with fail
      refine (told_at 0 ([]) 0 5 _ (letterL 97) 1 1 _ _ _ (hg.ext hE24) hr24 (by as_aux_lemma => decide) (by decide) (by as_aux_lemma => kernel_rfl)).mono ?_; rintro e w25 ⟨rfl, hx⟩
      have hE25 : Ext w w25 := Ext.trans hE24 hx
      have hown25 := hown24.ext hx
      clear hx hr24 hown24
      go_wp2_with fail
      refine (law_of 98 98 1 _ rfl).mono ?_; rintro e w26 ⟨rfl, hx⟩
      have hE26 : Ext w w26 := Ext.trans hE25 hx
      have hown26 := hown25.ext hx
      clear hown25
      clear hx
      go_wp2_with fail
      refine (law_alias 105 98 105 98 _ rfl rfl).mono ?_; rintro e w27 ⟨rfl, hx⟩
      have hE27 : Ext w w27 := Ext.trans hE26 hx
      have hown27 := hown26.ext hx
      clear hown26
      clear hx
      go_wp2_with (at_builtin; refine wpList_app2 _ rfl (.tmp 104) (.tmp 106) _ rfl w.heap.size 27 i0 _ 5 40 Tryd.underlying23 hi0 hz0 hz1 hz2 rfl (by omega) A 8 c ((aliasAt 8).flatMap recCells) rfl ((hown27.ext (Ext.refl _)).ext ((Ext.refl _).alloc _)) 0 _ 1 1 (recCells (aliasR 105 98)) rfl (rd_new _ _ (by simp) _ _ 1 5 rfl) (rec_one _) (by omega) (by omega) (by omega) (by have := hE27.size; simp; omega) ?_; intro A28 c28 w28 hn28 hown28 hg28 hb28 hat28; clear hg28 hat28)
      have hE28 : Ext w w28 := Ext.then (lo := w.heap.size) ((hE27).alloc _) hb28 (Nat.le_refl _)
      clear hb28
      have hr28 : Recs w28 w.heap.size (.slice A28 9 c28) (aliasAt 8 ++ [aliasR 105 98]) := ⟨A28, c28, rfl, hn28.cap.1, hn28.cap.2, by exact hn28.rd⟩
      clear hn28
      go_wp2_with fail
      refine (told_at 0 ([]) 0 8 _ (letterL 98) 1 1 _ _ _ (hg.ext hE28) hr28 (by as_aux_lemma => decide) (by decide) (by as_aux_lemma => kernel_rfl)).mono ?_; rintro e w29 ⟨rfl, hx⟩
      have hE29 : Ext w w29 := Ext.trans hE28 hx
      have hown29 := hown28.ext hx
      clear hx hr28 hown28
      clear hown29
      go_wp2_with fail
      refine (law_of 97 97 1 _ rfl).mono ?_; rintro e w30 ⟨rfl, hx⟩
      have hE30 : Ext w w30 := Ext.trans hE29 hx
      clear hx
      go_wp2_with fail
      refine (law_alias 97 98 97 98 _ rfl rfl).mono ?_; rintro e w31 ⟨rfl, hx⟩
      have hE31 : Ext w w31 := Ext.trans hE30 hx
      clear hx
      go_wp2_with fail
      refine (law_alias 97 99 97 99 _ rfl rfl).mono ?_; rintro e w32 ⟨rfl, hx⟩
      have hE32 : Ext w w32 := Ext.trans hE31 hx
      clear hx
      go_wp2_with fail
      refine (told_at 0 ([]) 0 3 0 (letterL 97) 1 1 _ ([aliasR 97 98, aliasR 97 99]) _ (hg.ext ((hE32).alloc _)) (recs_lit _ _ _ rfl (Nat.zero_le _) _ (by decide)) (by as_aux_lemma => decide) (by decide) (by as_aux_lemma => kernel_rfl)).mono ?_; rintro e w33 ⟨rfl, hx⟩
      have hE33 : Ext w w33 := Ext.trans ((hE32).alloc _) hx
      clear hx
      go_wp2_with fail
      refine (law_alias 97 98 97 98 _ rfl rfl).mono ?_; rintro e w34 ⟨rfl, hx⟩
      have hE34 : Ext w w34 := Ext.trans hE33 hx
      clear hx
      go_wp2_with fail
      refine (told_at 0 ([]) 0 1 0 ([]) 1 1 _ ([aliasR 97 98]) _ (hg.ext ((hE34).alloc _)) (recs_lit _ _ _ rfl (Nat.zero_le _) _ (by decide)) (by as_aux_lemma => decide) (by decide) (by as_aux_lemma => kernel_rfl)).mono ?_; rintro e w35 ⟨rfl, hx⟩
      have hE35 : Ext w w35 := Ext.trans ((hE34).alloc _) hx
      clear hx
      go_wp2_with fail
      refine (law_alias 97 98 97 98 _ rfl rfl).mono ?_; rintro e w36 ⟨rfl, hx⟩
      have hE36 : Ext w w36 := Ext.trans hE35 hx
      clear hx
      go_wp2_with fail
      generalize hW0 : w36 = W0 at *
      clear hW0
      obtain ⟨r, hr⟩ : ∃ r, r = aliasR 97 98 := ⟨_, rfl⟩
      rw [← hr]
      have Hr := Lib.hid hr
      clear hr
      have hg0 := hg.ext hE36
      go_region_held3 (fun V => V.cell? ⟨W0.heap.size, 0, none⟩ = some (S r.name) ∧ V.cell? ⟨W0.heap.size, 1, none⟩ = some (.int .u16 r.typ) ∧ V.cell? ⟨W0.heap.size, 2, none⟩ = some (.int .u16 3) ∧ V.cell? ⟨W0.heap.size, 3, none⟩ = some (.int .u32 r.ttl) ∧ V.cell? ⟨W0.heap.size, 4, none⟩ = some (S r.data))
        (first | go_keep | exact keep5 (Ext.of_drewN 1 ha) | exact keep5 ((Ext.of_drewN 1 ha).trans hb) | exact keep5 (((Ext.of_drewN 1 ha).trans hb).alloc _) | exact keep5 ((((Ext.of_drewN 1 ha).trans hb).alloc _).trans hc))
        (first
          | (go_at_call 8; refine (law_of 97 97 1 _ rfl).mono ?_; rintro e wa ⟨rfl, ha⟩)
          | (go_at_call 9; refine (law_address 97 97 _ rfl).mono ?_; rintro e wb ⟨rfl, hb⟩)
          | (go_at_call 7; refine (told_at 0 (letterL 97) 1 0 0 (letterL 97) 1 1 _ [⟨r.name, r.typ, 3, r.ttl, r.data⟩, addrR 97] _ (hg0.ext (((((Ext.refl _).alloc _).trans (Ext.of_drewN 1 ha)).trans hb).alloc _)) (recs_lit _ _ _ rfl (Nat.zero_le _) _ (by simp)) (by rw [Hr.out]; decide) (by decide) (by rw [Hr.out]; kernel_rfl)).mono ?_; rintro e wc ⟨rfl, hc⟩))
      have hE900 : Ext w wc := hE36.trans ((((((Ext.refl _).alloc _).trans (Ext.of_drewN 1 ha)).trans hb).alloc _).trans hc)
      clear ha hb hc
      go_wp2_with fail
      refine (law_of 65 65 1 _ rfl).mono ?_; rintro e w37 ⟨rfl, hx⟩
      have hE37 : Ext w w37 := Ext.trans hE900 hx
      clear hx
      go_wp2_with fail
      refine (law_alias 97 0 97 0 _ rfl rfl).mono ?_; rintro e w38 ⟨rfl, hx⟩
      have hE38 : Ext w w38 := Ext.trans hE37 hx
      clear hx
      go_wp2_with fail
      refine (told_at 1 ([0]) 0 0 0 (letterL 65) 1 1 _ ([aliasR 97 0]) _ (hg.ext ((hE38).alloc _)) (recs_lit _ _ _ rfl (Nat.zero_le _) _ (by decide)) (by as_aux_lemma => decide) (by decide) (by as_aux_lemma => kernel_rfl)).mono ?_; rintro e w39 ⟨rfl, hx⟩
      have hE39 : Ext w w39 := Ext.trans ((hE38).alloc _) hx
      clear hx
      go_wp2_with fail
      refine (law_letter 105 105 _ rfl).mono ?_; rintro e w40 ⟨rfl, hx⟩
      have hE40 : Ext w w40 := Ext.trans hE39 hx
      clear hx
      go_wp2_with fail
      refine (law_letter 106 106 _ rfl).mono ?_; rintro e w41 ⟨rfl, hx⟩
      have hE41 : Ext w w41 := Ext.trans hE40 hx
      clear hx
      go_wp2_with fail
      refine (law_letter 97 97 _ rfl).mono ?_; rintro e w42 ⟨rfl, hx⟩
      have hE42 : Ext w w42 := Ext.trans hE41 hx
      clear hx
      go_wp2_with fail
      go_ret
      exact ⟨rfl, hE42⟩
end Go.Proofs.YtcdlojcnjodbpaaDoor
