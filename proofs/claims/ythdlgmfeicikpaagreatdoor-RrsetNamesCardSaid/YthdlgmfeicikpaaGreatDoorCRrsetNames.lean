/- hustingslaw08.RrsetNames returns true for every input, and every argument reads behind the call as it read before; the listed variable (errors.errorType) is tied to the program's text. No condition of ours. -/
import Derived.Test.YthdlgmfeicikpaaGreatDoorBm
import Derived.Test.YthdlgmfeicikpaaGreatDoorBq
import Derived.Test.YthdlgmfeicikpaaGreatDoorBn
namespace Go.Proofs.YthdlgmfeicikpaaGreatDoor
set_option linter.unusedSimpArgs false
set_option linter.unusedVariables false
open Go.RowKit
set_option maxRecDepth 100000

def l9 : List RecD := [addr8 [1, 102, 0] 1 1, addr8 [1, 97, 2, 101, 120, 0] 1 1, addr8 [2, 101, 120, 0] 1 2147483647, ⟨[2, 101, 120, 0], 1, 3, 0, [97, 98, 99, 100]⟩, ⟨[2, 101, 120, 0], 2, 1, 0, [1, 66, 0]⟩, ⟨[0], 999, 1, 0, []⟩, ⟨[2, 101, 120], 999, 1, 0, []⟩, ⟨[0], 41, 0, 0, []⟩, ⟨[0], 2, 0, 0, [1, 66]⟩]
def s9 : List SetD := [⟨[0], 999, 1, 0, [[]]⟩, ⟨[2, 101, 120, 0], 1, 1, 2147483647, [[10, 0, 0, 1]]⟩, ⟨[2, 101, 120, 0], 1, 3, 0, [[97, 98, 99, 100]]⟩, ⟨[2, 101, 120, 0], 2, 1, 0, [[1, 98, 0]]⟩, ⟨[1, 97, 2, 101, 120, 0], 1, 1, 1, [[10, 0, 0, 1]]⟩, ⟨[1, 102, 0], 1, 1, 1, [[10, 0, 0, 1]]⟩]
theorem g9 : groupR l9 = s9 := by kernel_rfl
theorem g9n : groupR [] = [] := rfl
theorem l9_ok : RecsOk l9 := by unfold RecsOk; decide
theorem l9_bd : RecsBd l9 := by unfold RecsBd; decide
theorem s9_bd : SetsBd s9 := by unfold SetsBd; decide
theorem f9a : findS s9 [2, 101, 120, 0] 1 2 = none := by kernel_rfl
theorem f9b : findS s9 [2, 101, 120] 1 1 = none := by kernel_rfl
def t9 : List SetD := [⟨[0], 1, 1, 7, []⟩, ⟨[0], 1, 1, 8, []⟩]
theorem f9c : findS t9 [0] 1 1 = some ⟨[0], 1, 1, 7, []⟩ := by kernel_rfl
theorem t9_bd : SetsBd t9 := by unfold SetsBd; decide
theorem strs_nil9 (w : World) : Strs w 0 (.slice none 0 0) [] := ⟨none, 0, rfl, by simp, by unfold maxLen; omega, Rd.nil _ _ _ _⟩
theorem sets_lit2n (w : World) (g : Nat) (hg : g = w.heap.size) (s t : SetD) (dv ev : Value) (h : Strs w 0 dv s.data) (k : Strs w 0 ev t.data) : Sets (w.alloc (.cells (setCells (s, dv) ++ setCells (t, ev)).toArray 27)) 0 (.slice (some ⟨g, 0, none⟩) 2 2) [s, t] :=
  ⟨[(s, dv), (t, ev)], _, _, rfl, rfl, Nat.le_refl _, by unfold maxLen; omega, rd_new w g hg _ _ 2 5 rfl, fun p hp => by
    rcases List.mem_cons.1 hp with rfl | hp
    · exact h.ext ((Ext.refl _).alloc _)
    · rw [List.mem_singleton] at hp; subst hp; exact k.ext ((Ext.refl _).alloc _)⟩
/-- Six sets, one by one. -/
theorem six_of {ps : List (SetD × Value)} {a b c d e f : SetD} (h : ps.map Prod.fst = [a, b, c, d, e, f]) : ∃ va vb vc vd ve vf, ps = [(a, va), (b, vb), (c, vc), (d, vd), (e, ve), (f, vf)] := by
  match ps, h with
  | [(a', va), (b', vb), (c', vc), (d', vd), (e', ve), (f', vf)], h =>
    simp only [List.map_cons, List.map_nil, List.cons.injEq, and_true] at h
    obtain ⟨rfl, rfl, rfl, rfl, rfl, rfl⟩ := h
    exact ⟨va, vb, vc, vd, ve, vf, rfl⟩
theorem one_str {w : World} {lo : Nat} {d : Value} {x : List UInt8} (h : Strs w lo d [x]) : ∃ b off c, d = .slice (some ⟨b, off, none⟩) 1 c ∧ b < w.heap.size ∧ w.cell? ⟨b, off, none⟩ = some (S x) := by
  obtain ⟨A, c, rfl, h1, h2, hrd⟩ := h
  obtain ⟨b, off, rfl, _, hb, hc⟩ := hrd.2 (by simp)
  exact ⟨b, off, c, rfl, hb, hc 0 _ rfl⟩

set_option maxHeartbeats 8000000 in
theorem law_rrsetNames (w : World) (hg : Laid w) : Calls Tryz.prog 10 #[] w fun e w' => e = .returned (.bool true) ∧ Ext w w' := by
  have HA := Lib.hid (fun W (hW : Ext w W) => law8_awake W (hg.ext hW))
  have HGn := Lib.hid (fun W (hW : Ext w W) => rrset_groupR 0 (.slice none 0 0) [] W (hg.ext hW) ⟨none, 0, rfl, by simp, by unfold maxLen; omega, Rd.nil _ _ _ _⟩ (by unfold RecsBd; simp) (by unfold RecsOk; simp))
  rw [g9n] at HGn
  have HRn := Lib.hid (fun W => rrset_records ⟨[0], 0, 0, 0, []⟩ (.slice none 0 0) 0 W (strs_nil9 W) (by simp))
  have HG9 := Lib.hid (fun W v (hW : Ext w W) (hr : Recs W 0 v l9) => rrset_groupR 0 v l9 W (hg.ext hW) hr l9_bd l9_ok)
  rw [g9] at HG9
  have HF := Lib.hid (fun n k c (hn : n.length ≤ 1048576) W x g (hS : Sets W x g s9) => rrset_find x g s9 n k c W hS s9_bd hn)
  go_enter Tryz.func10, Tryz.ntmps10
  go_wp2_with fail
  refine (HA.out _ (Ext.refl _)).mono ?_; rintro e w1 ⟨rfl, hE1⟩
  go_wp2_with fail
  refine (HGn.out _ hE1).mono ?_; rintro e w2 ⟨g2, rfl, ho2, hx2⟩
  obtain ⟨A2, c2, rfl, _, _⟩ := ho2.shape
  have hE2 := hE1.trans hx2
  go_wp2_with fail
  refine (HRn.out _).mono ?_; rintro e w3 ⟨g3, rfl, ho3, hx3⟩
  obtain ⟨A3, c3, rfl, _⟩ := ho3
  have hE3 := hE2.trans hx3
  go_wp2_with fail
  refine (law8_a [1, 102, 0] 1 1 1 _ rfl).mono ?_; rintro e w4 ⟨rfl, hx4⟩
  go_wp2_with fail
  refine (law8_a [1, 97, 2, 101, 120, 0] 1 1 1 _ rfl).mono ?_; rintro e w5 ⟨rfl, hx5⟩
  go_wp2_with fail
  refine (law8_a [2, 101, 120, 0] 1 1 2147483647 _ rfl).mono ?_; rintro e w6 ⟨rfl, hx6⟩
  have hE6 := ((hE3.trans hx4).trans hx5).trans hx6
  go_wp2_with fail
  refine (HG9.out _ _ (hE6.alloc _) (recs_lit w6 _ 0 rfl (Nat.zero_le _) l9 (by decide))).mono ?_; rintro e w7 ⟨g7, rfl, ho7, hx7⟩
  have hE7 := (hE6.alloc _).trans hx7
  have Hs7 := Lib.hid ho7.sets
  obtain ⟨ps, gA, gc, hps, rfl, hgo, hgd⟩ := ho7
  obtain ⟨va, vb, vc, vd, ve, vf, rfl⟩ := six_of hps
  obtain ⟨gq, rfl, _, hqz, _, hqc⟩ := hgo.addr (by simp)
  have hgd0 := (hgd (⟨[0], 999, 1, 0, [[]]⟩, va) (by simp)).strs
  have hgd3 := (hgd (⟨[2, 101, 120, 0], 2, 1, 0, [[1, 98, 0]]⟩, vd) (by simp)).strs
  have Hd3 := Lib.hid hgd3
  obtain ⟨b0, o0, cc0, rfl, z0, y0⟩ := one_str hgd0
  obtain ⟨b3, o3, cc3, rfl, z3, y3⟩ := one_str hgd3
  have q0 := sets_cells (off := 0) (fun j u hu => by rw [Nat.zero_add]; exact hqc j u hu) 0 _ rfl
  have q1 := sets_cells (off := 0) (fun j u hu => by rw [Nat.zero_add]; exact hqc j u hu) 1 _ rfl
  have q2 := sets_cells (off := 0) (fun j u hu => by rw [Nat.zero_add]; exact hqc j u hu) 2 _ rfl
  have q3 := sets_cells (off := 0) (fun j u hu => by rw [Nat.zero_add]; exact hqc j u hu) 3 _ rfl
  have q4 := sets_cells (off := 0) (fun j u hu => by rw [Nat.zero_add]; exact hqc j u hu) 4 _ rfl
  have q5 := sets_cells (off := 0) (fun j u hu => by rw [Nat.zero_add]; exact hqc j u hu) 5 _ rfl
  simp only [Nat.zero_add, Nat.zero_mul, Nat.one_mul, Nat.reduceMul, Nat.reduceAdd] at q0 q1 q2 q3 q4 q5
  obtain ⟨a0, a1, a2, a3, a4⟩ := q0
  obtain ⟨b10, b11, b12, b13, b14⟩ := q1
  obtain ⟨c20, c21, c22, c23, c24⟩ := q2
  obtain ⟨d30, d31, d32, d33, d34⟩ := q3
  obtain ⟨e40, e41, e42, e43, e44⟩ := q4
  obtain ⟨f50, f51, f52, f53, f54⟩ := q5
  clear hgo hgd hqc hps
  simp only [List.length_cons, List.length_nil, Nat.zero_add, Nat.reduceAdd] at Hs7 ⊢
  go_wp2_with fail
  clear a0 a1 a2 a3 a4 b10 b11 b12 b13 b14 c20 c21 c22 c23 c24 e40 e41 e42 e43 e44 f50 f51 f52 f53 f54 y0 y3
  refine (HF.out [2, 101, 120, 0] 1 2 (by decide) _ _ _ Hs7.out).mono ?_; rintro e w8 ⟨d8, rfl, ho8, hx8⟩
  rw [f9a] at ho8 ⊢
  dsimp only [Option.getD, Option.isSome] at ho8 ⊢
  obtain ⟨xA, xc, rfl⟩ := ho8.strs.shape
  have hE78 : Ext w7 (w8.alloc (.cells #[S SetD.zero.name, .int .u16 SetD.zero.typ, .int .u16 SetD.zero.cls, .int .u32 SetD.zero.ttl, .slice xA SetD.zero.data.length xc] 27)) := hx8.alloc _
  go_wp2_with fail
  refine (HF.out [2, 101, 120] 1 1 (by decide) _ _ _ (Hs7.out.ext hE78)).mono ?_; rintro e w9 ⟨d9, rfl, ho9, hx9⟩
  rw [f9b] at ho9 ⊢
  dsimp only [Option.getD, Option.isSome] at ho9 ⊢
  obtain ⟨xA9, xc9, rfl⟩ := ho9.strs.shape
  have hE79 : Ext w7 (w9.alloc (.cells #[S SetD.zero.name, .int .u16 SetD.zero.typ, .int .u16 SetD.zero.cls, .int .u32 SetD.zero.ttl, .slice xA9 SetD.zero.data.length xc9] 27)) := (hE78.trans hx9).alloc _
  obtain ⟨W9, hW9⟩ : ∃ W9, W9 = w9.alloc (.cells #[S SetD.zero.name, .int .u16 SetD.zero.typ, .int .u16 SetD.zero.cls, .int .u32 SetD.zero.ttl, .slice xA9 SetD.zero.data.length xc9] 27) := ⟨_, rfl⟩
  have Hz9 := Lib.hid (show w9.heap.size + 1 = W9.heap.size by rw [hW9]; simp)
  rw [← hW9] at hE79
  go_wp2_with fail
  rw [← hW9]
  have HFt := Lib.hid (rrset_find 0 _ t9 [0] 1 1 _ (sets_lit2n W9 (w9.heap.size + 1) Hz9.out ⟨[0], 1, 1, 7, []⟩ ⟨[0], 1, 1, 8, []⟩ (.slice none 0 0) (.slice none 0 0) (strs_nil9 _) (strs_nil9 _)) t9_bd (by decide))
  clear hW9 Hz9
  refine HFt.out.mono ?_; rintro e w10 ⟨d10, rfl, ho10, hx10⟩
  rw [f9c] at ho10 ⊢
  dsimp only [Option.getD, Option.isSome] at ho10 ⊢
  obtain ⟨xA10, xc10, rfl⟩ := ho10.strs.shape
  dsimp only [List.length_nil] at ho10 ⊢
  have hE710 : Ext w7 w10 := (hE79.alloc _).trans hx10
  go_wp2_with fail
  refine (rrset_same ⟨[], 0, 0, 0, []⟩ ⟨[], 0, 0, 0, []⟩ _ _ 0 0 _ ⟨_, 0, rfl, by simp, by unfold maxLen; omega, Rd.nil _ _ _ _⟩ (strs_nil9 _)).mono ?_; rintro e w11 ⟨rfl, hx11⟩
  rw [decide_eq_true rfl]
  have hE711 : Ext w7 w11 := ((hE710.alloc _).alloc _).trans hx11
  go_wp2_with fail
  refine (rrset_same ⟨[], 0, 0, 0, [[]]⟩ ⟨[], 0, 0, 0, []⟩ _ _ 0 0 _ ⟨_, 1, rfl, by simp, by unfold maxLen; omega, rd_new w11 _ rfl 9 [S []] 1 1 rfl⟩ (strs_nil9 _)).mono ?_; rintro e w12 ⟨rfl, hx12⟩
  rw [show decide ((⟨[], 0, 0, 0, [[]]⟩ : SetD) = ⟨[], 0, 0, 0, []⟩) = false from by decide]
  have hE712 : Ext w7 w12 := (hE711.alloc _).trans hx12
  have x0 := (hE712.cell (p := ⟨gq, 15, none⟩) hqz).trans d30
  have x1 := (hE712.cell (p := ⟨gq, 16, none⟩) hqz).trans d31
  have x2 := (hE712.cell (p := ⟨gq, 17, none⟩) hqz).trans d32
  have x3 := (hE712.cell (p := ⟨gq, 18, none⟩) hqz).trans d33
  have x4 := (hE712.cell (p := ⟨gq, 19, none⟩) hqz).trans d34
  go_wp2_with fail
  refine (rrset_records ⟨[2, 101, 120, 0], 2, 1, 0, [[1, 98, 0]]⟩ _ _ _ (Hd3.out.ext hE712) (by decide)).mono ?_; rintro e w13 ⟨v13, rfl, ho13, hx13⟩
  have Ho13 := Lib.hid ho13.recs
  obtain ⟨A13, c13, rfl, _⟩ := ho13
  have hE713 : Ext w7 w13 := hE712.trans hx13
  dsimp only [recsOf, List.map_cons, List.map_nil, List.length_cons, List.length_nil] at Ho13 ⊢
  go_wp2_with fail
  refine (ref_sameRecords _ _ _ _ _ _ _ (Ho13.out.ext ((Ext.refl _).alloc _)) (recs_lit w13 _ 0 rfl (Nat.zero_le _) [⟨[2, 101, 120, 0], 2, 1, 0, [1, 98, 0]⟩] (by decide))).mono ?_; rintro e w14 ⟨rfl, hx14⟩
  rw [show decide (List.map (fun d => (⟨[2, 101, 120, 0], 2, 1, 0, d⟩ : RecD)) [[1, 98, 0]] = [⟨[2, 101, 120, 0], 2, 1, 0, [1, 98, 0]⟩]) = true from decide_eq_true rfl]
  go_wp2_with fail
  go_ret
  exact ⟨rfl, (hE7.trans (hE713.alloc _)).trans hx14⟩
end Go.Proofs.YthdlgmfeicikpaaGreatDoor
namespace Go.Proofs.YthdlgmfeicikpaaGreatDoor
set_option linter.unusedSimpArgs false
set_option linter.unusedVariables false
open Go.ChangeShapes Go.WideShapes Go.ChangeAt Go.RowKit
set_option maxRecDepth 100000

theorem rrsetNames_contract (H : Type) (enc : TypeId × Value → H) (W : World) (base : Nat) (args : Array Value) (ds gs : List (DataW H)) (before : List MemPlace)
    (hval : ∀ (j : Nat) t v, Tryz.f10.params[j]? = some t → args[j]? = some v → Value.okWide Tryz.prog W .any base t v)
    (hW : DataW.Whole enc Tryz.prog Tryz.f10.params.toList Rows.rrsetNamesSpec.vars false W args.toList ds gs before)
    (hsz : (DataW.weightsEach Tryz.prog (Tryz.f10.params.toList ++ (OpenSpec.ofChange Rows.rrsetNamesSpec).bare.plain.varTypes Tryz.prog) (ds ++ gs)).all (· ≤ reachBytes) = true)
    (hL : laidMetH Tryz.prog laidL W) :
    Calls Tryz.prog 10 args W fun e W' => ∃ v, e = .returned v ∧ Rows.rrsetNamesSpec.post enc Tryz.prog Tryz.f10 false true false false W args v W' := by
  have hW' := hW
  have hp : ∀ t ∈ Tryz.f10.params.toList, Tryz.prog.readableRec t = true ∧ t < Tryz.prog.types.size := by
    have h : (Tryz.f10.params.toList.all fun t => Tryz.prog.readableRec t && decide (t < Tryz.prog.types.size)) = true := by kernel_rfl
    simpa only [List.all_eq_true, Bool.and_eq_true, decide_eq_true_eq] using h
  have hg := laid_of hL
  obtain ⟨p, q, hA0, hV, rfl, _, _⟩ := hW
  have hA : DataW.TrodAll enc Tryz.prog W 0 (fun _ => true) true Tryz.f10.params.toList args.toList ds p := hA0
  clear hA0
  rw [Tryz.params10] at hA hval hsz
  obtain ⟨rfl, rfl⟩ := trodVars_none hV
  obtain ⟨rfl, rfl, rfl⟩ := trodAll_none hA
  refine (law_rrsetNames W hg).mono ?_
  rintro e W' ⟨rfl, hE⟩
  exact ⟨_, rfl, post_true laid_out rfl (by kernel_rfl) Tryz.underlying4 hp hW' rfl hE⟩

theorem rrsetNames_reads (os : Os) {H : Type} (enc : TypeId × Value → H) : ∃ places, DataW.whole enc Tryz.prog ((laidWorld os).forCall (fun _ _ => 0) ⟨#[], #[], []⟩).memory Tryz.f10.params.toList Rows.rrsetNamesSpec.vars false (#[] : Array Value).toList 8 = some ([], [], places) :=
  ⟨[], by kernel_rfl⟩
theorem rrsetNames_lifted (os : Os) (started : os.Started) (H : Type) (enc : TypeId × Value → H) (F : Stop.Interp) :
    ReturnsInHanded {} Tryz.checked os 10 .any ((OpenSpec.ofChange Rows.rrsetNamesSpec).preRow enc Tryz.prog Tryz.f10 Rows.rrsetNamesRow.domain false Rows.rrsetNamesRow.laid) (((OpenSpec.ofChange Rows.rrsetNamesSpec).at F).post enc Tryz.prog Tryz.f10 false true false false) := by
  obtain ⟨places, hx⟩ := rrsetNames_reads os enc
  refine returnsInHanded_of_row (C := Tryz.checked) (s := OpenSpec.ofChange Rows.rrsetNamesSpec) own_knob started (by kernel_rfl) Tryz.func10
    (witness_row_at (enc := enc) (C := Tryz.checked) false (laidWorld os) #[] rfl (by kernel_rfl) (by kernel_rfl) (by kernel_rfl)
      (OpenSpec.preRow_of_cond 8 hx (by kernel_rfl) (fun k hk => by cases hk) (by kernel_rfl) (laid_met os _))) ?_
  intro W base args ds gs before hval hW _ _ hsz hL _ _
  exact rrsetNames_contract H enc W base args ds gs before hval hW hsz hL
theorem rrsetNames_said : Rows.RrsetNamesSaid :=
  OpenClaim.holds_of_cond 10 Tryz.f10 rfl rfl rfl rfl rfl rfl rfl ⟨rfl, rfl, rfl, rfl, rfl⟩ rfl rfl rfl rfl rfl (by kernel_rfl) Tryz.func10 (by kernel_rfl)
    (of_decide_eq_true (by kernel_rfl)) (by unfold Func.isWrapper; first | (rw [if_pos (by decide +kernel)]; kernel_rfl) | (rw [if_neg (by decide +kernel)]; exact ⟨rfl, rfl⟩))
    (fun os started H enc _ F => by rw [OpenClaim.pre_eq_preRow]; exact rrsetNames_lifted os started H enc F)
/-- THE CARD. -/
theorem rrsetNames_card : Rows.RrsetNamesCardSaid :=
  Claim7.holds_tied_plain_at .later [] _ _ _ _ rrsetNames_said (fun _ h => by cases h) (by kernel_rfl) (fun _ h => by cases h) rrsetNames_row_tie rfl ⟨rfl, rfl⟩ (by kernel_rfl) rfl
    (fun f fn hf hfn => by
      obtain rfl : f = 10 := Option.some.inj ((show Tryz.prog.funcNamed Rows.rrsetNamesRow.func = some 10 by kernel_rfl).symm.trans hf) |>.symm
      obtain rfl : fn = Tryz.f10 := (Option.some.inj (Tryz.func10.symm.trans hfn)).symm
      refine ⟨by kernel_rfl, fun j t ht => ?_⟩
      have h : (Tryz.f10.params.toList.all fun t => !Tryz.prog.wantsStandIn t) = true := by kernel_rfl
      have h2 := List.all_eq_true.1 h t (by simpa using Array.mem_of_getElem? ht)
      exact (by simpa using h2 : Tryz.prog.wantsStandIn t = false))
    (by kernel_rfl)
#print axioms rrsetNames_card
end Go.Proofs.YthdlgmfeicikpaaGreatDoor
