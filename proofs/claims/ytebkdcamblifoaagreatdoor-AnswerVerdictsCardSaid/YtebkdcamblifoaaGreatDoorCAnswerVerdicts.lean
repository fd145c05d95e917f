/- hustingslaw28.AnswerVerdicts returns true for every input, and every argument reads behind the call as it read before; the listed variables are tied to the program's text. No condition of ours. -/
import Derived.Test.YtebkdcamblifoaaGreatDoorBfw5
import Derived.Test.YtebkdcamblifoaaGreatDoorBrz
import Derived.Test.YtebkdcamblifoaaGreatDoorBc7
namespace Go.Proofs.YtebkdcamblifoaaGreatDoor
set_option linter.unusedSimpArgs false
set_option linter.unusedVariables false
open Go.RowKit
set_option maxRecDepth 100000

set_option maxHeartbeats 4000000 in
theorem law28_verdicts (c : CameD) (vc ttl size : Int) (vs vo : Value) (sets soa : List SetD) (w : World) (hg : Laid w) (hb : BitsAt w) (hc : c.wf) (hvs : Sets w 0 vs sets) (hvo : Sets w 0 vo soa) (hws : ∀ s ∈ sets, s.wfT) (hwo : ∀ s ∈ soa, s.wfT) (ht : 0 ≤ ttl ∧ ttl ≤ 4294967295) :
    Calls Tryz.prog 4 #[caV c, .agg #[.int .u8 vc, vs, vo], .int .u32 ttl, .int .i64 size] w (AwPost w) := by
  have HAw := Lib.hid (fun V (hV : Ext w V) => law28_awake V (hg.ext hV) (hb.ext hV))
  have HSm := Lib.hid (fun V (hV : Ext w V) => law28_small vc vs vo sets soa V (hvs.ext hV) (hvo.ext hV))
  have HVs := Lib.hid hvs
  have HVo := Lib.hid hvo
  obtain ⟨sps, sA, sc, _, rfl, _, _, _, _⟩ := hvs
  obtain ⟨ops, oA, oc, _, rfl, _, _, _, _⟩ := hvo
  obtain ⟨X0, hX0⟩ : ∃ X0, X0 = (w.alloc (.cells (caRow c.kind c.code c.hd c.hasQ c.q c.hasE c.size) 28)).alloc (.cells #[.int .u8 vc, .slice sA sps.length sc, .slice oA ops.length oc] 36) := ⟨_, rfl⟩
  have hw0 : Ext w X0 := by rw [hX0]; exact ((Ext.refl _).alloc _).alloc _
  have r1 : X0.heap[w.heap.size + 1]? = some (.cells #[.int .u8 vc, .slice sA sps.length sc, .slice oA ops.length oc] 36) := by rw [hX0]; exact heap_alloc2_new w _ _
  have r0 : X0.heap[w.heap.size]? = some (.cells (caRow c.kind c.code c.hd c.hasQ c.q c.hasE c.size) 28) := by rw [hX0]; exact heap_alloc2_old w _ _
  have K0 := Lib.hid (fun V (hV : Ext X0 V) => (hV.block _ (Array.getElem?_eq_some_iff.1 r0).1).trans r0)
  have K1 := Lib.hid (fun V (hV : Ext X0 V) => (hV.block _ (Array.getElem?_eq_some_iff.1 r1).1).trans r1)
  have z14 : X0.cell? ⟨w.heap.size, 14, none⟩ = some (S c.q.name) := box_cell r0 rfl
  go_enter Tryz.func4, Tryz.ntmps4
  go_upto_region 1 with fail
  have hzz : (w.alloc (.cells (caRow c.kind c.code c.hd c.hasQ c.q c.hasE c.size) 28)).alloc (.cells #[.int .u8 vc, .slice sA sps.length sc, .slice oA ops.length oc] 36) = X0 := hX0.symm
  rw [hzz]
  clear hzz hX0
  by_cases hl : 1000 < c.q.name.length
  · have hli : (1000 : Int) < (c.q.name.length : Int) := by omega
    go_wp2_with fail
    refine (HAw.out _ hw0).mono ?_
    rintro e w1 ⟨rfl, hE1⟩
    go_wp2_with fail
    go_ret
    exact ⟨rfl, hw0.trans hE1⟩
  have hli : ¬ (1000 : Int) < (c.q.name.length : Int) := by omega
  go_wp2_with (first | (refine wpList_load_part (by rfl) 28 (.tmp 4) rfl w.heap.size 0 rfl [.int .u8 c.kind, .int .i64 c.code, .int .u16 c.hd.id, .bool c.hd.qr, .int .u8 c.hd.op, .bool c.hd.aa, .bool c.hd.tc, .bool c.hd.rd, .bool c.hd.ra, .bool c.hd.z, .bool c.hd.ad, .bool c.hd.cd, .int .u8 c.hd.code, .bool c.hasQ, S c.q.name, .int .u16 c.q.typ, .int .u16 c.q.cls, .bool c.hasE, .int .i64 c.size] (row_all (K0.out _ (Ext.refl X0))) _ Tryz.underlying28 rfl (by kernel_rfl) ?_) | (refine wpList_load_part (by rfl) 36 (.tmp 5) rfl (w.heap.size + 1) 0 rfl [.int .u8 vc, .slice sA sps.length sc, .slice oA ops.length oc] (row_all (K1.out _ (Ext.refl X0))) _ Tryz.underlying36 rfl (by kernel_rfl) ?_) | fail)
  refine (HSm.out _ hw0).mono ?_
  rintro e w1 ⟨B, rfl, hB, hE1⟩
  rcases B with _ | _
  · go_wp2_with fail
    refine (HAw.out _ (hw0.trans hE1)).mono ?_
    rintro e w2 ⟨rfl, hE2⟩
    go_wp2_with fail
    go_ret
    exact ⟨rfl, (hw0.trans hE1).trans hE2⟩
  obtain ⟨hsm1, hsm2⟩ : SmL sets ∧ SmL soa := by first | exact hB rfl | exact hB trivial | exact hB
  have HA1 := Lib.hid (fun V (hV : Ext w V) => ans_of c vc (.slice sA sps.length sc) (.slice oA ops.length oc) sets soa ttl size V (hg.ext hV) (hb.ext hV) hc (by omega) (HVs.out.ext hV) (HVo.out.ext hV) (hsm1.ok hws) (hsm2.ok hwo) ht)
  have HA2 := Lib.hid (fun V (hV : Ext w V) => ref28_of c vc (.slice sA sps.length sc) (.slice oA ops.length oc) sets soa ttl size V (fun s hs d hd => by rcases List.mem_append.1 hs with h | h; exact Nat.le_trans ((hsm1.2 s h).2.2 d hd) (by decide); exact Nat.le_trans ((hsm2.2 s h).2.2 d hd) (by decide)) hc (by omega) (HVs.out.ext hV) (HVo.out.ext hV) (hsm1.ok hws) (hsm2.ok hwo) ht)
  unfold StrPost at HA1 HA2
  obtain ⟨s, hs⟩ : ∃ s, s = ansOf c vc sets soa ttl size := ⟨_, rfl⟩
  rw [← hs] at HA1 HA2
  clear hs hB z14
  have hw1 := hw0.trans hE1
  go_wp2_with (first | (refine wpList_load_part (by rfl) 28 (.tmp 4) rfl w.heap.size 0 rfl [.int .u8 c.kind, .int .i64 c.code, .int .u16 c.hd.id, .bool c.hd.qr, .int .u8 c.hd.op, .bool c.hd.aa, .bool c.hd.tc, .bool c.hd.rd, .bool c.hd.ra, .bool c.hd.z, .bool c.hd.ad, .bool c.hd.cd, .int .u8 c.hd.code, .bool c.hasQ, S c.q.name, .int .u16 c.q.typ, .int .u16 c.q.cls, .bool c.hasE, .int .i64 c.size] (row_all (K0.out _ hE1)) _ Tryz.underlying28 rfl (by kernel_rfl) ?_) | (refine wpList_load_part (by rfl) 36 (.tmp 5) rfl (w.heap.size + 1) 0 rfl [.int .u8 vc, .slice sA sps.length sc, .slice oA ops.length oc] (row_all (K1.out _ hE1)) _ Tryz.underlying36 rfl (by kernel_rfl) ?_) | fail)
  refine (HA2.out _ hw1).mono ?_
  rintro e w2 ⟨rfl, hE2⟩
  have hX2 : Ext X0 w2 := hE1.trans hE2
  go_wp2_with fail
  go_loopw [10] (fun s10 wr => ∃ k : Nat, k ≤ 2 ∧ s10 = .int .i64 k ∧ Ext X0 wr) (fun s10 _ => 2 - (intOf s10).toNat)
  case atStart => exact ⟨0, Nat.zero_le _, rfl, hX2⟩
  case round =>
    obtain ⟨k, hk, rfl, hE⟩ := hrel
    obtain ⟨wo, rfl⟩ : ∃ wo : World, wo = wr := ⟨_, rfl⟩
    have hwo2 : Ext w wo := hw0.trans hE
    by_cases hlt : k < 2
    · have hki : (k : Int) < 2 := by omega
      go_wp2_with (first | (refine wpList_load_part (by rfl) 28 (.tmp 4) rfl w.heap.size 0 rfl [.int .u8 c.kind, .int .i64 c.code, .int .u16 c.hd.id, .bool c.hd.qr, .int .u8 c.hd.op, .bool c.hd.aa, .bool c.hd.tc, .bool c.hd.rd, .bool c.hd.ra, .bool c.hd.z, .bool c.hd.ad, .bool c.hd.cd, .int .u8 c.hd.code, .bool c.hasQ, S c.q.name, .int .u16 c.q.typ, .int .u16 c.q.cls, .bool c.hasE, .int .i64 c.size] (row_all (K0.out _ hE)) _ Tryz.underlying28 rfl (by kernel_rfl) ?_) | (refine wpList_load_part (by rfl) 36 (.tmp 5) rfl (w.heap.size + 1) 0 rfl [.int .u8 vc, .slice sA sps.length sc, .slice oA ops.length oc] (row_all (K1.out _ hE)) _ Tryz.underlying36 rfl (by kernel_rfl) ?_) | fail)
      refine (HA1.out _ hwo2).mono ?_
      rintro e w3 ⟨rfl, hE3⟩
      go_wp2_with fail
      go_roundw
      case rel => exact ⟨k + 1, by omega, by go_num, hE.trans hE3⟩
      case measure => simp [intOf]; omega
    · obtain rfl : k = 2 := by omega
      go_wp2_with (first | (refine wpList_load_part (by rfl) 28 (.tmp 4) rfl w.heap.size 0 rfl [.int .u8 c.kind, .int .i64 c.code, .int .u16 c.hd.id, .bool c.hd.qr, .int .u8 c.hd.op, .bool c.hd.aa, .bool c.hd.tc, .bool c.hd.rd, .bool c.hd.ra, .bool c.hd.z, .bool c.hd.ad, .bool c.hd.cd, .int .u8 c.hd.code, .bool c.hasQ, S c.q.name, .int .u16 c.q.typ, .int .u16 c.q.cls, .bool c.hasE, .int .i64 c.size] (row_all (K0.out _ hE)) _ Tryz.underlying28 rfl (by kernel_rfl) ?_) | (refine wpList_load_part (by rfl) 36 (.tmp 5) rfl (w.heap.size + 1) 0 rfl [.int .u8 vc, .slice sA sps.length sc, .slice oA ops.length oc] (row_all (K1.out _ hE)) _ Tryz.underlying36 rfl (by kernel_rfl) ?_) | fail)
      refine (HA2.out _ hwo2).mono ?_
      rintro e w3 ⟨rfl, hE3⟩
      go_wp2_with fail
      refine (HAw.out _ (hwo2.trans hE3)).mono ?_
      rintro e w4 ⟨rfl, hE4⟩
      go_wp2_with fail
      go_ret
      exact ⟨rfl, (hwo2.trans hE3).trans hE4⟩
end Go.Proofs.YtebkdcamblifoaaGreatDoor
namespace Go.Proofs.YtebkdcamblifoaaGreatDoor
set_option linter.unusedSimpArgs false
set_option linter.unusedVariables false
open Go.ChangeShapes Go.WideShapes Go.ChangeAt Go.RowKit
set_option maxRecDepth 100000

theorem answerVerdicts_contract (H : Type) (enc : TypeId × Value → H) (W : World) (base : Nat) (args : Array Value) (ds gs : List (DataW H)) (before : List MemPlace)
    (hval : ∀ (j : Nat) t v, Tryz.f4.params[j]? = some t → args[j]? = some v → Value.okWide Tryz.prog W .any base t v)
    (hW : DataW.Whole enc Tryz.prog Tryz.f4.params.toList Rows.answerVerdictsSpec.vars false W args.toList ds gs before)
    (hsz : (DataW.weightsEach Tryz.prog (Tryz.f4.params.toList ++ (OpenSpec.ofChange Rows.answerVerdictsSpec).bare.plain.varTypes Tryz.prog) (ds ++ gs)).all (· ≤ reachBytes) = true)
    (hL : laidMetH Tryz.prog laidL W) :
    Calls Tryz.prog 4 args W fun e W' => ∃ v, e = .returned v ∧ Rows.answerVerdictsSpec.post enc Tryz.prog Tryz.f4 false true false false W args v W' := by
  have hW' := hW
  have hp : ∀ t ∈ Tryz.f4.params.toList, Tryz.prog.readableRec t = true ∧ t < Tryz.prog.types.size := by
    have h : (Tryz.f4.params.toList.all fun t => Tryz.prog.readableRec t && decide (t < Tryz.prog.types.size)) = true := by kernel_rfl
    simpa only [List.all_eq_true, Bool.and_eq_true, decide_eq_true_eq] using h
  have hg := laid_of hL
  have hb := laidbits_of hL
  obtain ⟨p, q, hA0, hV, rfl, _, _⟩ := hW
  have hA : DataW.TrodAll enc Tryz.prog W 0 (fun _ => true) true Tryz.f4.params.toList args.toList ds p := hA0
  clear hA0
  rw [Tryz.params4] at hA hval hsz
  obtain ⟨rfl, rfl⟩ := trodVars_none hV
  obtain ⟨v0, v1, v2, v3, d0, d1, d2, d3, p0, p1, p2, p3, rfl, rfl, rfl, h0, h1, h2, h3⟩ := trodAll_four hA
  obtain ⟨c, rfl, hc⟩ := open_came (hval 0 _ _ rfl rfl) h0
  obtain ⟨vc, vs, vo, ss, oo, rfl, hvs, hvo, _, hin, _, _⟩ := open_verdict7 (hval 1 _ _ rfl rfl) h1
  obtain ⟨tl, rfl, ht1, ht2⟩ := open_u32 (hval 2 _ _ rfl rfl) h2
  obtain ⟨sz, rfl, _, _⟩ := open_i64 (hval 3 _ _ rfl rfl) h3
  refine (law28_verdicts c vc tl sz vs vo ss oo W hg hb hc hvs hvo (fun s hs => ⟨(hin s (List.mem_append.2 (.inl hs))).1.1, (hin s (List.mem_append.2 (.inl hs))).1.2.1⟩) (fun s hs => ⟨(hin s (List.mem_append.2 (.inr hs))).1.1, (hin s (List.mem_append.2 (.inr hs))).1.2.1⟩) ⟨ht1, ht2⟩).mono ?_
  rintro e W' ⟨rfl, hE⟩
  exact ⟨_, rfl, post_true laid_out rfl (by kernel_rfl) Tryz.underlying4 hp hW' rfl hE⟩

theorem answerVerdicts_reads (os : Os) {H : Type} (enc : TypeId × Value → H) : ∃ places, DataW.whole enc Tryz.prog ((laidWorld os).forCall (fun _ _ => 0) ⟨#[], #[.agg #[.int .u8 0, .int .i64 0, .int .u16 0, .bool false, .int .u8 0, .bool false, .bool false, .bool false, .bool false, .bool false, .bool false, .bool false, .int .u8 0, .bool false, .string ⟨#[]⟩, .int .u16 0, .int .u16 0, .bool false, .int .i64 0], .agg #[.int .u8 0, .slice none 0 0, .slice none 0 0], .int .u32 0, .int .i64 0], []⟩).memory Tryz.f4.params.toList Rows.answerVerdictsSpec.vars false (#[.agg #[.int .u8 0, .int .i64 0, .int .u16 0, .bool false, .int .u8 0, .bool false, .bool false, .bool false, .bool false, .bool false, .bool false, .bool false, .int .u8 0, .bool false, .string ⟨#[]⟩, .int .u16 0, .int .u16 0, .bool false, .int .i64 0], .agg #[.int .u8 0, .slice none 0 0, .slice none 0 0], .int .u32 0, .int .i64 0] : Array Value).toList 8 = some ([.agg [.lit (.int .u8 0), .lit (.int .i64 0), .agg [.lit (.int .u16 0), .lit (.bool false), .lit (.int .u8 0), .lit (.bool false), .lit (.bool false), .lit (.bool false), .lit (.bool false), .lit (.bool false), .lit (.bool false), .lit (.bool false), .lit (.int .u8 0)], .lit (.bool false), .agg [.lit (.string []), .lit (.int .u16 0), .lit (.int .u16 0)], .lit (.bool false), .lit (.int .i64 0)], .agg [.lit (.int .u8 0), .nil, .nil], .lit (.int .u32 0), .lit (.int .i64 0)], [], places) :=
  ⟨[], by kernel_rfl⟩
theorem answerVerdicts_lifted (os : Os) (started : os.Started) (H : Type) (enc : TypeId × Value → H) (F : Stop.Interp) :
    ReturnsInHanded {} Tryz.checked os 4 .any ((OpenSpec.ofChange Rows.answerVerdictsSpec).preRow enc Tryz.prog Tryz.f4 Rows.answerVerdictsRow.domain false Rows.answerVerdictsRow.laid) (((OpenSpec.ofChange Rows.answerVerdictsSpec).at F).post enc Tryz.prog Tryz.f4 false true false false) := by
  obtain ⟨places, hx⟩ := answerVerdicts_reads os enc
  refine returnsInHanded_of_row (C := Tryz.checked) (s := OpenSpec.ofChange Rows.answerVerdictsSpec) own_knob started (by kernel_rfl) Tryz.func4
    (witness_row_at (enc := enc) (C := Tryz.checked) false (laidWorld os) #[.agg #[.int .u8 0, .int .i64 0, .int .u16 0, .bool false, .int .u8 0, .bool false, .bool false, .bool false, .bool false, .bool false, .bool false, .bool false, .int .u8 0, .bool false, .string ⟨#[]⟩, .int .u16 0, .int .u16 0, .bool false, .int .i64 0], .agg #[.int .u8 0, .slice none 0 0, .slice none 0 0], .int .u32 0, .int .i64 0] rfl (by kernel_rfl) (by kernel_rfl) (by kernel_rfl)
      (OpenSpec.preRow_of_cond 8 hx (by kernel_rfl) (fun k hk => by cases hk) (by kernel_rfl) (laid_met os _))) ?_
  intro W base args ds gs before hval hW _ _ hsz hL _ _
  exact answerVerdicts_contract H enc W base args ds gs before hval hW hsz hL
theorem answerVerdicts_said : Rows.AnswerVerdictsSaid :=
  OpenClaim.holds_of_cond 4 Tryz.f4 rfl rfl rfl rfl rfl rfl rfl ⟨rfl, rfl, rfl, rfl, rfl⟩ rfl rfl rfl rfl rfl (by kernel_rfl) Tryz.func4 (by kernel_rfl)
    (of_decide_eq_true (by kernel_rfl)) (by unfold Func.isWrapper; first | (rw [if_pos (by decide +kernel)]; kernel_rfl) | (rw [if_neg (by decide +kernel)]; exact ⟨rfl, rfl⟩))
    (fun os started H enc _ F => by rw [OpenClaim.pre_eq_preRow]; exact answerVerdicts_lifted os started H enc F)
/-- THE CARD. -/
theorem answerVerdicts_card : Rows.AnswerVerdictsCardSaid :=
  Claim7.holds_tied_plain_at .later [] _ _ _ _ answerVerdicts_said (fun _ h => by cases h) (by kernel_rfl) (fun _ h => by cases h) answerVerdicts_row_tie rfl ⟨rfl, rfl⟩ (by kernel_rfl) rfl
    (fun f fn hf hfn => by
      obtain rfl : f = 4 := Option.some.inj ((show Tryz.prog.funcNamed Rows.answerVerdictsRow.func = some 4 by kernel_rfl).symm.trans hf) |>.symm
      obtain rfl : fn = Tryz.f4 := (Option.some.inj (Tryz.func4.symm.trans hfn)).symm
      refine ⟨by kernel_rfl, fun j t ht => ?_⟩
      have h : (Tryz.f4.params.toList.all fun t => !Tryz.prog.wantsStandIn t) = true := by kernel_rfl
      have h2 := List.all_eq_true.1 h t (by simpa using Array.mem_of_getElem? ht)
      exact (by simpa using h2 : Tryz.prog.wantsStandIn t = false))
    (by kernel_rfl)
#print axioms answerVerdicts_card
end Go.Proofs.YtebkdcamblifoaaGreatDoor
