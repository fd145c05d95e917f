/- hustingslaw28.AnswerCodes returns true for every input, and every argument reads behind the call as it read before; the listed variables are tied to the program's text. No condition of ours. -/
import Derived.Test.YtebkdcamblifoaaGreatDoorBfw5
import Derived.Test.YtebkdcamblifoaaGreatDoorBrz
import Derived.Test.YtebkdcamblifoaaGreatDoorBc7
namespace Go.Proofs.YtebkdcamblifoaaGreatDoor
set_option linter.unusedSimpArgs false
set_option linter.unusedVariables false
open Go.RowKit
set_option maxRecDepth 100000

set_option maxHeartbeats 4000000 in
theorem law28_codes (c : CameD) (code size : Int) (w : World) (hg : Laid w) (hb : BitsAt w) (hc : c.wf) :
    Calls Tryz.prog 3 #[caV c, .int .i64 code, .int .i64 size] w (AwPost w) := by
  have HAw := Lib.hid (fun V (hV : Ext w V) => law28_awake V (hg.ext hV) (hb.ext hV))
  obtain ⟨X0, hX0⟩ : ∃ X0, X0 = w.alloc (.cells (caRow c.kind c.code c.hd c.hasQ c.q c.hasE c.size) 28) := ⟨_, rfl⟩
  have hw0 : Ext w X0 := by rw [hX0]; exact (Ext.refl _).alloc _
  have r0 : X0.heap[w.heap.size]? = some (.cells (caRow c.kind c.code c.hd c.hasQ c.q c.hasE c.size) 28) := by rw [hX0]; exact heap_alloc_new _ _
  have KR := Lib.hid (fun V (hV : Ext X0 V) => (hV.block _ (Array.getElem?_eq_some_iff.1 r0).1).trans r0)
  have z14 : X0.cell? ⟨w.heap.size, 14, none⟩ = some (S c.q.name) := box_cell r0 rfl
  go_enter Tryz.func3, Tryz.ntmps3
  go_upto_region 1 with fail
  have hzz : w.alloc (.cells (caRow c.kind c.code c.hd c.hasQ c.q c.hasE c.size) 28) = X0 := hX0.symm
  rw [hzz]
  clear hzz hX0
  by_cases hl : 1000 < c.q.name.length
  · have hli : (1000 : Int) < (c.q.name.length : Int) := by omega
    go_wp2_with fail
    refine (HAw.out _ hw0).mono ?_
    rintro e w1 ⟨rfl, hE1⟩
    go_wp2_with fail
    go_ret
    exact ⟨rfl, hw0.trans hE1⟩
  · have hli : ¬ (1000 : Int) < (c.q.name.length : Int) := by omega
    have HC1 := Lib.hid (fun V (hV : Ext w V) => ans_code c code size V (hg.ext hV) (hb.ext hV) hc (by omega))
    have HC2 := Lib.hid (fun V => ref28_code c code size V hc (by omega))
    unfold StrPost at HC1 HC2
    obtain ⟨s, hs⟩ : ∃ s, s = codeOf c code size := ⟨_, rfl⟩
    rw [← hs] at HC1 HC2
    clear hs
    go_upto_region 3 with fail
    refine wp_region_noPanic ?_
    refine wp_region_tree (S := (fun V => V.heap[w.heap.size]? = some (.cells (caRow c.kind c.code c.hd c.hasQ c.q c.hasE c.size) 28))) (.take 0 (.take 1 (.take 2 (.take 4 (.take 5 (.take 6 (.run 3 (.run 7 (.take 8 (.take 9 (.run 10 (.take 11 (.take 12 (.done)))))))))))))) (by kernel_rfl) (by kernel_rfl) (fun _ _ _ _ _ h => h) ((KR.out _ (Ext.refl X0).drew)) ?_
    repeat ((with_reducible refine treeIs ?_); first
      | (refine treeTake (v := ?_) (by rfl) (by rfl) ?_ ?_; rotate_left; (focus (intro V hV; refine exec_load_part 28 (.tmp 3) ?_ w.heap.size 0 ?_ [.int .u8 c.kind, .int .i64 c.code, .int .u16 c.hd.id, .bool c.hd.qr, .int .u8 c.hd.op, .bool c.hd.aa, .bool c.hd.tc, .bool c.hd.rd, .bool c.hd.ra, .bool c.hd.z, .bool c.hd.ad, .bool c.hd.cd, .int .u8 c.hd.code, .bool c.hasQ, S c.q.name, .int .u16 c.q.typ, .int .u16 c.q.cls, .bool c.hasE, .int .i64 c.size] (row_all hV) _ Tryz.underlying28 ?_ ?_; (focus rfl); (focus rfl); (focus rfl); (focus kernel_rfl))); (try simp only [Act.put, List.setIfInBounds_toArray, List.set_cons_zero, List.set_cons_succ]))
      | (refine treeTake (v := ?_) (by rfl) (by rfl) ?_ ?_; rotate_left; (focus (intro V hV; (go_simp <;> with_reducible rfl))); (try simp only [Act.put, List.setIfInBounds_toArray, List.set_cons_zero, List.set_cons_succ]))
      | (refine treeSkip (by rfl) (by rfl) ?_; (try simp only [Act.put, List.setIfInBounds_toArray, List.set_cons_zero, List.set_cons_succ])))
    refine treeRun (by rfl) (fun K hK => ?_)
    go_simp
    refine (HC1.out _ hw0.drew).mono ?_; rintro e w1 ⟨rfl, hEq⟩
    have hE1 : Ext X0 w1 := (Ext.refl X0).drew.trans hEq
    clear hEq
    refine hK.out _ _ ?_ ?_
    · exact (KR.out _ hE1)
    clear hK K
    (try simp only [Act.put, List.setIfInBounds_toArray, List.set_cons_zero, List.set_cons_succ])
    refine treeRun (by rfl) (fun K hK => ?_)
    go_simp
    refine (HC2.out _).mono ?_; rintro e w2 ⟨rfl, hEq⟩
    have hE2 : Ext X0 w2 := hE1.trans hEq
    clear hEq
    refine hK.out _ _ ?_ ?_
    · exact (KR.out _ hE2)
    clear hK K
    (try simp only [Act.put, List.setIfInBounds_toArray, List.set_cons_zero, List.set_cons_succ])
    repeat ((with_reducible refine treeIs ?_); first
      | (refine treeTake (v := ?_) (by rfl) (by rfl) ?_ ?_; rotate_left; (focus (intro V hV; refine exec_load_part 28 (.tmp 3) ?_ w.heap.size 0 ?_ [.int .u8 c.kind, .int .i64 c.code, .int .u16 c.hd.id, .bool c.hd.qr, .int .u8 c.hd.op, .bool c.hd.aa, .bool c.hd.tc, .bool c.hd.rd, .bool c.hd.ra, .bool c.hd.z, .bool c.hd.ad, .bool c.hd.cd, .int .u8 c.hd.code, .bool c.hasQ, S c.q.name, .int .u16 c.q.typ, .int .u16 c.q.cls, .bool c.hasE, .int .i64 c.size] (row_all hV) _ Tryz.underlying28 ?_ ?_; (focus rfl); (focus rfl); (focus rfl); (focus kernel_rfl))); (try simp only [Act.put, List.setIfInBounds_toArray, List.set_cons_zero, List.set_cons_succ]))
      | (refine treeTake (v := ?_) (by rfl) (by rfl) ?_ ?_; rotate_left; (focus (intro V hV; (go_simp <;> with_reducible rfl))); (try simp only [Act.put, List.setIfInBounds_toArray, List.set_cons_zero, List.set_cons_succ]))
      | (refine treeSkip (by rfl) (by rfl) ?_; (try simp only [Act.put, List.setIfInBounds_toArray, List.set_cons_zero, List.set_cons_succ])))
    refine treeRun (by rfl) (fun K hK => ?_)
    go_simp
    refine (HAw.out _ (hw0.trans hE2)).mono ?_; rintro e w3 ⟨rfl, hEq⟩
    have hE3 : Ext X0 w3 := hE2.trans hEq
    clear hEq
    refine hK.out _ _ ?_ ?_
    · exact (KR.out _ hE3)
    clear hK K
    (try simp only [Act.put, List.setIfInBounds_toArray, List.set_cons_zero, List.set_cons_succ])
    repeat ((with_reducible refine treeIs ?_); first
      | (refine treeTake (v := ?_) (by rfl) (by rfl) ?_ ?_; rotate_left; (focus (intro V hV; refine exec_load_part 28 (.tmp 3) ?_ w.heap.size 0 ?_ [.int .u8 c.kind, .int .i64 c.code, .int .u16 c.hd.id, .bool c.hd.qr, .int .u8 c.hd.op, .bool c.hd.aa, .bool c.hd.tc, .bool c.hd.rd, .bool c.hd.ra, .bool c.hd.z, .bool c.hd.ad, .bool c.hd.cd, .int .u8 c.hd.code, .bool c.hasQ, S c.q.name, .int .u16 c.q.typ, .int .u16 c.q.cls, .bool c.hasE, .int .i64 c.size] (row_all hV) _ Tryz.underlying28 ?_ ?_; (focus rfl); (focus rfl); (focus rfl); (focus kernel_rfl))); (try simp only [Act.put, List.setIfInBounds_toArray, List.set_cons_zero, List.set_cons_succ]))
      | (refine treeTake (v := ?_) (by rfl) (by rfl) ?_ ?_; rotate_left; (focus (intro V hV; (go_simp <;> with_reducible rfl))); (try simp only [Act.put, List.setIfInBounds_toArray, List.set_cons_zero, List.set_cons_succ]))
      | (refine treeSkip (by rfl) (by rfl) ?_; (try simp only [Act.put, List.setIfInBounds_toArray, List.set_cons_zero, List.set_cons_succ])))
    refine treeDone ?_
    refine NoPanic.normal ?_
    go_wp2_with fail
    go_ret
    exact ⟨rfl, hw0.trans hE3⟩
end Go.Proofs.YtebkdcamblifoaaGreatDoor
namespace Go.Proofs.YtebkdcamblifoaaGreatDoor
set_option linter.unusedSimpArgs false
set_option linter.unusedVariables false
open Go.ChangeShapes Go.WideShapes Go.ChangeAt Go.RowKit
set_option maxRecDepth 100000

theorem answerCodes_contract (H : Type) (enc : TypeId × Value → H) (W : World) (base : Nat) (args : Array Value) (ds gs : List (DataW H)) (before : List MemPlace)
    (hval : ∀ (j : Nat) t v, Tryz.f3.params[j]? = some t → args[j]? = some v → Value.okWide Tryz.prog W .any base t v)
    (hW : DataW.Whole enc Tryz.prog Tryz.f3.params.toList Rows.answerCodesSpec.vars false W args.toList ds gs before)
    (hsz : (DataW.weightsEach Tryz.prog (Tryz.f3.params.toList ++ (OpenSpec.ofChange Rows.answerCodesSpec).bare.plain.varTypes Tryz.prog) (ds ++ gs)).all (· ≤ reachBytes) = true)
    (hL : laidMetH Tryz.prog laidL W) :
    Calls Tryz.prog 3 args W fun e W' => ∃ v, e = .returned v ∧ Rows.answerCodesSpec.post enc Tryz.prog Tryz.f3 false true false false W args v W' := by
  have hW' := hW
  have hp : ∀ t ∈ Tryz.f3.params.toList, Tryz.prog.readableRec t = true ∧ t < Tryz.prog.types.size := by
    have h : (Tryz.f3.params.toList.all fun t => Tryz.prog.readableRec t && decide (t < Tryz.prog.types.size)) = true := by kernel_rfl
    simpa only [List.all_eq_true, Bool.and_eq_true, decide_eq_true_eq] using h
  have hg := laid_of hL
  have hb := laidbits_of hL
  obtain ⟨p, q, hA0, hV, rfl, _, _⟩ := hW
  have hA : DataW.TrodAll enc Tryz.prog W 0 (fun _ => true) true Tryz.f3.params.toList args.toList ds p := hA0
  clear hA0
  rw [Tryz.params3] at hA hval hsz
  obtain ⟨rfl, rfl⟩ := trodVars_none hV
  obtain ⟨v0, v1, v2, d0, d1, d2, p0, p1, p2, rfl, rfl, rfl, h0, h1, h2⟩ := trodAll_three hA
  obtain ⟨c, rfl, hc⟩ := open_came (hval 0 _ _ rfl rfl) h0
  obtain ⟨cd, rfl, _, _⟩ := open_i64 (hval 1 _ _ rfl rfl) h1
  obtain ⟨sz, rfl, _, _⟩ := open_i64 (hval 2 _ _ rfl rfl) h2
  refine (law28_codes c cd sz W hg hb hc).mono ?_
  rintro e W' ⟨rfl, hE⟩
  exact ⟨_, rfl, post_true laid_out rfl (by kernel_rfl) Tryz.underlying4 hp hW' rfl hE⟩

theorem answerCodes_reads (os : Os) {H : Type} (enc : TypeId × Value → H) : ∃ places, DataW.whole enc Tryz.prog ((laidWorld os).forCall (fun _ _ => 0) ⟨#[], #[.agg #[.int .u8 0, .int .i64 0, .int .u16 0, .bool false, .int .u8 0, .bool false, .bool false, .bool false, .bool false, .bool false, .bool false, .bool false, .int .u8 0, .bool false, .string ⟨#[]⟩, .int .u16 0, .int .u16 0, .bool false, .int .i64 0], .int .i64 0, .int .i64 0], []⟩).memory Tryz.f3.params.toList Rows.answerCodesSpec.vars false (#[.agg #[.int .u8 0, .int .i64 0, .int .u16 0, .bool false, .int .u8 0, .bool false, .bool false, .bool false, .bool false, .bool false, .bool false, .bool false, .int .u8 0, .bool false, .string ⟨#[]⟩, .int .u16 0, .int .u16 0, .bool false, .int .i64 0], .int .i64 0, .int .i64 0] : Array Value).toList 8 = some ([.agg [.lit (.int .u8 0), .lit (.int .i64 0), .agg [.lit (.int .u16 0), .lit (.bool false), .lit (.int .u8 0), .lit (.bool false), .lit (.bool false), .lit (.bool false), .lit (.bool false), .lit (.bool false), .lit (.bool false), .lit (.bool false), .lit (.int .u8 0)], .lit (.bool false), .agg [.lit (.string []), .lit (.int .u16 0), .lit (.int .u16 0)], .lit (.bool false), .lit (.int .i64 0)], .lit (.int .i64 0), .lit (.int .i64 0)], [], places) :=
  ⟨[], by kernel_rfl⟩
theorem answerCodes_lifted (os : Os) (started : os.Started) (H : Type) (enc : TypeId × Value → H) (F : Stop.Interp) :
    ReturnsInHanded {} Tryz.checked os 3 .any ((OpenSpec.ofChange Rows.answerCodesSpec).preRow enc Tryz.prog Tryz.f3 Rows.answerCodesRow.domain false Rows.answerCodesRow.laid) (((OpenSpec.ofChange Rows.answerCodesSpec).at F).post enc Tryz.prog Tryz.f3 false true false false) := by
  obtain ⟨places, hx⟩ := answerCodes_reads os enc
  refine returnsInHanded_of_row (C := Tryz.checked) (s := OpenSpec.ofChange Rows.answerCodesSpec) own_knob started (by kernel_rfl) Tryz.func3
    (witness_row_at (enc := enc) (C := Tryz.checked) false (laidWorld os) #[.agg #[.int .u8 0, .int .i64 0, .int .u16 0, .bool false, .int .u8 0, .bool false, .bool false, .bool false, .bool false, .bool false, .bool false, .bool false, .int .u8 0, .bool false, .string ⟨#[]⟩, .int .u16 0, .int .u16 0, .bool false, .int .i64 0], .int .i64 0, .int .i64 0] rfl (by kernel_rfl) (by kernel_rfl) (by kernel_rfl)
      (OpenSpec.preRow_of_cond 8 hx (by kernel_rfl) (fun k hk => by cases hk) (by kernel_rfl) (laid_met os _))) ?_
  intro W base args ds gs before hval hW _ _ hsz hL _ _
  exact answerCodes_contract H enc W base args ds gs before hval hW hsz hL
theorem answerCodes_said : Rows.AnswerCodesSaid :=
  OpenClaim.holds_of_cond 3 Tryz.f3 rfl rfl rfl rfl rfl rfl rfl ⟨rfl, rfl, rfl, rfl, rfl⟩ rfl rfl rfl rfl rfl (by kernel_rfl) Tryz.func3 (by kernel_rfl)
    (of_decide_eq_true (by kernel_rfl)) (by unfold Func.isWrapper; first | (rw [if_pos (by decide +kernel)]; kernel_rfl) | (rw [if_neg (by decide +kernel)]; exact ⟨rfl, rfl⟩))
    (fun os started H enc _ F => by rw [OpenClaim.pre_eq_preRow]; exact answerCodes_lifted os started H enc F)
/-- THE CARD. -/
theorem answerCodes_card : Rows.AnswerCodesCardSaid :=
  Claim7.holds_tied_plain_at .later [] _ _ _ _ answerCodes_said (fun _ h => by cases h) (by kernel_rfl) (fun _ h => by cases h) answerCodes_row_tie rfl ⟨rfl, rfl⟩ (by kernel_rfl) rfl
    (fun f fn hf hfn => by
      obtain rfl : f = 3 := Option.some.inj ((show Tryz.prog.funcNamed Rows.answerCodesRow.func = some 3 by kernel_rfl).symm.trans hf) |>.symm
      obtain rfl : fn = Tryz.f3 := (Option.some.inj (Tryz.func3.symm.trans hfn)).symm
      refine ⟨by kernel_rfl, fun j t ht => ?_⟩
      have h : (Tryz.f3.params.toList.all fun t => !Tryz.prog.wantsStandIn t) = true := by kernel_rfl
      have h2 := List.all_eq_true.1 h t (by simpa using Array.mem_of_getElem? ht)
      exact (by simpa using h2 : Tryz.prog.wantsStandIn t = false))
    (by kernel_rfl)
#print axioms answerCodes_card
end Go.Proofs.YtebkdcamblifoaaGreatDoor
