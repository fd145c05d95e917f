/- hustingslaw08.RrsetBack returns true for every input, and every argument reads behind the call as it read before; the listed variable (errors.errorType) is tied to the program's text. No condition of ours. -/
import Derived.Test.YthdlgmfeicikpaaGreatDoorBm
import Derived.Test.YthdlgmfeicikpaaGreatDoorBo
import Derived.Test.YthdlgmfeicikpaaGreatDoorBn
import Derived.Test.YthdlgmfeicikpaaGreatDoorBg
namespace Go.Proofs.YthdlgmfeicikpaaGreatDoor
set_option linter.unusedSimpArgs false
set_option linter.unusedVariables false
open Go.RowKit
set_option maxRecDepth 100000

def dataN (l : List SetD) : Nat := (l.map fun s => s.data.length).sum
theorem dataN_append (l m : List SetD) : dataN (l ++ m) = dataN l + dataN m := by simp [dataN]
theorem dataN_modify : ∀ (l : List SetD) (i : Nat) (f : SetD → SetD) (hf : ∀ s, (f s).data.length ≤ s.data.length + 1), dataN (l.modify i f) ≤ dataN l + 1
  | [], i, f, hf => by simp [dataN]
  | a :: l, 0, f, hf => by have := hf a; simp [dataN]; omega
  | a :: l, i + 1, f, hf => by have := dataN_modify l i f hf; simp [dataN] at this ⊢; omega
theorem dataN_add (L : List SetD) (x : RecD) : dataN (addR L x) ≤ dataN L + 1 := by
  unfold addR
  split
  · split
    · rw [dataN_append]; simp [dataN]
    · exact dataN_modify _ _ _ fun s => by unfold updS; exact putS_len _ _
  · omega
theorem dataN_to (l : List RecD) : ∀ k, k ≤ l.length → dataN (groupTo l k) ≤ k
  | 0, _ => by simp [groupTo, dataN]
  | k + 1, h => by rw [groupTo_step l k (by omega)]; have := dataN_to l k (by omega); have := dataN_add (groupTo l k) l[k]; omega
theorem dataN_group (l : List RecD) : dataN (groupR l) ≤ l.length := by
  have h1 : dataN (groupR l) = dataN (groupTo l l.length) := by unfold dataN; exact ((group_perm l).1.map _).sum_nat
  rw [h1]; exact dataN_to l l.length (Nat.le_refl _)
theorem recsOf_len (s : SetD) : (recsOf s).length = s.data.length := by simp [recsOf]
theorem flat_len8 (l : List SetD) : (l.flatMap recsOf).length = dataN l := by
  induction l with
  | nil => rfl
  | cons a l ih => simp [dataN, recsOf_len] at ih ⊢; (try omega)
theorem dataN_take (l : List SetD) (k : Nat) : dataN (l.take k) ≤ dataN l := by
  have : dataN l = dataN (l.take k) + dataN (l.drop k) := by rw [← dataN_append, List.take_append_drop]
  omega
theorem back_bd {l : List RecD} (h : l.length < 200 ∧ ∀ r ∈ l, r.name.length < 6000 ∧ r.data.length < 6000) : RecsBd ((groupR l).flatMap recsOf) := by
  refine ⟨by rw [flat_len8]; have := dataN_group l; omega, fun r hr => ?_⟩
  obtain ⟨s, hs, d, hd, rfl⟩ := back_of hr
  obtain ⟨x, h1, h2, h3, rfl⟩ := (group_in hs).1 hd
  have hn : s.name = fold x.name := (congrArg Prod.fst h3).symm
  have h4 := rfold_len x.typ x.data
  have h5 := fold_le x.name
  have h6 := (h.2 x h1).2
  dsimp only
  rw [hn]
  omega
theorem back_ok {l : List RecD} (h : RecsOk l) : RecsOk ((groupR l).flatMap recsOf) := by
  intro r hr
  obtain ⟨s, hs, d, hd, rfl⟩ := back_of hr
  obtain ⟨x, h1, h2, h3, rfl⟩ := (group_in hs).1 hd
  have ht : x.typ = s.typ := congrArg (fun K : KeyD => K.2.1) h3
  have hc : x.cls = s.cls := congrArg (fun K : KeyD => K.2.2) h3
  have := h x h1
  dsimp only
  rw [← ht, ← hc]; exact this
theorem recsOk8b {l : List RecD} (h : ∀ r ∈ l, RecOk r) : RecsOk l := fun r hr => ⟨(h r hr).2.2.1, (h r hr).2.2.2.1⟩

set_option maxHeartbeats 8000000 in
theorem law_rrsetBack (v : Value) (l : List RecD) (w : World) (hg : Laid w) (h : Recs w 0 v l) (hre : ∀ r ∈ l, RecRe r) (hok : ∀ r ∈ l, RecOk r) :
    Calls Tryz.prog 11 #[v] w fun e w' => e = .returned (.bool true) ∧ Ext w w' := by
  have HL := Lib.hid (fun W (hW : Ext w W) => law_long 0 v l W (h.ext hW) hre)
  have HA := Lib.hid (fun W (hW : Ext w W) => law8_awake W (hg.ext hW))
  obtain ⟨A, c, rfl, h1, h2, hrd⟩ := h
  have h : Recs w 0 (.slice A l.length c) l := ⟨A, c, rfl, h1, h2, hrd⟩
  have Hh := Lib.hid h
  clear h
  unfold maxLen at h2
  rcases hb : longB l with _ | _
  · have hsm := recs8 hb
    rw [hb] at HL
    have HG := Lib.hid (fun W (hW : Ext w W) => rrset_groupR 0 _ l W (hg.ext hW) (Hh.out.ext hW) (recsBd8 hb) (recsOk8b hok))
    have HG2 := Lib.hid (fun W lo v' (hW : Ext w W) (hr : Recs W lo v' ((groupR l).flatMap recsOf)) => rrset_groupR lo v' ((groupR l).flatMap recsOf) W (hg.ext hW) hr (back_bd hsm) (back_ok (recsOk8b hok)))
    rw [group_back] at HG2
    have hdn : ∀ k, (((groupR l).take k).flatMap recsOf).length ≤ 200 := fun k => by
      rw [flat_len8]
      have h1 := dataN_take (groupR l) k
      have h2 := dataN_group l
      omega
    have hsb := groupR_bd (recsBd8 hb)
    have hsl : (groupR l).length ≤ 4096 := by
      have := groupTo_len l l.length (Nat.le_refl _)
      have := (group_perm l).1.length_eq
      omega
    generalize groupR l = sets at *
    have Hsb := Lib.hid hsb
    have Hdn := Lib.hid hdn
    clear hb hsm hrd hsb hdn
    obtain ⟨i0, hi0, hz0, hz1, hz2⟩ := info_parts info_rec8
    go_enter Tryz.func11, Tryz.ntmps11
    go_wp2_with fail
    refine (HL.out _ (Ext.refl _)).mono ?_; rintro e w1 ⟨rfl, hE1⟩
    go_wp2_with fail
    refine (HA.out _ hE1).mono ?_; rintro e w2 ⟨rfl, hx2⟩
    have hE2 : Ext w w2 := hE1.trans hx2
    clear hx2 hE1
    go_wp2_with fail
    refine (HG.out _ hE2).mono ?_; rintro e w3 ⟨g3, rfl, ho3, hE3⟩
    have hEw3 := hE2.trans hE3
    have Hset := Lib.hid ho3.sets
    obtain ⟨ps, gA, gc, hps, rfl, hgo, hgd⟩ := ho3
    have hpl : ps.length = sets.length := by rw [← hps]; simp
    have hgcap := hgo.cap
    unfold maxLen at hgcap
    have Hps := Lib.hid hps
    have Hpl := Lib.hid hpl
    have Hgo := Lib.hid hgo
    clear hps hpl hgo
    go_wp2_with fail
    go_loopw [4, 5] (fun a i wr => ∃ (k : Nat) (aA : Option Addr) (ac : Nat) (acc : List RecD), k ≤ ps.length ∧ i = .int .i64 k ∧ a = .slice aA acc.length ac ∧ acc = (sets.take k).flatMap recsOf ∧ Own wr w3.heap.size 38 5 aA acc.length ac (acc.flatMap recCells) ∧ Ext w3 wr) (fun _ i _ => ps.length - (intOf i).toNat)
    case atStart => exact ⟨0, none, 0, [], by omega, rfl, rfl, rfl, Own.nil _ _ _ _, Ext.refl _⟩
    case round =>
      obtain ⟨k, aA, ac, acc, hk, rfl, rfl, hacc, hown, hE⟩ := hrel
      obtain ⟨wo, rfl⟩ : ∃ wo : World, wo = wr := ⟨_, rfl⟩
      have hal : acc.length ≤ 200 := hacc ▸ Hdn.out k
      have Hacc := Lib.hid hacc
      clear hacc
      by_cases hlt : k < ps.length
      · have hpk : ps[k]? = some ps[k] := List.getElem?_eq_getElem hlt
        have hpe : sets[k]? = some ps[k].1 := by rw [← Hps.out, List.getElem?_map, hpk]; rfl
        have HT := Lib.hid (show (sets.take (k + 1)).flatMap recsOf = acc ++ recsOf ps[k].1 by rw [List.take_add_one, List.flatMap_append, hpe, Hacc.out]; simp)
        have hbd := Hsb.out ps[k].1 (List.mem_of_getElem? hpe)
        have hdk := (hgd ps[k] (List.getElem_mem hlt)).strs
        have hfl : acc.length + (recsOf ps[k].1).length ≤ 200 := by have := Hdn.out (k + 1); rw [HT.out, List.length_append] at this; exact this
        generalize ps[k] = p at *
        obtain ⟨⟨nm, ty, cl, tt, da⟩, pv⟩ := p
        dsimp only at hdk hbd hfl
        obtain ⟨pA, pc, rfl⟩ := hdk.shape
        obtain ⟨gq, rfl, _, hqz, _, hqc⟩ := Hgo.out.addr (by omega)
        have hcs := sets_cells (off := 0) (fun j u hu => by rw [Nat.zero_add]; exact hqc j u hu) k _ hpk
        simp only [Nat.zero_add] at hcs
        obtain ⟨z0, z1, z2, z3, z4⟩ := hcs
        have y0 := (hE.cell (p := ⟨gq, k * 5, none⟩) hqz).trans z0
        have y1 := (hE.cell (p := ⟨gq, k * 5 + 1, none⟩) hqz).trans z1
        have y2 := (hE.cell (p := ⟨gq, k * 5 + 2, none⟩) hqz).trans z2
        have y3 := (hE.cell (p := ⟨gq, k * 5 + 3, none⟩) hqz).trans z3
        have y4 := (hE.cell (p := ⟨gq, k * 5 + 4, none⟩) hqz).trans z4
        have hki : (k : Int) < (ps.length : Int) := by omega
        have hk0 : (0 : Int) ≤ (k : Int) := by omega
        have HRc := Lib.hid (rrset_records ⟨nm, ty, cl, tt, da⟩ (.slice pA da.length pc) _ wo (hdk.ext hE) (by dsimp only; omega))
        have Hpe := Lib.hid hpe
        clear hqc hpe hpk hbd
        go_wp2_with fail
        refine HRc.out.mono ?_; rintro e w6 ⟨v6, rfl, ho6, hE6⟩
        obtain ⟨rA, rc, rfl, hro⟩ := ho6
        have hrl : (recsOf ⟨nm, ty, cl, tt, da⟩).length = da.length := recsOf_len _
        rw [hrl] at hro hfl ⊢
        have hE36 := hE.trans hE6
        have x4 := (hE36.cell (p := ⟨gq, k * 5 + 4, none⟩) hqz).trans z4
        have hown6 := hown.ext hE6
        have h3z := hE36.size
        clear y0 y1 y2 y3 y4
        go_wp2_with (first
          | (at_builtin
             refine wpList_app _ rfl (.tmp 36) (.tmp 37) _ rfl w3.heap.size 38 i0 _ 5 40 Tryz.underlying34 hi0 hz0 hz1 hz2 rfl (by omega) aA acc.length ac (acc.flatMap recCells) rfl hown6 wo.heap.size rA da.length rc ((recsOf ⟨nm, ty, cl, tt, da⟩).flatMap recCells) rfl hro.rd (recs_one8 _) (by omega) (by omega) (by omega) ?_
             intro A8 c8 w8 hown8 hg8 hb8 hat8))
        have hE8 : Ext w3 w8 := hE36.then hb8 (Nat.le_refl _)
        go_roundw
        case rel =>
          refine ⟨k + 1, A8, c8, acc ++ recsOf ⟨nm, ty, cl, tt, da⟩, by omega, by go_num, by simp [hrl], HT.out.symm, ?_, hE8⟩
          rw [List.length_append, List.flatMap_append, hrl]; exact hown8
        case measure => simp [intOf]; omega
      · obtain rfl : k = ps.length := by omega
        have e1 : acc = sets.flatMap recsOf := by rw [Hacc.out, Hpl.out, List.take_length]
        have hrec : Recs wo w3.heap.size (.slice aA acc.length ac) acc := ⟨aA, ac, rfl, hown.cap.1, hown.cap.2, hown.rd⟩
        rw [← e1] at HG2
        have HG3 := Lib.hid (HG2.out wo w3.heap.size _ (hEw3.trans hE) hrec)
        clear hrec e1 HG2 HG
        go_wp2_with fail
        refine HG3.out.mono ?_; rintro e w7 ⟨g7, rfl, ho7, hE7⟩
        obtain ⟨xA, xc, rfl, _, _⟩ := ho7.shape
        go_wp2_with fail
        refine (ref_sameAll _ _ _ _ _ _ _ ho7.sets (Hset.out.ext (hE.trans hE7))).mono ?_; rintro e w9 ⟨rfl, hE9⟩
        rw [decide_eq_true rfl]
        go_wp2_with fail
        go_ret
        exact ⟨rfl, ((hEw3.trans hE).trans hE7).trans hE9⟩
  · rw [hb] at HL
    clear hb
    go_enter Tryz.func11, Tryz.ntmps11
    go_wp2_with fail
    refine (HL.out _ (Ext.refl _)).mono ?_; rintro e w1 ⟨rfl, hE1⟩
    go_wp2_with fail
    refine (HA.out _ hE1).mono ?_; rintro e w2 ⟨rfl, hE2⟩
    go_wp2_with fail
    go_ret
    exact ⟨rfl, hE1.trans hE2⟩
end Go.Proofs.YthdlgmfeicikpaaGreatDoor
namespace Go.Proofs.YthdlgmfeicikpaaGreatDoor
set_option linter.unusedSimpArgs false
set_option linter.unusedVariables false
open Go.ChangeShapes Go.WideShapes Go.ChangeAt Go.RowKit
set_option maxRecDepth 100000

theorem rrsetBack_contract (H : Type) (enc : TypeId × Value → H) (W : World) (base : Nat) (args : Array Value) (ds gs : List (DataW H)) (before : List MemPlace)
    (hval : ∀ (j : Nat) t v, Tryz.f11.params[j]? = some t → args[j]? = some v → Value.okWide Tryz.prog W .any base t v)
    (hW : DataW.Whole enc Tryz.prog Tryz.f11.params.toList Rows.rrsetBackSpec.vars false W args.toList ds gs before)
    (hsz : (DataW.weightsEach Tryz.prog (Tryz.f11.params.toList ++ (OpenSpec.ofChange Rows.rrsetBackSpec).bare.plain.varTypes Tryz.prog) (ds ++ gs)).all (· ≤ reachBytes) = true)
    (hL : laidMetH Tryz.prog laidL W) :
    Calls Tryz.prog 11 args W fun e W' => ∃ v, e = .returned v ∧ Rows.rrsetBackSpec.post enc Tryz.prog Tryz.f11 false true false false W args v W' := by
  have hW' := hW
  have hp : ∀ t ∈ Tryz.f11.params.toList, Tryz.prog.readableRec t = true ∧ t < Tryz.prog.types.size := by
    have h : (Tryz.f11.params.toList.all fun t => Tryz.prog.readableRec t && decide (t < Tryz.prog.types.size)) = true := by kernel_rfl
    simpa only [List.all_eq_true, Bool.and_eq_true, decide_eq_true_eq] using h
  have hg := laid_of hL
  obtain ⟨p, q, hA0, hV, rfl, _, _⟩ := hW
  have hA : DataW.TrodAll enc Tryz.prog W 0 (fun _ => true) true Tryz.f11.params.toList args.toList ds p := hA0
  clear hA0
  rw [Tryz.params11] at hA hval hsz
  obtain ⟨rfl, rfl⟩ := trodVars_none hV
  obtain ⟨v0, d0, rfl, rfl, h0⟩ := trodAll_one hA
  obtain ⟨l, hr, hlo⟩ := open_recsW (hval 0 _ _ rfl rfl) h0
  refine (law_rrsetBack v0 l W hg hr (fun r hr => ⟨reach_of hsz (j := 0) rfl rfl (hlo r hr).2.1, reach_of hsz (j := 0) rfl rfl (hlo r hr).2.2⟩) (fun r hr => (hlo r hr).1)).mono ?_
  rintro e W' ⟨rfl, hE⟩
  exact ⟨_, rfl, post_true laid_out rfl (by kernel_rfl) Tryz.underlying4 hp hW' rfl hE⟩

theorem rrsetBack_reads (os : Os) {H : Type} (enc : TypeId × Value → H) : ∃ places, DataW.whole enc Tryz.prog ((laidWorld os).forCall (fun _ _ => 0) ⟨#[], #[.slice none 0 0], []⟩).memory Tryz.f11.params.toList Rows.rrsetBackSpec.vars false (#[.slice none 0 0] : Array Value).toList 8 = some ([.nil], [], places) :=
  ⟨[], by kernel_rfl⟩
theorem rrsetBack_lifted (os : Os) (started : os.Started) (H : Type) (enc : TypeId × Value → H) (F : Stop.Interp) :
    ReturnsInHanded {} Tryz.checked os 11 .any ((OpenSpec.ofChange Rows.rrsetBackSpec).preRow enc Tryz.prog Tryz.f11 Rows.rrsetBackRow.domain false Rows.rrsetBackRow.laid) (((OpenSpec.ofChange Rows.rrsetBackSpec).at F).post enc Tryz.prog Tryz.f11 false true false false) := by
  obtain ⟨places, hx⟩ := rrsetBack_reads os enc
  refine returnsInHanded_of_row (C := Tryz.checked) (s := OpenSpec.ofChange Rows.rrsetBackSpec) own_knob started (by kernel_rfl) Tryz.func11
    (witness_row_at (enc := enc) (C := Tryz.checked) false (laidWorld os) #[.slice none 0 0] rfl (by kernel_rfl) (by kernel_rfl) (by kernel_rfl)
      (OpenSpec.preRow_of_cond 8 hx (by kernel_rfl) (fun k hk => by cases hk) (by kernel_rfl) (laid_met os _))) ?_
  intro W base args ds gs before hval hW _ _ hsz hL _ _
  exact rrsetBack_contract H enc W base args ds gs before hval hW hsz hL
theorem rrsetBack_said : Rows.RrsetBackSaid :=
  OpenClaim.holds_of_cond 11 Tryz.f11 rfl rfl rfl rfl rfl rfl rfl ⟨rfl, rfl, rfl, rfl, rfl⟩ rfl rfl rfl rfl rfl (by kernel_rfl) Tryz.func11 (by kernel_rfl)
    (of_decide_eq_true (by kernel_rfl)) (by unfold Func.isWrapper; first | (rw [if_pos (by decide +kernel)]; kernel_rfl) | (rw [if_neg (by decide +kernel)]; exact ⟨rfl, rfl⟩))
    (fun os started H enc _ F => by rw [OpenClaim.pre_eq_preRow]; exact rrsetBack_lifted os started H enc F)
/-- THE CARD. -/
theorem rrsetBack_card : Rows.RrsetBackCardSaid :=
  Claim7.holds_tied_plain_at .later [] _ _ _ _ rrsetBack_said (fun _ h => by cases h) (by kernel_rfl) (fun _ h => by cases h) rrsetBack_row_tie rfl ⟨rfl, rfl⟩ (by kernel_rfl) rfl
    (fun f fn hf hfn => by
      obtain rfl : f = 11 := Option.some.inj ((show Tryz.prog.funcNamed Rows.rrsetBackRow.func = some 11 by kernel_rfl).symm.trans hf) |>.symm
      obtain rfl : fn = Tryz.f11 := (Option.some.inj (Tryz.func11.symm.trans hfn)).symm
      refine ⟨by kernel_rfl, fun j t ht => ?_⟩
      have h : (Tryz.f11.params.toList.all fun t => !Tryz.prog.wantsStandIn t) = true := by kernel_rfl
      have h2 := List.all_eq_true.1 h t (by simpa using Array.mem_of_getElem? ht)
      exact (by simpa using h2 : Tryz.prog.wantsStandIn t = false))
    (by kernel_rfl)
#print axioms rrsetBack_card
end Go.Proofs.YthdlgmfeicikpaaGreatDoor
