/- hustingslaw08.RrsetLetters returns true for every input, and every argument reads behind the call as it read before; the listed variable (errors.errorType) is tied to the program's text. No condition of ours. -/
import Derived.Test.YthdlgmfeicikpaaGreatDoorBm
import Derived.Test.YthdlgmfeicikpaaGreatDoorBo
import Derived.Test.YthdlgmfeicikpaaGreatDoorBn
import Derived.Test.YthdlgmfeicikpaaGreatDoorBg
namespace Go.Proofs.YthdlgmfeicikpaaGreatDoor
set_option linter.unusedSimpArgs false
set_option linter.unusedVariables false
open Go.RowKit
set_option maxRecDepth 100000

theorem Own.at_ {w : World} {lo g : Nat} {e : TypeId} {sz n c : Nat} {xs : List Value} (h : Own w lo e sz (some ⟨g, 0, none⟩) n c xs) (hn : 0 < n) : lo ≤ g ∧ g < w.heap.size ∧ (∀ j, w.frozen? ⟨g, j, none⟩ = false) ∧ (∀ j u, xs[j]? = some u → w.cell? ⟨g, j, none⟩ = some u) := by
  obtain ⟨g', e', h1, h2, h3, h4⟩ := h.addr hn
  injection e' with e'
  injection e' with e'
  subst e'
  exact ⟨h1, h2, h3, h4⟩
theorem flat_setR (ps : List RecD) (k : Nat) (p q : RecD) (j : Nat) (u : Value) (hp : ps[k]? = some p) (hj : j < 5) (hq : (recCells p).set j u = recCells q) : (ps.flatMap recCells).set (k * 5 + j) u = (ps.set k q).flatMap recCells := by
  induction ps generalizing k with
  | nil => simp at hp
  | cons a ps ih =>
    rcases k with _ | k
    · simp only [List.getElem?_cons_zero, Option.some.injEq] at hp
      subst hp
      simp only [Nat.zero_mul, Nat.zero_add, List.flatMap_cons, List.set_cons_zero]
      rw [List.set_append_left _ _ (by show j < 5; exact hj), hq]
    · simp only [List.getElem?_cons_succ] at hp
      simp only [List.flatMap_cons, List.set_cons_succ]
      rw [List.set_append_right _ _ (by show 5 ≤ _; omega)]
      have e : (k + 1) * 5 + j - (recCells a).length = k * 5 + j := by show (k + 1) * 5 + j - 5 = _; omega
      rw [e, ih k hp]
def letTo (l : List RecD) (k : Nat) : List RecD := (l.take k).map letR ++ l.drop k
theorem letTo_len (l : List RecD) (k : Nat) : (letTo l k).length = l.length := by unfold letTo; simp; omega
theorem letTo_at (l : List RecD) (k : Nat) (h : k < l.length) : (letTo l k)[k]? = some l[k] := by
  unfold letTo
  rw [List.getElem?_append_right (by simp; omega)]
  simp [Nat.min_eq_left (Nat.le_of_lt h), List.getElem?_eq_getElem h]
theorem letTo_step (l : List RecD) (k : Nat) (h : k < l.length) : letTo l (k + 1) = (letTo l k).set k (letR l[k]) := by
  unfold letTo
  rw [List.set_append_right _ _ (by simp; omega), take_snoc l k h, List.map_append, List.append_assoc]
  congr 1
  simp only [List.length_map, List.length_take, Nat.min_eq_left (Nat.le_of_lt h), Nat.sub_self]
  rw [List.drop_eq_getElem_cons h]
  rfl
theorem set_same {α : Type} (l : List α) (k : Nat) (x : α) (h : l[k]? = some x) : l.set k x = l := by
  obtain ⟨h1, h2⟩ := List.getElem?_eq_some_iff.1 h
  rw [← h2]; exact List.set_getElem_self h1
theorem letR_bd {l : List RecD} (h : l.length < 200 ∧ ∀ r ∈ l, r.name.length < 6000 ∧ r.data.length < 6000) : RecsBd (l.map letR) := by
  refine ⟨by simp; omega, fun r hr => ?_⟩
  obtain ⟨x, hx, rfl⟩ := List.mem_map.1 hr
  have := h.2 x hx
  unfold letR
  split
  · dsimp only; rw [length_up]; split <;> (try rw [length_up]) <;> omega
  · omega
theorem letR_ok {l : List RecD} (h : RecsOk l) : RecsOk (l.map letR) := by
  intro r hr
  obtain ⟨x, hx, rfl⟩ := List.mem_map.1 hr
  have := h x hx
  unfold letR
  split
  · exact this
  · exact this
theorem recsOk8 {l : List RecD} (h : ∀ r ∈ l, RecOk r) : RecsOk l := fun r hr => ⟨(h r hr).2.2.1, (h r hr).2.2.2.1⟩

set_option maxHeartbeats 8000000 in
theorem law_rrsetLetters (v : Value) (l : List RecD) (w : World) (hg : Laid w) (h : Recs w 0 v l) (hre : ∀ r ∈ l, RecRe r) (hok : ∀ r ∈ l, RecOk r) :
    Calls Tryz.prog 7 #[v] w fun e w' => e = .returned (.bool true) ∧ Ext w w' := by
  have HL := Lib.hid (fun W (hW : Ext w W) => law_long 0 v l W (h.ext hW) hre)
  have HA := Lib.hid (fun W (hW : Ext w W) => law8_awake W (hg.ext hW))
  obtain ⟨A, c, rfl, h1, h2, hrd⟩ := h
  have h : Recs w 0 (.slice A l.length c) l := ⟨A, c, rfl, h1, h2, hrd⟩
  have Hh := Lib.hid h
  clear h
  unfold maxLen at h2
  rcases hb : longB l with _ | _
  · have hsm := recs8 hb
    rw [hb] at HL
    have HG := Lib.hid (fun W (hW : Ext w W) => rrset_groupR 0 _ l W (hg.ext hW) (Hh.out.ext hW) (recsBd8 hb) (recsOk8 hok))
    have HG2 := Lib.hid (fun W lo v' (hW : Ext w W) (hr : Recs W lo v' (l.map letR)) => rrset_groupR lo v' (l.map letR) W (hg.ext hW) hr (letR_bd hsm) (letR_ok (recsOk8 hok)))
    rw [group_letters] at HG2
    have Hsm := Lib.hid hsm.2
    have hl2 := hsm.1
    clear hb hsm
    obtain ⟨i0, hi0, hz0, hz1, hz2⟩ := info_parts info_rec8
    go_enter Tryz.func7, Tryz.ntmps7
    go_wp2_with fail
    refine (HL.out _ (Ext.refl _)).mono ?_; rintro e w1 ⟨rfl, hE1⟩
    go_wp2_with fail
    refine (HA.out _ hE1).mono ?_; rintro e w2 ⟨rfl, hx2⟩
    have hE2 : Ext w w2 := hE1.trans hx2
    clear hx2 hE1
    go_wp2_with (first
      | (at_builtin
         refine wpList_app _ rfl (.tmp 12) (.tmp 13) _ rfl w2.heap.size 38 i0 _ 5 40 Tryz.underlying34 hi0 hz0 hz1 hz2 rfl (by omega) (some ⟨w2.heap.size, 0, none⟩) 0 0 [] rfl (own_zero w2 38 5) 0 A l.length c (l.flatMap recCells) rfl (hrd.ext (hE2.alloc _)) (recs_one8 l) (by omega) (by omega) (by simp) ?_
         intro A5 c5 w5 hown5 hg5 hb5 hat5))
    rw [Nat.zero_add, List.nil_append] at hown5
    have hE5 : Ext w w5 := Ext.then (lo := w2.heap.size) (hE2.alloc _) hb5 hE2.size
    have hz2' := hE2.size
    go_loopw [4] (fun i wr => ∃ k : Nat, k ≤ l.length ∧ i = .int .i64 k ∧ Own wr w2.heap.size 38 5 A5 l.length c5 ((letTo l k).flatMap recCells) ∧ Ext w wr) (fun i _ => l.length - (intOf i).toNat)
    case atStart => exact ⟨0, by omega, rfl, by simpa [letTo] using hown5, hE5⟩
    case round =>
      obtain ⟨k, hk, rfl, hown, hE⟩ := hrel
      obtain ⟨wo, rfl⟩ : ∃ wo : World, wo = wr := ⟨_, rfl⟩
      by_cases hlt : k < l.length
      · obtain ⟨b, off, rfl, _, hbz, hc⟩ := hrd.2 (by omega)
        have hcs := recs_cells hc k l[k] (List.getElem?_eq_getElem hlt)
        have hxs := Hsm.out l[k] (List.getElem_mem hlt)
        have HT := Lib.hid (letTo_step l k hlt)
        have HAt := Lib.hid (letTo_at l k hlt)
        have hll := letTo_len l k
        generalize l[k] = x at *
        generalize letTo l k = L at *
        obtain ⟨nm, ty, cl, tt, da⟩ := x
        obtain ⟨x0, x1, x2, x3, x4⟩ := hcs
        dsimp only at *
        obtain ⟨g, rfl, hlg, hgz, hgf, hgc⟩ := hown.addr (by omega)
        have y0 := (hE.cell (p := ⟨b, off + k * 5, none⟩) hbz).trans x0
        have y1 := (hE.cell (p := ⟨b, off + k * 5 + 1, none⟩) hbz).trans x1
        have y2 := (hE.cell (p := ⟨b, off + k * 5 + 2, none⟩) hbz).trans x2
        have y3 := (hE.cell (p := ⟨b, off + k * 5 + 3, none⟩) hbz).trans x3
        have y4 := (hE.cell (p := ⟨b, off + k * 5 + 4, none⟩) hbz).trans x4
        have hki : (k : Int) < (l.length : Int) := by omega
        have hk0 : (0 : Int) ≤ (k : Int) := by omega
        have HM := Lib.hid (law8_may ⟨nm, ty, cl, tt, da⟩ wo (hg.ext hE) (by dsimp only; omega) (by dsimp only; omega))
        clear hc hgc hgf
        rcases hor : okRec ⟨nm, ty, cl, tt, da⟩ with _ | _
        · rw [hor] at HM
          have HN := Lib.hid (show L.set k (letR ⟨nm, ty, cl, tt, da⟩) = L by rw [letR, if_neg (by simp [hor])]; exact set_same L k _ HAt.out)
          clear hor
          go_wp2_with fail
          refine HM.out.mono ?_; rintro e w6 ⟨rfl, hE6⟩
          go_wp2_with fail
          go_roundw
          case rel => exact ⟨k + 1, by omega, by go_num, by rw [HT.out, HN.out]; exact hown.ext hE6, hE.trans hE6⟩
          case measure => simp [intOf]; omega
        · rw [hor] at HM
          have HN := Lib.hid (show letR ⟨nm, ty, cl, tt, da⟩ = ⟨up nm, ty, cl, tt, if nameT ty then up da else da⟩ by rw [letR, if_pos hor])
          clear hor
          go_wp2_with fail
          refine HM.out.mono ?_; rintro e w5b ⟨rfl, hE5b⟩
          have hEb := hE.trans hE5b
          have u0 := (hEb.cell (p := ⟨b, off + k * 5, none⟩) hbz).trans x0
          go_wp2_with fail
          refine (law8_upper nm _ (by unfold maxLen; omega)).mono ?_; rintro e w6 ⟨rfl, hE6⟩
          have hE7 := hEb.trans hE6
          have hown6 := (hown.ext hE5b).ext hE6
          obtain ⟨_, hgz6, hgf6, hgc6⟩ := hown6.at_ (by omega)
          have c0 := hgc6 (k * 5 + 0) _ (flat_get recCells 5 (fun _ => rfl) L k 0 _ HAt.out (by omega))
          have c0' : w6.cell? ⟨g, k * 5, none⟩ = some (S nm) := c0
          have f0 := hgf6 (k * 5)
          have hE8 : Ext w (w6.setCell ⟨g, k * 5, none⟩ (S (up nm))) := hE7.setCell (show w.heap.size ≤ g by omega) _
          have hown8 := hown6.stored (k * 5 + 0) (S (up nm)) (by omega)
          rw [flat_setR L k _ ⟨up nm, ty, cl, tt, da⟩ 0 (S (up nm)) HAt.out (by omega) rfl] at hown8
          have hown8' : Own (w6.setCell ⟨g, k * 5, none⟩ (S (up nm))) w2.heap.size 38 5 (some ⟨g, 0, none⟩) l.length c5 ((L.set k ⟨up nm, ty, cl, tt, da⟩).flatMap recCells) := hown8
          have v1 := (hE8.cell (p := ⟨b, off + k * 5 + 1, none⟩) hbz).trans x1
          have v4 := (hE8.cell (p := ⟨b, off + k * 5 + 4, none⟩) hbz).trans x4
          have HAt8 := Lib.hid (show (L.set k ⟨up nm, ty, cl, tt, da⟩)[k]? = some ⟨up nm, ty, cl, tt, da⟩ by rw [List.getElem?_set_self (by omega)])
          clear hgc6 hgf6 hown8 c0 hown6
          rcases hnt : nameT ty with _ | _
          · have n1 : (ty == 2) = false := by unfold nameT at hnt; simp only [Bool.or_eq_false_iff] at hnt; exact hnt.1.1
            have n2 : (ty == 5) = false := by unfold nameT at hnt; simp only [Bool.or_eq_false_iff] at hnt; exact hnt.1.2
            have n3 : (ty == 12) = false := by unfold nameT at hnt; simp only [Bool.or_eq_false_iff] at hnt; exact hnt.2
            have HNf := Lib.hid (HN.out.trans (by rw [hnt]; rfl) : letR ⟨nm, ty, cl, tt, da⟩ = ⟨up nm, ty, cl, tt, da⟩)
            clear hnt
            go_wp2_with fail
            go_roundw
            case rel => exact ⟨k + 1, by omega, by go_num, by rw [HT.out, HNf.out]; exact hown8', hE8⟩
            case measure => simp [intOf]; omega
          · have HNf := Lib.hid (HN.out.trans (by rw [hnt]; rfl) : letR ⟨nm, ty, cl, tt, da⟩ = ⟨up nm, ty, cl, tt, up da⟩)
            have hcase := nameT_iff.1 hnt
            obtain ⟨X, hX⟩ : ∃ X, X = (w6.setCell ⟨g, k * 5, none⟩ (S (up nm))) := ⟨_, rfl⟩
            have hor3 : ((ty == 2) = true) ∨ ((ty == 2) = false ∧ (ty == 5) = true) ∨ ((ty == 2) = false ∧ (ty == 5) = false ∧ (ty == 12) = true) := by
              rcases hcase with e | e | e <;> subst e
              · exact .inl rfl
              · exact .inr (.inl ⟨rfl, rfl⟩)
              · exact .inr (.inr ⟨rfl, rfl, rfl⟩)
            clear hnt hcase
            rw [← hX] at hE8 hown8' v1 v4
            have HX := Lib.hid hX
            clear hX
            rcases hor3 with n1 | ⟨n1, n2⟩ | ⟨n1, n2, n3⟩
            all_goals
              have v1' := v1
              have v4' := v4
              rw [HX.out] at v1' v4'
              go_wp2_with fail
              rw [← HX.out]
              clear v1' v4'
              refine (law8_upper da _ (by unfold maxLen; omega)).mono ?_; rintro e w9 ⟨rfl, hE9⟩
              have hE10 := hE8.trans hE9
              have hown9 := hown8'.ext hE9
              obtain ⟨_, hgz9, hgf9, hgc9⟩ := hown9.at_ (by omega)
              have c4 : w9.cell? ⟨g, k * 5 + 4, none⟩ = some (S da) := hgc9 (k * 5 + 4) _ (flat_get recCells 5 (fun _ => rfl) _ k 4 _ HAt8.out (by omega))
              have f4 := hgf9 (k * 5 + 4)
              have hE11 : Ext w (w9.setCell ⟨g, k * 5 + 4, none⟩ (S (up da))) := hE10.setCell (show w.heap.size ≤ g by omega) _
              have hown11 := hown9.stored (k * 5 + 4) (S (up da)) (by omega)
              rw [flat_setR _ k _ ⟨up nm, ty, cl, tt, up da⟩ 4 (S (up da)) HAt8.out (by omega) rfl, List.set_set] at hown11
              clear hgc9 hgf9
              go_wp2_with fail
              go_roundw
              case rel => exact ⟨k + 1, by omega, by go_num, by rw [HT.out, HNf.out]; exact hown11, hE11⟩
              case measure => simp [intOf]; omega
      · obtain rfl : k = l.length := by omega
        have e1 : letTo l l.length = l.map letR := by unfold letTo; simp
        rw [e1] at hown
        clear e1
        go_wp2_with fail
        refine (HG2.out _ w2.heap.size _ hE ⟨A5, c5, by simp, by simpa using hown.cap.1, hown.cap.2, by simpa using hown.rd⟩).mono ?_; rintro e w7 ⟨g7, rfl, ho7, hE7⟩
        go_wp2_with fail
        refine (HG.out _ (hE.trans hE7)).mono ?_; rintro e w8 ⟨g8, rfl, ho8, hE8⟩
        go_wp2_with fail
        refine (ref_sameAll _ _ _ _ _ _ _ (ho7.sets.ext hE8) ho8.sets).mono ?_; rintro e w9 ⟨rfl, hE9⟩
        rw [decide_eq_true rfl]
        go_wp2_with fail
        go_ret
        exact ⟨rfl, ((hE.trans hE7).trans hE8).trans hE9⟩
  · rw [hb] at HL
    clear hb
    go_enter Tryz.func7, Tryz.ntmps7
    go_wp2_with fail
    refine (HL.out _ (Ext.refl _)).mono ?_; rintro e w1 ⟨rfl, hE1⟩
    go_wp2_with fail
    refine (HA.out _ hE1).mono ?_; rintro e w2 ⟨rfl, hE2⟩
    go_wp2_with fail
    go_ret
    exact ⟨rfl, hE1.trans hE2⟩
end Go.Proofs.YthdlgmfeicikpaaGreatDoor
namespace Go.Proofs.YthdlgmfeicikpaaGreatDoor
set_option linter.unusedSimpArgs false
set_option linter.unusedVariables false
open Go.ChangeShapes Go.WideShapes Go.ChangeAt Go.RowKit
set_option maxRecDepth 100000

theorem rrsetLetters_contract (H : Type) (enc : TypeId × Value → H) (W : World) (base : Nat) (args : Array Value) (ds gs : List (DataW H)) (before : List MemPlace)
    (hval : ∀ (j : Nat) t v, Tryz.f7.params[j]? = some t → args[j]? = some v → Value.okWide Tryz.prog W .any base t v)
    (hW : DataW.Whole enc Tryz.prog Tryz.f7.params.toList Rows.rrsetLettersSpec.vars false W args.toList ds gs before)
    (hsz : (DataW.weightsEach Tryz.prog (Tryz.f7.params.toList ++ (OpenSpec.ofChange Rows.rrsetLettersSpec).bare.plain.varTypes Tryz.prog) (ds ++ gs)).all (· ≤ reachBytes) = true)
    (hL : laidMetH Tryz.prog laidL W) :
    Calls Tryz.prog 7 args W fun e W' => ∃ v, e = .returned v ∧ Rows.rrsetLettersSpec.post enc Tryz.prog Tryz.f7 false true false false W args v W' := by
  have hW' := hW
  have hp : ∀ t ∈ Tryz.f7.params.toList, Tryz.prog.readableRec t = true ∧ t < Tryz.prog.types.size := by
    have h : (Tryz.f7.params.toList.all fun t => Tryz.prog.readableRec t && decide (t < Tryz.prog.types.size)) = true := by kernel_rfl
    simpa only [List.all_eq_true, Bool.and_eq_true, decide_eq_true_eq] using h
  have hg := laid_of hL
  obtain ⟨p, q, hA0, hV, rfl, _, _⟩ := hW
  have hA : DataW.TrodAll enc Tryz.prog W 0 (fun _ => true) true Tryz.f7.params.toList args.toList ds p := hA0
  clear hA0
  rw [Tryz.params7] at hA hval hsz
  obtain ⟨rfl, rfl⟩ := trodVars_none hV
  obtain ⟨v0, d0, rfl, rfl, h0⟩ := trodAll_one hA
  obtain ⟨l, hr, hlo⟩ := open_recsW (hval 0 _ _ rfl rfl) h0
  refine (law_rrsetLetters v0 l W hg hr (fun r hr => ⟨reach_of hsz (j := 0) rfl rfl (hlo r hr).2.1, reach_of hsz (j := 0) rfl rfl (hlo r hr).2.2⟩) (fun r hr => (hlo r hr).1)).mono ?_
  rintro e W' ⟨rfl, hE⟩
  exact ⟨_, rfl, post_true laid_out rfl (by kernel_rfl) Tryz.underlying4 hp hW' rfl hE⟩

theorem rrsetLetters_reads (os : Os) {H : Type} (enc : TypeId × Value → H) : ∃ places, DataW.whole enc Tryz.prog ((laidWorld os).forCall (fun _ _ => 0) ⟨#[], #[.slice none 0 0], []⟩).memory Tryz.f7.params.toList Rows.rrsetLettersSpec.vars false (#[.slice none 0 0] : Array Value).toList 8 = some ([.nil], [], places) :=
  ⟨[], by kernel_rfl⟩
theorem rrsetLetters_lifted (os : Os) (started : os.Started) (H : Type) (enc : TypeId × Value → H) (F : Stop.Interp) :
    ReturnsInHanded {} Tryz.checked os 7 .any ((OpenSpec.ofChange Rows.rrsetLettersSpec).preRow enc Tryz.prog Tryz.f7 Rows.rrsetLettersRow.domain false Rows.rrsetLettersRow.laid) (((OpenSpec.ofChange Rows.rrsetLettersSpec).at F).post enc Tryz.prog Tryz.f7 false true false false) := by
  obtain ⟨places, hx⟩ := rrsetLetters_reads os enc
  refine returnsInHanded_of_row (C := Tryz.checked) (s := OpenSpec.ofChange Rows.rrsetLettersSpec) own_knob started (by kernel_rfl) Tryz.func7
    (witness_row_at (enc := enc) (C := Tryz.checked) false (laidWorld os) #[.slice none 0 0] rfl (by kernel_rfl) (by kernel_rfl) (by kernel_rfl)
      (OpenSpec.preRow_of_cond 8 hx (by kernel_rfl) (fun k hk => by cases hk) (by kernel_rfl) (laid_met os _))) ?_
  intro W base args ds gs before hval hW _ _ hsz hL _ _
  exact rrsetLetters_contract H enc W base args ds gs before hval hW hsz hL
theorem rrsetLetters_said : Rows.RrsetLettersSaid :=
  OpenClaim.holds_of_cond 7 Tryz.f7 rfl rfl rfl rfl rfl rfl rfl ⟨rfl, rfl, rfl, rfl, rfl⟩ rfl rfl rfl rfl rfl (by kernel_rfl) Tryz.func7 (by kernel_rfl)
    (of_decide_eq_true (by kernel_rfl)) (by unfold Func.isWrapper; first | (rw [if_pos (by decide +kernel)]; kernel_rfl) | (rw [if_neg (by decide +kernel)]; exact ⟨rfl, rfl⟩))
    (fun os started H enc _ F => by rw [OpenClaim.pre_eq_preRow]; exact rrsetLetters_lifted os started H enc F)
/-- THE CARD. -/
theorem rrsetLetters_card : Rows.RrsetLettersCardSaid :=
  Claim7.holds_tied_plain_at .later [] _ _ _ _ rrsetLetters_said (fun _ h => by cases h) (by kernel_rfl) (fun _ h => by cases h) rrsetLetters_row_tie rfl ⟨rfl, rfl⟩ (by kernel_rfl) rfl
    (fun f fn hf hfn => by
      obtain rfl : f = 7 := Option.some.inj ((show Tryz.prog.funcNamed Rows.rrsetLettersRow.func = some 7 by kernel_rfl).symm.trans hf) |>.symm
      obtain rfl : fn = Tryz.f7 := (Option.some.inj (Tryz.func7.symm.trans hfn)).symm
      refine ⟨by kernel_rfl, fun j t ht => ?_⟩
      have h : (Tryz.f7.params.toList.all fun t => !Tryz.prog.wantsStandIn t) = true := by kernel_rfl
      have h2 := List.all_eq_true.1 h t (by simpa using Array.mem_of_getElem? ht)
      exact (by simpa using h2 : Tryz.prog.wantsStandIn t = false))
    (by kernel_rfl)
#print axioms rrsetLetters_card
end Go.Proofs.YthdlgmfeicikpaaGreatDoor
