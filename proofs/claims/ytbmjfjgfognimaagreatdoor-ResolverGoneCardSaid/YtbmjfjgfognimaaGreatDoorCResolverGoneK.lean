/- hustingslaw30.ResolverGone returns true for every input, and every argument reads behind the call as it read before; the listed variables are tied to the program's text. No condition of ours. -/
import Derived.Test.YtbmjfjgfognimaaGreatDoorCards
import Derived.Test.YtbmjfjgfognimaaGreatDoorTie
import Derived.Test.YtbmjfjgfognimaaGreatDoorKb
import Derived.ProofKit
import Derived.OpenShut
import Derived.LaidHandle
import Derived.LaidLaws
import Derived.Test.YtbmjfjgfognimaaGreatDoorKwy
import Derived.Deep.DeepHandedRow
import Derived.Test.YtbmjfjgfognimaaGreatDoorKpr
import Derived.Test.YtbmjfjgfognimaaGreatDoorKhq
import Derived.Test.YtbmjfjgfognimaaGreatDoorKl3
import Derived.Test.YtbmjfjgfognimaaGreatDoorKu0
import Derived.Test.YtbmjfjgfognimaaGreatDoorKj
import Derived.Test.YtbmjfjgfognimaaGreatDoorKhx
import Derived.Deep.RegionHeld3
import Derived.Test.YtbmjfjgfognimaaGreatDoorKg
import Derived.Test.YtbmjfjgfognimaaGreatDoorKry
import Derived.Carry
namespace Go.Proofs.YtbmjfjgfognimaaGreatDoor
set_option linter.unusedSimpArgs false
set_option linter.unusedVariables false
open Go.ChangeShapes Go.WideShapes Go.ChangeAt Go.RowKit
set_option maxRecDepth 100000

theorem own_knob : ownKnob Tryz.prog.godebug = none := by kernel_rfl
theorem et_at : Tryz.prog.globalNamed "errors.errorType" = some 3 := by kernel_rfl
theorem one_row : ((List.range Tryz.prog.types.size).filter fun t => Tryz.prog.rowNamed t [101, 114, 114, 111, 114]) = [160] := by kernel_rfl
def laidL : List (String × DataW Unit) := [("errors.errorType", Rows.laid_errors_errorType), ("hustings/head.bits", Rows.laid_hustings_head_bits)]

theorem laid_of {W : World} (h : laidMetH Tryz.prog laidL W) : Laid W := by
  have h' : laidMet Tryz.prog [("hustings/head.bits", Rows.laid_hustings_head_bits)] W ∧ handlesMet Tryz.prog [("errors.errorType", Rows.laid_errors_errorType)] W := h
  obtain ⟨name, u, ty, e1, e2, e3, e4, e5⟩ := h'.2 _ (List.mem_singleton.2 rfl)
  have en : name = [101, 114, 114, 111, 114] := (Option.some.inj e1).symm
  subst en
  obtain rfl : u = 322 := Option.some.inj (e2.symm.trans (by kernel_rfl))
  have hm : ty ∈ (List.range Tryz.prog.types.size).filter fun t => Tryz.prog.rowNamed t [101, 114, 114, 111, 114] := List.mem_filter.2 ⟨List.mem_range.2 e3, e4⟩
  rw [one_row] at hm
  obtain rfl := List.mem_singleton.1 hm
  have hh : typeHandle Tryz.prog 160 = hdl 160 := by kernel_rfl
  rw [hh] at e5
  show W.cell? ⟨3, 0, none⟩ = _
  simpa using World.var?_cell et_at e5 0

theorem bits_at : Tryz.prog.globalNamed "hustings/head.bits" = some 2 := by kernel_rfl
theorem one_cell {l : List Value} {i : Nat} {v : Value} (h : (l.drop i).take 1 = [v]) : l[i]? = some v := by
  have h1 := congrArg (fun x : List Value => x[0]?) h
  simpa using h1
def bitsL : List Int := [32768, 1024, 512, 256, 128, 64, 32, 16]
theorem laidbits_of {W : World} (h : laidMetH Tryz.prog laidL W) : BitsAt W := by
  have h' : laidMet Tryz.prog [("hustings/head.bits", Rows.laid_hustings_head_bits)] W ∧ handlesMet Tryz.prog [("errors.errorType", Rows.laid_errors_errorType)] W := h
  obtain ⟨ps, hlv, _, _⟩ := h'.1
  obtain ⟨g, t, cs, fuel, p, q, e1, e2, e3, e4, _, _⟩ := hlv
  obtain rfl : 2 = g := Option.some.inj (bits_at.symm.trans e1)
  obtain rfl : 260 = t := Option.some.inj ((show (Tryz.prog.globals[2]?).map (·.type) = some 260 by kernel_rfl).symm.trans e2)
  obtain ⟨xs, n, _, hd, _, hlen, hf⟩ := DataW.trod_array Tryz.underlying260 e4
  have hd1 := (Prod.mk.inj hd).1
  have key : ∀ i, i < 8 → cs.toList[i]? = some (.int .u16 (bitsL.getD i 0)) := fun i hi => by
    have hx : (xs.map (·.1))[i]? = some (.lit (.int .u16 (bitsL.getD i 0))) := by
      have h1 : xs.map (·.1) = bitsL.map fun k => (.lit (.int .u16 k) : DataW Unit) := by
        injection hd1 with h1
        exact h1.symm
      rw [h1, List.getElem?_map, List.getElem?_eq_getElem (show i < bitsL.length from hi)]
      simp [List.getD, List.getElem?_eq_getElem (show i < bitsL.length from hi)]
    rw [List.getElem?_map] at hx
    obtain ⟨y, hy1, hy2⟩ := Option.map_eq_some_iff.1 hx
    have h2 := (hf i hi).trans hy1
    rw [show Tryz.prog.cellsOf 26 = 1 by kernel_rfl, Nat.mul_one] at h2
    obtain ⟨m, g1, g2, _⟩ := DataW.trod_int Tryz.underlying26 h2
    rw [g2] at hy2
    have hm : m = bitsL.getD i 0 := by
      injection hy2 with hy2
      injection hy2
    rw [← hm]
    exact one_cell g1
  have key2 : ∀ i, i < 8 → W.cell? ⟨2, i, none⟩ = some (.int .u16 (bitsL.getD i 0)) := fun i hi => by
    rw [World.var?_cell bits_at e3 i]
    simpa using key i hi
  exact ⟨key2 0 (by omega), key2 1 (by omega), key2 2 (by omega), key2 3 (by omega), key2 4 (by omega), key2 5 (by omega), key2 6 (by omega), key2 7 (by omega)⟩
noncomputable def laidWorld (os : Os) : World :=
  let w0 := World.holding Tryz.prog os ⟨#[], #[], []⟩
  { w0 with heap := (w0.heap.modify 3 fun
      | .cells _ t frozen => .cells #[errTy] t frozen
      | o => o).modify 2 fun
      | .cells _ t frozen => .cells #[.int .u16 32768, .int .u16 1024, .int .u16 512, .int .u16 256, .int .u16 128, .int .u16 64, .int .u16 32, .int .u16 16] t frozen
      | o => o }
theorem laid_met (os : Os) (args : Array Value) : laidMetH Tryz.prog laidL ((laidWorld os).forCall (fun _ _ => 0) ⟨#[], args, []⟩).memory :=
  laidMetH_of_parts (laidMet_of_run' 8 (by kernel_rfl) (by kernel_rfl)) (by kernel_rfl)

section
variable {H : Type} {enc : TypeId × Value → H} {P : Program}
theorem trodAll_stays (hl : laidOutB P = true) {W W' : World} (hb : Below W.heap.size W W') {sp : Nat → Bool} : ∀ {ts : List TypeId} {vs : List Value} {ds : List (DataW H)} {ps : List MemPlace},
    (∀ t ∈ ts, P.readableRec t = true ∧ t < P.types.size) → DataW.TrodAll enc P W 0 (fun _ => true) true ts vs ds ps → (∀ x ∈ ps, x.block < W.heap.size) → (∀ x ∈ ps, sp x.block = true) → DataW.TrodAll enc P W' 0 sp true ts vs ds ps
  | [], _, _, _, _, h, _, _ => by obtain ⟨rfl, rfl, rfl⟩ := trodAll_nil h; exact trodAll_mk0
  | t :: ts, _, _, _, ht, h, hlt, hs => by
    obtain ⟨v, vs, d, ds, p, q, rfl, rfl, rfl, h0, h1⟩ := trodAll_cons h
    have h2 := ht t (by simp)
    exact trodAll_cons_mk (WideElems.Trod_stays hl h2.1 h2.2 h0 (fun x hx => hb.same (hlt x (by simp [hx]))) (fun x hx => hs x (by simp [hx])))
      (trodAll_stays hl hb (fun t ht' => ht t (by simp [ht'])) h1 (fun x hx => hlt x (by simp [hx])) (fun x hx => hs x (by simp [hx])))
theorem post_of_below {f : Func} {s : ChangeSpec} {apart fresh handsOn again : Bool} {W W' : World} {args : Array Value} {v : Value} {ds gs : List (DataW H)} {before pa pv : List MemPlace}
    (hW : DataW.Whole enc P f.params.toList s.vars apart W args.toList ds gs before)
    (hres : ∀ (b : Nat) (sp : Nat → Bool) (hd : Bool), DataW.TrodAll enc P W' b sp hd f.resultTypes.toList (v.resultList f.resultTypes.size) (s.fn H (ds ++ gs)).results [])
    (hargs : ∀ sp : Nat → Bool, (∀ p ∈ before, sp p.block = true) → DataW.TrodAll enc P W' 0 sp true f.params.toList args.toList (s.fn H (ds ++ gs)).args pa)
    (hvars : ∀ sp : Nat → Bool, (∀ p ∈ before, sp p.block = true) → DataW.TrodVars enc P W' sp s.vars (s.fn H (ds ++ gs)).vars pv)
    (hps : before = pa ++ pv) (hb : Below W.heap.size W W')
    (hok : ∀ (j : Nat) (t : TypeId) (r : Value), f.resultTypes[j]? = some t → (v.resultList f.resultTypes.size)[j]? = some r → Value.okWide P W' .any 0 t r) :
    s.post enc P f apart fresh handsOn again W args v W' := by
  have hlt : ∀ p ∈ before, p.block < W.heap.size := fun p hp => hW.lt p hp
  have hold : ∀ p ∈ before, (fun b => decide (b < W.heap.size)) p.block = true := fun p hp => by simpa using hlt p hp
  refine ⟨ds, gs, before, [], pa, pv, hW, hres _ _ _, hargs _ hold, hvars _ hold, World.keptBut_mono (fun p hp => ⟨hp, ?_⟩) (hb.frame (· ∈ before)), fun _ => ?_⟩
  · rw [hps, List.mem_append] at hp
    exact Or.inr hp
  · obtain ⟨_, _, _, _, _, hz, hn⟩ := hW
    refine ⟨hok, _, _, ([] ++ pa) ++ pv, ⟨[] ++ pa, pv, trodAll_append (hargs _ (fun _ _ => rfl)) (hres _ _ _), hvars _ (fun _ _ => rfl), rfl, ?_, ?_⟩, ?_⟩
    · intro b off hp
      have hin : MemPlace.cell b off ∈ before := by rw [hps]; simpa using hp
      rw [hb.frozen (hlt _ hin)]
      exact hz b off hin
    · intro ha
      have := hn ha
      rw [hps] at this
      simpa using this
    · intro p hp _
      rw [hps]
      simpa using hp
/-- A law that returns true and only makes memory: its post. -/
theorem post_true {f : Func} {s : ChangeSpec} {apart fresh handsOn again : Bool} {W W' : World} {args : Array Value} {ds gs : List (DataW H)} {before : List MemPlace} {t : TypeId}
    (hl : laidOutB P = true) (hvn : s.vars = []) (hr : f.resultTypes = #[t]) (ht : P.underlying t = some .bool)
    (hp : ∀ t ∈ f.params.toList, P.readableRec t = true ∧ t < P.types.size)
    (hW : DataW.Whole enc P f.params.toList s.vars apart W args.toList ds gs before)
    (hfn : s.fn H ds = { results := [.lit (.bool true)], args := ds }) (hb : Ext W W') :
    s.post enc P f apart fresh handsOn again W args (.bool true) W' := by
  have hW' := hW
  obtain ⟨p, q, hA, hV, rfl, _, _⟩ := hW
  rw [hvn] at hV
  obtain ⟨rfl, rfl⟩ := trodVars_none hV
  have hlt : ∀ x ∈ p, x.block < W.heap.size := fun x hx => by simpa using hW'.lt x (by simp [hx])
  refine post_of_below (pa := p) (pv := []) hW' (fun _ _ _ => ?_) (fun sp hs => ?_) (fun _ _ => ?_) rfl hb (ok_one hr rfl (okWide_bool_mk ht _))
  · rw [List.append_nil, hfn, hr]; exact trodAll_mk1 (shut_bool ht true)
  · rw [List.append_nil, hfn]; exact trodAll_stays hl hb hp hA hlt (fun x hx => hs x (by simp [hx]))
  · rw [List.append_nil, hfn, hvn]; rfl
end
theorem laid_out : laidOutB Tryz.prog = true := by kernel_rfl
end Go.Proofs.YtbmjfjgfognimaaGreatDoor
namespace Go.Proofs.YtbmjfjgfognimaaGreatDoor
set_option linter.unusedSimpArgs false
set_option linter.unusedVariables false
open Go.RowKit
set_option maxRecDepth 100000

theorem query_dec30 {n : List UInt8} {ty cls id size : Int} (ht : 0 ≤ ty ∧ ty ≤ 65535) (hc : 0 ≤ cls ∧ cls ≤ 65535) (hi : 0 ≤ id ∧ id ≤ 65535) (h : queryErr n ty cls id size = 0) :
    may n = true ∧ decR (queryOf n ty cls id size) = .ok (queryM n ty cls id size) ∧ (queryOf n ty cls id size).length ≤ 65535 := by
  unfold queryErr at h
  unfold queryOf
  by_cases hm : queryMay n size
  · rw [if_pos hm] at h ⊢
    refine ⟨hm.1, dec_enc (queryM_wf ht hc hi hm.2) h, ?_⟩
    rw [(enc_may h).2.2]; exact (enc_may h).2.1
  · rw [if_neg hm] at h; cases h
theorem gone_read {l : List RecD} (hwf : ∀ r ∈ l, r.wf) {n : List UInt8} {ty cls id : Int} (ht : 0 ≤ ty ∧ ty ≤ 65535) (hc : 0 ≤ cls ∧ cls ≤ 65535) (hi : 0 ≤ id ∧ id ≤ 65535) (h : queryErr n ty cls id 4096 = 0) :
    ∃ m : MsgD, decR (resOf (groupR l) (queryOf n ty cls id 4096)) = .ok m ∧ (resOf (groupR l) (queryOf n ty cls id 4096)).length ≤ 65536 ∧ m.hd.code = (rlookOf (groupR l) n ty cls).code ∧
      (m.hd.tc = true ∨ (m.hd.tc = false ∧ m.ans = (rlookOf (groupR l) n ty cls).ans.flatMap recsOf)) := by
  obtain ⟨hm, hd, _⟩ := query_dec30 ht hc hi h
  have e : resOf (groupR l) (queryOf n ty cls id 4096) = resBy (queryM n ty cls id 4096) (rlookOf (groupR l) n ty cls) := by
    unfold resOf
    rw [hd]
    show (if (false = false ∧ (0 : Int) = 0) then resBy (queryM n ty cls id 4096) (rlookOf (groupR l) (fold n) ty cls) else []) = _
    rw [if_pos ⟨rfl, rfl⟩, rlook_fold]
  rw [e]
  rcases res_read hwf (queryM_wf (n := n) (size := 4096) ht hc hi (by omega)) (x := ⟨fold n, ty, cls⟩) rfl (fold_may hm).1 (rlook_ok l n ty cls) with ⟨e1, e2, e3, e4⟩ | ⟨e1, _, _, e3, e4⟩
  · refine ⟨_, e4, ?_, rfl, .inr ⟨rfl, rfl⟩⟩
    rw [e1]
    have : resRoom (queryM n ty cls id 4096) = 4096 := rfl
    omega
  · refine ⟨_, e4, ?_, rfl, .inl rfl⟩
    rw [e1]; omega
end Go.Proofs.YtbmjfjgfognimaaGreatDoor
namespace Go.Proofs.YtbmjfjgfognimaaGreatDoor
set_option linter.unusedSimpArgs false
set_option linter.unusedVariables false
open Go.RowKit
set_option maxRecDepth 100000

theorem any_step30 (l : List RecD) (at_ : List UInt8) (c : Int) (k : Nat) (h : k < l.length) : (l.take (k + 1)).any (hereR at_ c) = ((l.take k).any (hereR at_ c) || (l[k].cls == c && withinN l[k].name at_)) := by
  rw [take_snoc l k h, List.any_append]
  simp [hereR]
theorem OSets.shape30 {w : World} {lo : Nat} {v : Value} {l : List SetD} (h : OSets w lo v l) : ∃ A c, v = .slice A l.length c ∧ l.length ≤ c ∧ c ≤ maxLen := by
  obtain ⟨ps, A, c, h1, h2, h3, _⟩ := h
  have hl : ps.length = l.length := by rw [← h1]; simp
  exact ⟨A, c, by rw [h2, hl], by rw [← hl]; exact h3.cap.1, h3.cap.2⟩
set_option maxHeartbeats 8000000 in
theorem law30_gone (v : Value) (l : List RecD) (n : List UInt8) (ty cls id : Int) (w : World) (hg : Laid w) (hb : BitsAt w) (h : Recs w 0 v l) (hwf : ∀ r ∈ l, r.wf)
    (hs : ∀ r ∈ l, r.name.length ≤ maxLen ∧ r.data.length ≤ maxLen) (hn : n.length ≤ maxLen) (ht : 0 ≤ ty ∧ ty ≤ 65535) (hc : 0 ≤ cls ∧ cls ≤ 65535) (hi : 0 ≤ id ∧ id ≤ 65535) :
    Calls Tryz.prog 9 #[v, .agg #[S n, .int .u16 ty, .int .u16 cls], .int .u16 id] w fun e w' => e = .returned (.bool true) ∧ Ext w w' := by
  unfold maxLen at hn
  have HFw := Lib.hid (fun V (hV : Ext w V) => law30_few 0 v l V (h.ext hV) hs)
  have HAw := Lib.hid (fun V (hV : Ext w V) => law30_awake V (hg.ext hV) (hb.ext hV))
  have HH := Lib.hid h
  obtain ⟨A, c, rfl, h1, h2, hrd⟩ := h
  unfold maxLen at h2
  unfold FewPost at HFw
  obtain ⟨X0, hX0⟩ : ∃ X0, X0 = w.alloc (.cells #[S n, .int .u16 ty, .int .u16 cls] 32) := ⟨_, rfl⟩
  obtain ⟨b4, hb4⟩ : ∃ b4, b4 = w.heap.size := ⟨_, rfl⟩
  have r4 : X0.heap[b4]? = some (.cells #[S n, .int .u16 ty, .int .u16 cls] 32) := by rw [hX0, hb4]; exact heap_alloc_new _ _
  have hE0 : Ext w X0 := by rw [hX0]; exact (Ext.refl _).alloc _
  go_enter Tryz.func9, Tryz.ntmps9
  go_upto_region 1 with fail
  rw [← hX0, ← hb4]
  clear hX0 hb4
  have k0 := box_cell (j := 0) r4 rfl
  go_wp2_with fail
  refine (HFw.out _ hE0).mono ?_
  rintro e w1 ⟨B1, rfl, hB1, rfl⟩
  rcases B1 with _ | _
  · go_wp2_with fail
    refine (HAw.out _ hE0).mono ?_
    rintro e w2 ⟨rfl, hE2⟩
    go_wp2_with fail
    go_ret
    exact ⟨rfl, hE0.trans hE2⟩
  have HF1 := Lib.hid (hB1 rfl)
  clear hB1 HFw
  by_cases hn4 : 400 < n.length
  · have hni : decide ((400 : Int) < (n.length : Int)) = true := decide_eq_true (by omega)
    go_wp2_with fail
    refine (HAw.out _ hE0).mono ?_
    rintro e w2 ⟨rfl, hE2⟩
    go_wp2_with fail
    go_ret
    exact ⟨rfl, hE0.trans hE2⟩
  have hni : decide ((400 : Int) < (n.length : Int)) = false := decide_eq_false (by omega)
  have HN4 := Lib.hid hn4
  clear hn4
  go_wp2_with fail
  refine (HAw.out _ hE0).mono ?_
  rintro e w2 ⟨rfl, hE2⟩
  have r42 := (hE2.block _ (Array.getElem?_eq_some_iff.1 r4).1).trans r4
  have hw2 : Ext w w2 := hE0.trans hE2
  clear k0 hni
  have k0 := box_cell (j := 0) r42 rfl
  have k1 := box_cell (j := 1) r42 rfl
  have k2 := box_cell (j := 2) r42 rfl
  have HQ := Lib.hid (heard_query n ty cls id 4096 w2 (hg.ext hw2) (hb.ext hw2) (by have := HN4.out; omega) ht hc hi)
  unfold QueryPost at HQ
  obtain ⟨qs, hqs⟩ : ∃ s, s = queryOf n ty cls id 4096 := ⟨_, rfl⟩
  obtain ⟨qe, hqe⟩ : ∃ e, e = queryErr n ty cls id 4096 := ⟨_, rfl⟩
  rw [← hqs, ← hqe] at HQ
  have HQs := Lib.hid hqs
  have HQe := Lib.hid hqe
  clear hqs hqe
  go_wp2_with fail
  refine HQ.out.mono ?_
  rintro e w9 ⟨rfl, hE9⟩
  have hw9 : Ext w w9 := hw2.trans hE9
  have r49 := (hE9.block _ (Array.getElem?_eq_some_iff.1 r42).1).trans r42
  have HN1 := Lib.hid (res_new 0 _ l w9 (hg.ext hw9) (HH.out.ext hw9) HF1.out.bd (recsOk_wf hwf))
  unfold NewPost at HN1
  clear k0 k1 k2
  by_cases hqz : qe = 0
  rotate_left
  · have g1 : ((qe : Int) != 0) = true := by simpa using hqz
    clear hqz
    go_wp2_with fail
    refine HN1.out.mono ?_
    rintro e w10 (⟨_, R1, gv1, rfl, _, _, _, hE10⟩ | ⟨_, rfl, hE10⟩)
    all_goals
      go_wp2_with fail
      go_ret
      exact ⟨rfl, hw9.trans hE10⟩
  have g1 : ((qe : Int) != 0) = false := by rw [hqz]; rfl
  have HGR := Lib.hid (gone_read hwf ht hc hi (HQe.out ▸ hqz))
  have HQd := Lib.hid (query_dec30 ht hc hi (HQe.out ▸ hqz))
  clear hqz
  go_wp2_with fail
  refine HN1.out.mono ?_
  rintro e w10 (⟨hall, R1, gv1, rfl, _, hR1, ho1, hE10⟩ | ⟨_, rfl, hE10⟩)
  rotate_left
  · go_wp2_with fail
    go_ret
    exact ⟨rfl, hw9.trans hE10⟩
  have hw10 := hw9.trans hE10
  have hokr : ∀ r ∈ l, okRec r = true := by rw [List.all_eq_true] at hall; exact hall
  have HCode := Lib.hid (gone_code hokr n ty cls)
  have HMoved := Lib.hid (gone_moved hwf (n := n) (ty := ty) (cls := cls))
  have HCd := Lib.hid (rlook_ok l n ty cls).code
  clear hall
  have r410 := (hE10.block _ (Array.getElem?_eq_some_iff.1 r49).1).trans r49
  have HA1 := Lib.hid (res_answer l gv1 R1 qs w10 (hg.ext hw10) (hb.ext hw10) (box_cell hR1 rfl) (ho1.sets.lower (Nat.zero_le _)) HF1.out.bd hwf (by rw [HQs.out]; have := HQd.out.2.2; omega))
  unfold StrPost at HA1
  rw [← HQs.out] at HGR
  obtain ⟨m, hmd, hml, hmc, hma⟩ := HGR.out
  have HMd := Lib.hid hmd
  have HMc := Lib.hid hmc
  have HMa := Lib.hid hma
  clear hmc hma
  have HDec := Lib.hid (fun V (hV : Ext w V) => wire_decode _ V (hg.ext hV) (hb.ext hV) (show (resOf (groupR l) qs).length ≤ 1048576 by omega))
  generalize resOf (groupR l) qs = rs at *
  clear hmd hml
  go_wp2_with fail
  refine HA1.out.mono ?_
  rintro e w11 ⟨rfl, hE11⟩
  have hw11 := hw10.trans hE11
  go_wp2_with fail
  refine (HDec.out _ hw11).mono ?_
  rintro e Y ⟨⟨kk, hk0, hx, rfl⟩ | ⟨m', q, a, u, x, o, hm, rfl, hMO, hBd⟩, hEd⟩
  · exact absurd (HMd.out.symm.trans hx) (by simp)
  obtain rfl : m = m' := by have := HMd.out.symm.trans hm; injection this
  clear hm
  obtain ⟨⟨qA, qc, rfl, -⟩, ⟨aA, ac, rfl, -⟩, ⟨uA, uc, rfl, -⟩, ⟨xA, xc, rfl, -⟩, ⟨oA, oc, rfl, -⟩⟩ := hMO
  have hY := hw11.trans hEd
  dsimp only
  iterate 10 go_step
  obtain ⟨b5, hb5⟩ : ∃ b5, b5 = Y.heap.size := ⟨_, rfl⟩
  have hz : (Y.alloc (.cells msgZ 45)).heap[b5]? = some (.cells msgZ 45) := by rw [hb5]; exact heap_alloc_new _ _
  refine Go.Great.wpList_allocTo rfl (some 11) rfl (.pointer (some ⟨Y.heap.size, 0, none⟩)) (.cells msgZ 45) (by kernel_rfl) ?_
  rw [← hb5]
  refine Go.wpList_store_rowTo rfl 45 (.tmp 11) (.tmp 55) rfl rfl b5 #[.int .u16 m.hd.id, .bool m.hd.qr, .int .u8 m.hd.op, .bool m.hd.aa, .bool m.hd.tc, .bool m.hd.rd, .bool m.hd.ra, .bool m.hd.z, .bool m.hd.ad, .bool m.hd.cd, .int .u8 m.hd.code, .slice qA m.qs.length qc, .slice aA m.ans.length ac, .slice uA m.auth.length uc, .slice xA m.extra.length xc, .bool m.he, .int .u16 m.ed.size, .int .u8 m.ed.ext, .int .u8 m.ed.ver, .int .u16 m.ed.flags, .slice oA m.ed.opts.length oc] rfl rfl 45 _ hz (by kernel_rfl) rfl (by kernel_rfl) ?_
  rw [alloc_setRow7 Y msgZ #[.int .u16 m.hd.id, .bool m.hd.qr, .int .u8 m.hd.op, .bool m.hd.aa, .bool m.hd.tc, .bool m.hd.rd, .bool m.hd.ra, .bool m.hd.z, .bool m.hd.ad, .bool m.hd.cd, .int .u8 m.hd.code, .slice qA m.qs.length qc, .slice aA m.ans.length ac, .slice uA m.auth.length uc, .slice xA m.extra.length xc, .bool m.he, .int .u16 m.ed.size, .int .u8 m.ed.ext, .int .u8 m.ed.ver, .int .u16 m.ed.flags, .slice oA m.ed.opts.length oc] 45 b5 hb5]
  iterate 3 go_step
  refine wpList_nil ?_
  (try rw [← hb5])
  have r5 : (Y.alloc (.cells #[.int .u16 m.hd.id, .bool m.hd.qr, .int .u8 m.hd.op, .bool m.hd.aa, .bool m.hd.tc, .bool m.hd.rd, .bool m.hd.ra, .bool m.hd.z, .bool m.hd.ad, .bool m.hd.cd, .int .u8 m.hd.code, .slice qA m.qs.length qc, .slice aA m.ans.length ac, .slice uA m.auth.length uc, .slice xA m.extra.length xc, .bool m.he, .int .u16 m.ed.size, .int .u8 m.ed.ext, .int .u8 m.ed.ver, .int .u16 m.ed.flags, .slice oA m.ed.opts.length oc] 45)).heap[b5]? = some (.cells #[.int .u16 m.hd.id, .bool m.hd.qr, .int .u8 m.hd.op, .bool m.hd.aa, .bool m.hd.tc, .bool m.hd.rd, .bool m.hd.ra, .bool m.hd.z, .bool m.hd.ad, .bool m.hd.cd, .int .u8 m.hd.code, .slice qA m.qs.length qc, .slice aA m.ans.length ac, .slice uA m.auth.length uc, .slice xA m.extra.length xc, .bool m.he, .int .u16 m.ed.size, .int .u8 m.ed.ext, .int .u8 m.ed.ver, .int .u16 m.ed.flags, .slice oA m.ed.opts.length oc] 45) := by rw [hb5]; exact heap_alloc_new _ _
  have hYX : Ext Y (Y.alloc (.cells #[.int .u16 m.hd.id, .bool m.hd.qr, .int .u8 m.hd.op, .bool m.hd.aa, .bool m.hd.tc, .bool m.hd.rd, .bool m.hd.ra, .bool m.hd.z, .bool m.hd.ad, .bool m.hd.cd, .int .u8 m.hd.code, .slice qA m.qs.length qc, .slice aA m.ans.length ac, .slice uA m.auth.length uc, .slice xA m.extra.length xc, .bool m.he, .int .u16 m.ed.size, .int .u8 m.ed.ext, .int .u8 m.ed.ver, .int .u16 m.ed.flags, .slice oA m.ed.opts.length oc] 45)) := (Ext.refl _).alloc _
  obtain ⟨X5, hX⟩ : ∃ X5, X5 = Y.alloc (.cells #[.int .u16 m.hd.id, .bool m.hd.qr, .int .u8 m.hd.op, .bool m.hd.aa, .bool m.hd.tc, .bool m.hd.rd, .bool m.hd.ra, .bool m.hd.z, .bool m.hd.ad, .bool m.hd.cd, .int .u8 m.hd.code, .slice qA m.qs.length qc, .slice aA m.ans.length ac, .slice uA m.auth.length uc, .slice xA m.extra.length xc, .bool m.he, .int .u16 m.ed.size, .int .u8 m.ed.ext, .int .u8 m.ed.ver, .int .u16 m.ed.flags, .slice oA m.ed.opts.length oc] 45) := ⟨_, rfl⟩
  rw [← hX] at r5 hYX ⊢
  clear hX hz hb5
  have hX5 : Ext w X5 := hY.trans hYX
  have h105 : Ext w10 X5 := (hE11.trans hEd).trans hYX
  have r45 := (h105.block _ (Array.getElem?_eq_some_iff.1 r410).1).trans r410
  have c10 := box_cell (j := 10) r5 rfl
  have c4 := box_cell (j := 4) r5 rfl
  have c12 := box_cell (j := 12) r5 rfl
  change X5.cell? ⟨b5, 10, none⟩ = some (.int .u8 m.hd.code) at c10
  change X5.cell? ⟨b5, 4, none⟩ = some (.bool m.hd.tc) at c4
  change X5.cell? ⟨b5, 12, none⟩ = some (.slice aA m.ans.length ac) at c12
  have z5 := (Array.getElem?_eq_some_iff.1 r5).1
  have q0 := box_cell (j := 0) r45 rfl
  have q1 := box_cell (j := 1) r45 rfl
  have q2 := box_cell (j := 2) r45 rfl
  change X5.cell? ⟨b4, 0, none⟩ = some (S n) at q0
  change X5.cell? ⟨b4, 1, none⟩ = some (.int .u16 ty) at q1
  change X5.cell? ⟨b4, 2, none⟩ = some (.int .u16 cls) at q2
  have z4 := (Array.getElem?_eq_some_iff.1 r45).1
  have HB := Lib.hid (show ∀ V, Ext X5 V → V.cell? ⟨b5, 10, none⟩ = some (.int .u8 m.hd.code) ∧ V.cell? ⟨b5, 4, none⟩ = some (.bool m.hd.tc) ∧ V.cell? ⟨b5, 12, none⟩ = some (.slice aA m.ans.length ac) ∧ V.cell? ⟨b4, 0, none⟩ = some (S n) ∧ V.cell? ⟨b4, 1, none⟩ = some (.int .u16 ty) ∧ V.cell? ⟨b4, 2, none⟩ = some (.int .u16 cls) from fun V hV => ⟨(hV.cell (p := ⟨b5, 10, none⟩) z5).trans c10, (hV.cell (p := ⟨b5, 4, none⟩) z5).trans c4, (hV.cell (p := ⟨b5, 12, none⟩) z5).trans c12, (hV.cell (p := ⟨b4, 0, none⟩) z4).trans q0, (hV.cell (p := ⟨b4, 1, none⟩) z4).trans q1, (hV.cell (p := ⟨b4, 2, none⟩) z4).trans q2⟩)
  have HS8 := Lib.hid (show ∀ V, Ext X5 V → V.cell? ⟨b4, 0, none⟩ = some (S n) ∧ V.cell? ⟨b4, 1, none⟩ = some (.int .u16 ty) ∧ V.cell? ⟨b4, 2, none⟩ = some (.int .u16 cls) from fun V hV => (HB.out V hV).2.2.2)
  have HG := Lib.hid (fun W (hW : Ext X5 W) => rrset_groupR 0 _ l W (hg.ext (hX5.trans hW)) (HH.out.ext (hX5.trans hW)) HF1.out.bd (recsOk_wf hwf))
  have HF := Lib.hid (fun W (hW : Ext X5 W) x g (hS : Sets W x g (groupR l)) => chain_follow x n ty cls g (groupR l) W (hg.ext (hX5.trans hW)) hS (groupR_bd HF1.out.bd) (by have := HN4.out; omega))
  unfold FollowPost at HF
  obtain ⟨R, hR⟩ : ∃ R, R = rlookOf (groupR l) n ty cls := ⟨_, rfl⟩
  rw [← hR] at HMc HMa HCode HMoved HCd
  unfold goneB at HCode
  clear hR c10 c4 c12 q0 q1 q2 r5 r45 z4 z5 hBd HMd HDec HA1 HN1 HQ ho1 hR1
  have HLen := Lib.hid (show (followOf n ty cls (groupR l)).here.length ≤ maxLen from by have := follow_here n ty cls (groupR l); unfold maxLen; omega)
  generalize followOf n ty cls (groupR l) = F at *
  generalize groupR l = sets at *
  go_upto_region 8 with fail
  go_region_held3 (fun V => V.cell? ⟨b4, 0, none⟩ = some (S n) ∧ V.cell? ⟨b4, 1, none⟩ = some (.int .u16 ty) ∧ V.cell? ⟨b4, 2, none⟩ = some (.int .u16 cls))
    (exact HS8.out _ (by (repeat (first | with_reducible exact Ext.refl _ | with_reducible assumption | with_reducible refine Ext.alloc ?_ _ | with_reducible refine Ext.drewN ?_ _ | with_reducible refine Ext.drew ?_ | (with_reducible refine Ext.setCell ?_ ?hp _; case hp => (simp <;> omega))))))
    (first
      | (go_at_call 39; refine (HG.out _ (by (repeat (first | with_reducible exact Ext.refl _ | with_reducible assumption | with_reducible refine Ext.alloc ?_ _ | with_reducible refine Ext.drewN ?_ _ | with_reducible refine Ext.drew ?_ | (with_reducible refine Ext.setCell ?_ ?hp _; case hp => (simp <;> omega)))))).mono ?_; rintro e w1 ⟨g, rfl, hos, hE1⟩; have hX1 : Ext X5 w1 := Ext.trans (by (repeat (first | with_reducible exact Ext.refl _ | with_reducible assumption | with_reducible refine Ext.alloc ?_ _ | with_reducible refine Ext.drewN ?_ _ | with_reducible refine Ext.drew ?_ | (with_reducible refine Ext.setCell ?_ ?hp _; case hp => (simp <;> omega))))) hE1; obtain ⟨gA, gc, rfl, hg1, hg2⟩ := hos.shape30)
      | (go_at_call 38; refine (HF.out _ hX1 _ _ hos.sets).mono ?_; rintro e w2 ⟨v2, u2, wm, rfl, ho2, hEm, ho3, hEn⟩; have hX2 : Ext X5 w2 := (hX1.trans hEm).trans hEn))
  obtain ⟨vA, vc, rfl, hv1, hv2⟩ := ho2.shape30
  obtain ⟨uA2, uc2, rfl, hu1, hu2⟩ := ho3.shape30
  have hw2' : Ext w w2 := hX5.trans hX2
  obtain ⟨c10, c4, c12, q0, q1, q2⟩ := HB.out _ hX2
  obtain ⟨G0, hG0⟩ : ∃ G0, G0 = (F.err == 0 && (F.fin.isEmpty && m.hd.code != 2)) := ⟨_, rfl⟩
  have HG0 := Lib.hid hG0
  clear hG0
  go_upto_region 11 with fail
  go_cut [17] (fun s17 wx => s17 = .bool G0 ∧ w2 = wx)
  case first =>
    by_cases he : F.err = 0
    rotate_left
    · have e1 : ((F.err : Int) == 0) = false := by simpa using he
      have hgo : G0 = false := by rw [HG0.out, show (F.err == 0) = false from by simpa using he]; rfl
      clear he
      subst hgo
      go_wp2_with fail
      go_meet
      exact ⟨rfl, rfl⟩
    have e1 : ((F.err : Int) == 0) = true := by rw [he]; rfl
    by_cases hf : F.fin = []
    rotate_left
    · have e2 : ((F.fin.length : Int) == 0) = false := by
        rw [beq_eq_false_iff_ne]; intro h'; exact hf (List.eq_nil_of_length_eq_zero (by omega))
      have hgo : G0 = false := by rw [HG0.out, show F.fin.isEmpty = false from by cases h' : F.fin.isEmpty; rfl; exact absurd (List.isEmpty_iff.1 h') hf]; simp
      clear he hf
      subst hgo
      go_wp2_with fail
      go_meet
      exact ⟨rfl, rfl⟩
    have e2 : ((F.fin.length : Int) == 0) = true := by rw [hf]; rfl
    have hgo : (m.hd.code != 2) = G0 := by rw [HG0.out, he, hf]; simp
    clear he hf
    go_wp2_with fail
    go_meet
    exact ⟨by first | rfl | rw [hgo], rfl⟩
  case rest =>
    obtain ⟨rfl, rfl⟩ := hcut
    go_wp2_with fail
    go_loopw [17, 18] (fun s17 s18 wr => ∃ k : Nat, k ≤ l.length ∧ s18 = .int .i64 k ∧ s17 = .bool (G0 && !(l.take k).any (hereR F.here cls)) ∧ Ext w2 wr) (fun _ s18 _ => l.length - (intOf s18).toNat)
    case atStart => exact ⟨0, Nat.zero_le _, rfl, congrArg Value.bool (show G0 = (G0 && !(l.take 0).any (hereR F.here cls)) from by rw [show (l.take 0).any (hereR F.here cls) = false from rfl]; cases G0 <;> rfl), Ext.refl _⟩
    case round =>
      obtain ⟨k, hk, rfl, rfl, hE4⟩ := hrel
      obtain ⟨wo, rfl⟩ : ∃ wo : World, wo = wr := ⟨_, rfl⟩
      have hwo : Ext X5 wo := hX2.trans hE4
      clear c10 c4 c12 q0 q1 q2
      by_cases hkl : k < l.length
      · obtain ⟨b, off, rfl, _, hbz, hcc⟩ := hrd.2 (by omega)
        obtain ⟨x0, x1, x2, x3, x4⟩ := recs_cells hcc k l[k] (List.getElem?_eq_getElem hkl)
        have hwwo : Ext w wo := hX5.trans hwo
        rw [← hwwo.cell (p := ⟨b, _, none⟩) hbz] at x0 x1 x2 x3 x4
        have HSt := Lib.hid (any_step30 l F.here cls k hkl)
        have hnl := (HF1.out.2 _ (List.getElem_mem hkl)).1
        have HKl := Lib.hid hkl
        have hki : (k : Int) < (l.length : Int) := by omega
        have hk0 : (0 : Int) ≤ (k : Int) := by omega
        have hwb : b < wo.heap.size := Nat.lt_of_lt_of_le hbz hwwo.size
        generalize l[k] = r at *
        obtain ⟨nm, ty2, cl2, tt, da⟩ := r
        dsimp only at HSt x0 x1 x2 x3 x4 hnl
        have HS15 := Lib.hid (show ∀ V, Ext wo V → V.cell? ⟨b, off + k * 5, none⟩ = some (S nm) ∧ V.cell? ⟨b, off + k * 5 + 2, none⟩ = some (.int .u16 cl2) ∧ V.cell? ⟨b4, 2, none⟩ = some (.int .u16 cls) from fun V hV => ⟨(hV.cell (p := ⟨b, _, none⟩) hwb).trans x0, (hV.cell (p := ⟨b, _, none⟩) hwb).trans x2, (HB.out V (hwo.trans hV)).2.2.2.2.2⟩)
        have HWi := Lib.hid (fun W => name_within nm F.here W (by unfold maxLen; omega) HLen.out)
        clear hcc x0 x1 x2 x3 x4
        generalize (l.take k).any (hereR F.here cls) = P at *
        obtain ⟨P', hPe⟩ : ∃ P', (l.take (k + 1)).any (hereR F.here cls) = P' := ⟨_, rfl⟩
        rw [hPe] at HSt
        have HPe := Lib.hid hPe
        clear hPe
        go_upto_region 15 with fail
        go_cut [107] (fun s107 wx => s107 = .bool ((F.err == 0) && (cl2 == cls && withinN nm F.here)) ∧ Ext wo wx)
        case first =>
          by_cases hcl : cl2 = cls
          rotate_left
          · have f1 : (cl2 == cls) = false := by rw [beq_eq_false_iff_ne]; exact hcl
            have HV := Lib.hid (show ((F.err == 0) && (cl2 == cls && withinN nm F.here)) = false from by rw [f1]; simp)
            clear hcl
            refine wp_region_noPanic ?_
            refine wp_region_tree (S := (fun V => V.cell? ⟨b, off + k * 5, none⟩ = some (S nm) ∧ V.cell? ⟨b, off + k * 5 + 2, none⟩ = some (.int .u16 cl2) ∧ V.cell? ⟨b4, 2, none⟩ = some (.int .u16 cls))) (.take 0 (.take 1 (.take 2 (.take 3 (.take 4 (.take 5 (.take 6 (.take 7 (.take 8 (.take 9 (.take 10 (.take 11 (.take 12 (.take 13 (.take 14 (.take 15 (.take 16 (.take 17 (.take 18 (.take 19 (.take 20 (.done)))))))))))))))))))))) (by kernel_rfl) (by kernel_rfl) (fun _ _ _ _ _ h => h) ((HS15.out _ (Ext.refl wo).drew)) ?_
            repeat ((with_reducible refine treeIs ?_); first
              | (refine treeTakeX (a' := ?_) ⟨_, (HS15.out _ (Ext.refl wo).drew)⟩ (by rfl) rfl (by kernel_rfl) rfl ?_ ?_; rotate_left; (focus (intro V Q' hV hq; obtain ⟨hV1, hV2, hV3⟩ := hV; (repeat (first | go_guarded | go_skip | go_step)); (first | exact hq | exact wpList_nil hq))))
              | (refine treeSkip (by rfl) (by rfl) ?_; (try simp only [Act.put, List.setIfInBounds_toArray, List.set_cons_zero, List.set_cons_succ])))
            refine treeDone ?_
            refine NoPanic.normal ?_
            go_wp2_with fail
            go_meet
            exact ⟨by rw [HV.out], (Ext.refl wo).drew⟩
          subst hcl
          have f1 : (cl2 == cl2) = true := by simp
          by_cases he : F.err = 0
          rotate_left
          · have e1 : ((F.err : Int) == 0) = false := by simpa using he
            have e3 : (F.err == 0) = false := by simpa using he
            have HV := Lib.hid (show ((F.err == 0) && (cl2 == cl2 && withinN nm F.here)) = false from by rw [e3]; rfl)
            clear he
            refine wp_region_noPanic ?_
            refine wp_region_tree (S := (fun V => V.cell? ⟨b, off + k * 5, none⟩ = some (S nm) ∧ V.cell? ⟨b, off + k * 5 + 2, none⟩ = some (.int .u16 cl2) ∧ V.cell? ⟨b4, 2, none⟩ = some (.int .u16 cl2))) (.take 0 (.take 1 (.take 2 (.take 3 (.take 4 (.take 5 (.take 6 (.take 7 (.take 8 (.take 9 (.take 10 (.take 11 (.take 12 (.take 13 (.take 14 (.take 15 (.take 16 (.take 17 (.take 18 (.take 19 (.take 20 (.done)))))))))))))))))))))) (by kernel_rfl) (by kernel_rfl) (fun _ _ _ _ _ h => h) ((HS15.out _ (Ext.refl wo).drew)) ?_
            repeat ((with_reducible refine treeIs ?_); first
              | (refine treeTakeX (a' := ?_) ⟨_, (HS15.out _ (Ext.refl wo).drew)⟩ (by rfl) rfl (by kernel_rfl) rfl ?_ ?_; rotate_left; (focus (intro V Q' hV hq; obtain ⟨hV1, hV2, hV3⟩ := hV; (repeat (first | go_guarded | go_skip | go_step)); (first | exact hq | exact wpList_nil hq))))
              | (refine treeSkip (by rfl) (by rfl) ?_; (try simp only [Act.put, List.setIfInBounds_toArray, List.set_cons_zero, List.set_cons_succ])))
            refine treeDone ?_
            refine NoPanic.normal ?_
            go_wp2_with fail
            go_meet
            exact ⟨by rw [HV.out], (Ext.refl wo).drew⟩
          have e1 : ((F.err : Int) == 0) = true := by rw [he]; rfl
          have e3 : (F.err == 0) = true := by rw [he]; rfl
          have HV := Lib.hid (show ((F.err == 0) && (cl2 == cl2 && withinN nm F.here)) = withinN nm F.here from by rw [e3, f1]; simp)
          clear he
          refine wp_region_noPanic ?_
          refine wp_region_tree (S := (fun V => V.cell? ⟨b, off + k * 5, none⟩ = some (S nm) ∧ V.cell? ⟨b, off + k * 5 + 2, none⟩ = some (.int .u16 cl2) ∧ V.cell? ⟨b4, 2, none⟩ = some (.int .u16 cl2))) (.take 0 (.take 1 (.take 2 (.take 3 (.take 4 (.take 5 (.take 6 (.take 7 (.take 8 (.take 9 (.take 10 (.take 11 (.take 12 (.take 13 (.take 14 (.take 15 (.take 16 (.take 17 (.take 18 (.run 19 (.take 20 (.done)))))))))))))))))))))) (by kernel_rfl) (by kernel_rfl) (fun _ _ _ _ _ h => h) ((HS15.out _ (Ext.refl wo).drew)) ?_
          repeat ((with_reducible refine treeIs ?_); first
            | (refine treeTakeX (a' := ?_) ⟨_, (HS15.out _ (Ext.refl wo).drew)⟩ (by rfl) rfl (by kernel_rfl) rfl ?_ ?_; rotate_left; (focus (intro V Q' hV hq; obtain ⟨hV1, hV2, hV3⟩ := hV; (repeat (first | go_guarded | go_skip | go_step)); (first | exact hq | exact wpList_nil hq)))))
          refine treeRun (by rfl) (fun K hK => ?_)
          go_simp
          refine (HWi.out _).mono ?_
          rintro e wa ⟨rfl, hEa⟩
          have hEwa : Ext wo wa := ((Ext.refl wo).drew).trans hEa
          clear hEa
          refine hK.out _ _ ?_ ?_
          · exact (HS15.out _ hEwa)
          clear hK K
          (try simp only [Act.put, List.setIfInBounds_toArray, List.set_cons_zero, List.set_cons_succ])
          repeat ((with_reducible refine treeIs ?_); first
            | (refine treeTakeX (a' := ?_) ⟨_, (HS15.out _ (Ext.refl wo).drew)⟩ (by rfl) rfl (by kernel_rfl) rfl ?_ ?_; rotate_left; (focus (intro V Q' hV hq; obtain ⟨hV1, hV2, hV3⟩ := hV; (repeat (first | go_guarded | go_skip | go_step)); (first | exact hq | exact wpList_nil hq)))))
          refine treeDone ?_
          refine NoPanic.normal ?_
          go_wp2_with fail
          go_meet
          exact ⟨by rw [HV.out], hEwa⟩
        case rest =>
          obtain ⟨rfl, hEx⟩ := hcut
          obtain ⟨wx, rfl⟩ : ∃ wx : World, wx = wc := ⟨_, rfl⟩
          have hE5 : Ext w2 wx := hE4.trans hEx
          have hkl' : k < l.length := HKl.out
          by_cases hB : ((F.err == 0) && (cl2 == cls && withinN nm F.here)) = true
          · have hb' : (cl2 == cls && withinN nm F.here) = true := (Bool.and_eq_true _ _ ▸ hB).2
            have hP' : P' = true := by rw [HSt.out, hb', Bool.or_true]
            rw [hB]
            clear hB hb'
            go_wp2_with fail
            go_roundw
            case rel => exact ⟨k + 1, by omega, by go_num, by rw [HPe.out, hP']; simp, hE5⟩
            case measure => simp [intOf]; omega
          · have hB' := eq_false_of_ne_true hB
            have hPP : (G0 && !P) = (G0 && !P') := by
              rw [HSt.out, HG0.out]
              revert hB'
              cases F.err == 0 <;> cases (cl2 == cls && withinN nm F.here) <;> cases P <;> simp
            rw [hB']
            clear hB hB'
            go_wp2_with fail
            go_roundw
            case rel => exact ⟨k + 1, by omega, by go_num, by rw [HPe.out, hPP], hE5⟩
            case measure => simp [intOf]; omega
      · obtain rfl : k = l.length := by omega
        have hBc : (G0 && !(l.take l.length).any (hereR F.here cls)) = (R.code == 3) := by
          rw [List.take_length, HCode.out, HG0.out, HMc.out]
          cases F.err == 0 <;> cases F.fin.isEmpty <;> cases (R.code != 2) <;> simp
        rw [hBc]
        clear hBc
        have hE17 : Ext X5 wo := hwo
        go_upto_region 17 with fail
        have hlt0 : ¬ ((0 : Int) < ((l.length : Nat) : Int) ∧ False) := by simp
        clear hlt0
        rcases HCd.out with hcd | hcd | hcd
        · have HS17 := Lib.hid (show ∀ V, Ext wo V → V.cell? ⟨b5, 10, none⟩ = some (.int .u8 0) ∧ V.cell? ⟨b5, 4, none⟩ = some (.bool m.hd.tc) ∧ V.cell? ⟨b5, 12, none⟩ = some (.slice aA m.ans.length ac) ∧ V.cell? ⟨b4, 0, none⟩ = some (S n) from fun V hV => by have hh := HB.out V (hwo.trans hV); rw [HMc.out, hcd] at hh; exact ⟨hh.1, hh.2.1, hh.2.2.1, hh.2.2.2.1⟩)
          rw [hcd]
          clear hcd
          refine wp_region_noPanic ?_
          refine wp_region_tree (S := (fun V => V.cell? ⟨b5, 10, none⟩ = some (.int .u8 0) ∧ V.cell? ⟨b5, 4, none⟩ = some (.bool m.hd.tc) ∧ V.cell? ⟨b5, 12, none⟩ = some (.slice aA m.ans.length ac) ∧ V.cell? ⟨b4, 0, none⟩ = some (S n))) (.take 0 (.take 1 (.take 2 (.take 3 (.take 4 (.take 5 (.take 6 (.take 7 (.take 8 (.take 9 (.take 10 (.take 11 (.take 12 (.take 13 (.take 14 (.take 15 (.take 16 (.take 17 (.take 18 (.take 19 (.take 20 (.take 21 (.take 22 (.take 23 (.take 24 (.take 25 (.take 26 (.take 27 (.take 28 (.take 29 (.take 30 (.take 31 (.take 32 (.take 33 (.take 34 (.take 35 (.take 36 (.take 37 (.take 38 (.take 39 (.take 40 (.take 41 (.take 42 (.take 43 (.take 44 (.take 45 (.done))))))))))))))))))))))))))))))))))))))))))))))) (by kernel_rfl) (by kernel_rfl) (fun _ _ _ _ _ h => h) ((HS17.out _ (Ext.refl wo).drew)) ?_
          repeat ((with_reducible refine treeIs ?_); first
            | (refine treeTakeX (a' := ?_) ⟨_, (HS17.out _ (Ext.refl wo).drew)⟩ (by rfl) rfl (by kernel_rfl) rfl ?_ ?_; rotate_left; (focus (intro V Q' hV hq; obtain ⟨hV1, hV2, hV3, hV4⟩ := hV; (repeat (first | go_guarded | go_skip | go_step)); (first | exact hq | exact wpList_nil hq))))
            | (refine treeSkip (by rfl) (by rfl) ?_; (try simp only [Act.put, List.setIfInBounds_toArray, List.set_cons_zero, List.set_cons_succ])))
          refine treeDone ?_
          refine NoPanic.normal ?_
          go_wp2_with fail
          go_ret
          exact ⟨rfl, (hX5.trans hwo).trans ((Ext.refl wo).drew)⟩
        · have HS17 := Lib.hid (show ∀ V, Ext wo V → V.cell? ⟨b5, 10, none⟩ = some (.int .u8 2) ∧ V.cell? ⟨b5, 4, none⟩ = some (.bool m.hd.tc) ∧ V.cell? ⟨b5, 12, none⟩ = some (.slice aA m.ans.length ac) ∧ V.cell? ⟨b4, 0, none⟩ = some (S n) from fun V hV => by have hh := HB.out V (hwo.trans hV); rw [HMc.out, hcd] at hh; exact ⟨hh.1, hh.2.1, hh.2.2.1, hh.2.2.2.1⟩)
          rw [hcd]
          clear hcd
          refine wp_region_noPanic ?_
          refine wp_region_tree (S := (fun V => V.cell? ⟨b5, 10, none⟩ = some (.int .u8 2) ∧ V.cell? ⟨b5, 4, none⟩ = some (.bool m.hd.tc) ∧ V.cell? ⟨b5, 12, none⟩ = some (.slice aA m.ans.length ac) ∧ V.cell? ⟨b4, 0, none⟩ = some (S n))) (.take 0 (.take 1 (.take 2 (.take 3 (.take 4 (.take 5 (.take 6 (.take 7 (.take 8 (.take 9 (.take 10 (.take 11 (.take 12 (.take 13 (.take 14 (.take 15 (.take 16 (.take 17 (.take 18 (.take 19 (.take 20 (.take 21 (.take 22 (.take 23 (.take 24 (.take 25 (.take 26 (.take 27 (.take 28 (.take 29 (.take 30 (.take 31 (.take 32 (.take 33 (.take 34 (.take 35 (.take 36 (.take 37 (.take 38 (.take 39 (.take 40 (.take 41 (.take 42 (.take 43 (.take 44 (.take 45 (.done))))))))))))))))))))))))))))))))))))))))))))))) (by kernel_rfl) (by kernel_rfl) (fun _ _ _ _ _ h => h) ((HS17.out _ (Ext.refl wo).drew)) ?_
          repeat ((with_reducible refine treeIs ?_); first
            | (refine treeTakeX (a' := ?_) ⟨_, (HS17.out _ (Ext.refl wo).drew)⟩ (by rfl) rfl (by kernel_rfl) rfl ?_ ?_; rotate_left; (focus (intro V Q' hV hq; obtain ⟨hV1, hV2, hV3, hV4⟩ := hV; (repeat (first | go_guarded | go_skip | go_step)); (first | exact hq | exact wpList_nil hq))))
            | (refine treeSkip (by rfl) (by rfl) ?_; (try simp only [Act.put, List.setIfInBounds_toArray, List.set_cons_zero, List.set_cons_succ])))
          refine treeDone ?_
          refine NoPanic.normal ?_
          go_wp2_with fail
          go_ret
          exact ⟨rfl, (hX5.trans hwo).trans ((Ext.refl wo).drew)⟩
        · have HS17 := Lib.hid (show ∀ V, Ext wo V → V.cell? ⟨b5, 10, none⟩ = some (.int .u8 3) ∧ V.cell? ⟨b5, 4, none⟩ = some (.bool m.hd.tc) ∧ V.cell? ⟨b5, 12, none⟩ = some (.slice aA m.ans.length ac) ∧ V.cell? ⟨b4, 0, none⟩ = some (S n) from fun V hV => by have hh := HB.out V (hwo.trans hV); rw [HMc.out, hcd] at hh; exact ⟨hh.1, hh.2.1, hh.2.2.1, hh.2.2.2.1⟩)
          have HMv := Lib.hid (HMoved.out hcd)
          rw [hcd]
          clear hcd
          rcases htc : m.hd.tc with _ | _
          rotate_left
          · rw [htc] at HS17
            clear htc
            refine wp_region_noPanic ?_
            refine wp_region_tree (S := (fun V => V.cell? ⟨b5, 10, none⟩ = some (.int .u8 3) ∧ V.cell? ⟨b5, 4, none⟩ = some (.bool true) ∧ V.cell? ⟨b5, 12, none⟩ = some (.slice aA m.ans.length ac) ∧ V.cell? ⟨b4, 0, none⟩ = some (S n))) (.take 0 (.take 1 (.take 2 (.take 3 (.take 4 (.take 5 (.take 6 (.take 7 (.take 8 (.take 9 (.take 10 (.take 11 (.take 12 (.take 13 (.take 14 (.take 15 (.take 16 (.take 17 (.take 18 (.take 19 (.take 20 (.take 21 (.take 22 (.take 23 (.take 24 (.take 25 (.take 26 (.take 27 (.take 28 (.take 29 (.take 30 (.take 31 (.take 32 (.take 33 (.take 34 (.take 35 (.take 36 (.take 37 (.take 38 (.take 39 (.take 40 (.take 41 (.take 42 (.take 43 (.take 44 (.take 45 (.done))))))))))))))))))))))))))))))))))))))))))))))) (by kernel_rfl) (by kernel_rfl) (fun _ _ _ _ _ h => h) ((HS17.out _ (Ext.refl wo).drew)) ?_
            repeat ((with_reducible refine treeIs ?_); first
              | (refine treeTakeX (a' := ?_) ⟨_, (HS17.out _ (Ext.refl wo).drew)⟩ (by rfl) rfl (by kernel_rfl) rfl ?_ ?_; rotate_left; (focus (intro V Q' hV hq; obtain ⟨hV1, hV2, hV3, hV4⟩ := hV; (repeat (first | go_guarded | go_skip | go_step)); (first | exact hq | exact wpList_nil hq))))
              | (refine treeSkip (by rfl) (by rfl) ?_; (try simp only [Act.put, List.setIfInBounds_toArray, List.set_cons_zero, List.set_cons_succ])))
            refine treeDone ?_
            refine NoPanic.normal ?_
            go_wp2_with fail
            go_ret
            exact ⟨rfl, (hX5.trans hwo).trans ((Ext.refl wo).drew)⟩
          · have HAns := Lib.hid (show m.ans = R.ans.flatMap recsOf from by rcases HMa.out with h' | h'; rw [htc] at h'; cases h'; exact h'.2)
            rw [htc] at HS17
            clear htc
            have HEq := Lib.hid (show (decide (0 < m.ans.length) == !(fold n == F.here)) = true from by
              have h1 : decide (0 < m.ans.length) = !decide (m.ans = []) := by rcases m.ans with _ | _ <;> simp
              rw [h1, HAns.out]
              by_cases hh : R.ans.flatMap recsOf = []
              · have h2 := HMv.out.1 hh
                simp [hh, h2]
              · have h2 : fold n ≠ F.here := fun e => hh (HMv.out.2 e)
                simp [hh, h2])
            have HFo := Lib.hid (fun V => name_fold n V (by unfold maxLen; have := HN4.out; omega))
            refine wp_region_noPanic ?_
            refine wp_region_tree (S := (fun V => V.cell? ⟨b5, 10, none⟩ = some (.int .u8 3) ∧ V.cell? ⟨b5, 4, none⟩ = some (.bool false) ∧ V.cell? ⟨b5, 12, none⟩ = some (.slice aA m.ans.length ac) ∧ V.cell? ⟨b4, 0, none⟩ = some (S n))) (.take 0 (.take 1 (.take 2 (.take 3 (.take 4 (.take 5 (.take 6 (.take 7 (.take 8 (.take 9 (.take 10 (.take 11 (.take 12 (.take 13 (.take 14 (.take 15 (.take 16 (.take 17 (.take 18 (.take 19 (.take 20 (.take 21 (.take 22 (.take 23 (.take 24 (.take 25 (.take 26 (.take 27 (.take 28 (.take 29 (.take 30 (.take 31 (.take 32 (.take 33 (.take 34 (.take 35 (.take 36 (.take 37 (.take 38 (.take 40 (.run 39 (.take 41 (.take 42 (.take 43 (.take 44 (.take 45 (.done))))))))))))))))))))))))))))))))))))))))))))))) (by kernel_rfl) (by kernel_rfl) (fun _ _ _ _ _ h => h) ((HS17.out _ (Ext.refl wo).drew)) ?_
            repeat ((with_reducible refine treeIs ?_); first
              | (refine treeTakeX (a' := ?_) ⟨_, (HS17.out _ (Ext.refl wo).drew)⟩ (by rfl) rfl (by kernel_rfl) rfl ?_ ?_; rotate_left; (focus (intro V Q' hV hq; obtain ⟨hV1, hV2, hV3, hV4⟩ := hV; (repeat (first | go_guarded | go_skip | go_step)); (first | exact hq | exact wpList_nil hq)))))
            refine treeRun (by rfl) (fun K hK => ?_)
            go_simp
            refine (HFo.out _).mono ?_
            rintro e wa ⟨rfl, hEa⟩
            have hEwa : Ext wo wa := ((Ext.refl wo).drew).trans hEa
            clear hEa
            refine hK.out _ _ ?_ ?_
            · exact (HS17.out _ hEwa)
            clear hK K
            (try simp only [Act.put, List.setIfInBounds_toArray, List.set_cons_zero, List.set_cons_succ])
            repeat ((with_reducible refine treeIs ?_); first
              | (refine treeTakeX (a' := ?_) ⟨_, (HS17.out _ (Ext.refl wo).drew)⟩ (by rfl) rfl (by kernel_rfl) rfl ?_ ?_; rotate_left; (focus (intro V Q' hV hq; obtain ⟨hV1, hV2, hV3, hV4⟩ := hV; (repeat (first | go_guarded | go_skip | go_step)); (first | exact hq | exact wpList_nil hq)))))
            refine treeDone ?_
            refine NoPanic.normal ?_
            go_wp2_with fail
            go_ret
            exact ⟨by rw [HEq.out]; rfl, (hX5.trans hwo).trans (hEwa)⟩
end Go.Proofs.YtbmjfjgfognimaaGreatDoor
namespace Go.Proofs.YtbmjfjgfognimaaGreatDoor
set_option linter.unusedSimpArgs false
set_option linter.unusedVariables false
open Go.ChangeShapes Go.WideShapes Go.RowKit Go.Deep Go.Joins
set_option maxRecDepth 100000

theorem wf_u8c {n : Int} (h : (Lit.int .u8 n).wf = true) : 0 ≤ n ∧ n ≤ 255 := by
  have h1 : IntKind.u8.min = 0 := rfl
  have h2 : IntKind.u8.max = 255 := rfl
  simp [Lit.wf] at h; omega
theorem some_atc {α : Type} {l : List α} {n j : Nat} (h : l.length = n) (hj : j < n) : ∃ x, l[j]? = some x := ⟨l[j]'(by omega), List.getElem?_eq_getElem _⟩
end Go.Proofs.YtbmjfjgfognimaaGreatDoor
namespace Go.Proofs.YtbmjfjgfognimaaGreatDoor
set_option linter.unusedSimpArgs false
set_option linter.unusedVariables false
open Go.ChangeShapes Go.WideShapes Go.RowKit Go.Deep Go.Joins
set_option maxRecDepth 100000

theorem bytes_set7 : Tryz.prog.bytesOf 54 = 48 := by kernel_rfl
theorem weights_row7 {H : Type} {d : DataW H} {elems sp : List (DataW H)} (h : d = .slice elems sp) : (elems.length + sp.length) * 48 ∈ d.weights Tryz.prog 22 := by
  subst h
  simp only [DataW.weights, Tryz.underlying22, bytes_set7, List.mem_cons, true_or]
theorem sets_trod7 {H : Type} {enc : TypeId × Value → H} {W : World} {fuel : Nat} {v : Value} {y : DataW H × List MemPlace}
    (hf : DataW.trod enc Tryz.prog W 0 (fun _ => true) true fuel 22 [v] = some y) :
    ∃ l : List SetD, Sets W 0 v l ∧ (∀ s ∈ l, SetIn s ∧ s.name.length ∈ y.1.weights Tryz.prog 22 ∧ ∀ x ∈ s.data, x.length ∈ y.1.weights Tryz.prog 22) ∧ (l.length = 0 ∨ ∃ m, m ∈ y.1.weights Tryz.prog 22 ∧ l.length ≤ m) := by
  rcases open_slice_fields Tryz.underlying22 Tryz.underlying54 (by kernel_rfl) (by kernel_rfl) hf with ⟨e, _⟩ | ⟨a, len, cap, m, D, Pl, e, _, hl, hm, hmm, hdp, hi⟩
  · simp only [List.cons.injEq, and_true] at e
    rw [e]
    exact ⟨[], ⟨[], none, 0, rfl, rfl, Nat.le_refl _, by unfold maxLen; omega, Rd.nil _ _ _ _, by simp⟩, by simp, .inl rfl⟩
  · simp only [List.cons.injEq, and_true] at e
    rw [e]
    have hmc : len ≤ m := by rw [hmm]; split <;> omega
    have hdd := (Prod.mk.inj hdp).1
    obtain ⟨l, hll, hq⟩ := pick ((SetD.zero, .slice none 0 0) : SetD × Value) len (fun i r => (W.cell? (a.add (i * 5 + 0)) = some (S r.1.name) ∧ W.cell? (a.add (i * 5 + 1)) = some (.int .u16 r.1.typ) ∧ W.cell? (a.add (i * 5 + 2)) = some (.int .u16 r.1.cls) ∧ W.cell? (a.add (i * 5 + 3)) = some (.int .u32 r.1.ttl) ∧ W.cell? (a.add (i * 5 + 4)) = some r.2) ∧ Strs W 0 r.2 r.1.data ∧ SetIn r.1 ∧ r.1.name.length ∈ y.1.weights Tryz.prog 22 ∧ ∀ x ∈ r.1.data, x.length ∈ y.1.weights Tryz.prog 22) (fun i hi' => by
      obtain ⟨ys, n, hD, _, _, hy⟩ := hi i (by omega)
      obtain ⟨v0, y0, c0, g0, t0⟩ := hy 0 _ rfl
      obtain ⟨v1, y1, c1, _, t1⟩ := hy 1 _ rfl
      obtain ⟨v2, y2, c2, _, t2⟩ := hy 2 _ rfl
      obtain ⟨v3, y3, c3, _, t3⟩ := hy 3 _ rfl
      obtain ⟨v4, y4, c4, g4, t4⟩ := hy 4 _ rfl
      obtain ⟨s, e0, z0, hs⟩ := DataW.trod_string Tryz.underlying9 t0
      obtain ⟨x1, e1, _, w1⟩ := DataW.trod_int Tryz.underlying26 t1
      obtain ⟨x2, e2, _, w2⟩ := DataW.trod_int Tryz.underlying26 t2
      obtain ⟨x3, e3, _, w3⟩ := DataW.trod_int Tryz.underlying25 t3
      obtain ⟨sl, hsl, hsw⟩ := open_strs t4
      injection e0 with e0 _
      injection e1 with e1 _
      injection e2 with e2 _
      injection e3 with e3 _
      subst e0 e1 e2 e3
      rw [S_of] at c0
      have hmem : D i ∈ (List.range len).map D := List.mem_map.2 ⟨i, List.mem_range.2 hi', rfl⟩
      refine ⟨(⟨s.data.toList, x1, x2, x3, sl⟩, v4), ⟨c0, c1, c2, c3, c4⟩, hsl, ⟨wf_u16 w1, wf_u16 w2, wf_u32 w3⟩, ?_, fun x hx => ?_⟩
      · rw [hdd]
        refine weights_elem Tryz.underlying22 hmem ?_
        rw [hD]
        refine weights_field (j := 0) (d := y0.1) Tryz.underlying54 rfl (by simp [g0]) ?_
        rw [z0]; exact weights_str _ s
      · rw [hdd]
        refine weights_elem Tryz.underlying22 hmem ?_
        rw [hD]
        exact weights_field (j := 4) (d := y4.1) Tryz.underlying54 rfl (by simp [g4]) (hsw x hx))
    subst hll
    refine ⟨l.map Prod.fst, ⟨l, some a, cap, rfl, rfl, hl, hm, ?_, fun p hp => ?_⟩, fun s hs => ?_, .inr ⟨_, weights_row7 (by rw [hdd]), by simp only [List.length_map, List.length_range]; omega⟩⟩
    · refine ⟨flatS_len l, fun h0 => ?_⟩
      have hz := (hq 0 h0).1.1
      rw [show a.add (0 * 5 + 0) = a from rfl] at hz
      obtain ⟨ea, hb⟩ := spot_of hz
      refine ⟨a.block, a.off, by rw [← ea], Nat.zero_le _, hb, sets_of fun i hi' => ?_⟩
      have := (hq i hi').1
      rw [ea] at this
      simp only [add_none] at this
      exact this
    · obtain ⟨i, hi', rfl⟩ := List.getElem_of_mem hp
      exact (hq i hi').2.1
    · obtain ⟨p, hp, rfl⟩ := List.mem_map.1 hs
      obtain ⟨i, hi', rfl⟩ := List.getElem_of_mem hp
      exact (hq i hi').2.2
/-- What the form's reach says of a text's length. -/
theorem open_verdict7 {H : Type} {enc : TypeId × Value → H} {W : World} {r : Reach} {b0 : Nat} {v : Value} {d : DataW H} {p : List MemPlace}
    (hv : Value.okWide Tryz.prog W r b0 24 v) (h : DataW.Trod enc Tryz.prog W 0 (fun _ => true) true 24 v d p) :
    ∃ (code : Int) (vs vo : Value) (ss oo : List SetD), v = .agg #[.int .u8 code, vs, vo] ∧ Sets W 0 vs ss ∧ Sets W 0 vo oo ∧ (0 ≤ code ∧ code ≤ 255) ∧
      (∀ s ∈ ss ++ oo, SetIn s ∧ s.name.length ∈ d.weights Tryz.prog 24 ∧ ∀ x ∈ s.data, x.length ∈ d.weights Tryz.prog 24) ∧
      (ss.length = 0 ∨ ∃ m, m ∈ d.weights Tryz.prog 24 ∧ ss.length ≤ m) ∧ (oo.length = 0 ∨ ∃ m, m ∈ d.weights Tryz.prog 24 ∧ oo.length ≤ m) := by
  obtain ⟨cs, rfl, hsz⟩ := okWide_struct Tryz.underlying24 hv
  obtain ⟨l⟩ := cs
  have hC : Tryz.prog.cellsOf 24 = 3 := by kernel_rfl
  match l, hsz.trans hC with
  | [c0, c1, c2], _ =>
    obtain ⟨fuel, hf⟩ := h
    obtain ⟨xs, n, _, hd, _, hlen, hg⟩ := DataW.trod_struct Tryz.underlying24 hf
    have hd1 := (Prod.mk.inj hd).1
    obtain ⟨y0, hy0⟩ := some_atc hlen (show 0 < _ by decide)
    obtain ⟨y1, hy1⟩ := some_atc hlen (show 1 < _ by decide)
    obtain ⟨y2, hy2⟩ := some_atc hlen (show 2 < _ by decide)
    have g0 : DataW.trod enc Tryz.prog W 0 (fun _ => true) true n 5 ((([c0, c1, c2] : List Value).drop 0).take (Tryz.prog.cellsOf 5)) = some y0 := (hg 0 _ rfl).trans hy0
    have g1 : DataW.trod enc Tryz.prog W 0 (fun _ => true) true n 22 ((([c0, c1, c2] : List Value).drop 1).take (Tryz.prog.cellsOf 22)) = some y1 := (hg 1 _ rfl).trans hy1
    have g2 : DataW.trod enc Tryz.prog W 0 (fun _ => true) true n 22 ((([c0, c1, c2] : List Value).drop 2).take (Tryz.prog.cellsOf 22)) = some y2 := (hg 2 _ rfl).trans hy2
    rw [show Tryz.prog.cellsOf 5 = 1 by kernel_rfl] at g0
    rw [show Tryz.prog.cellsOf 22 = 1 by kernel_rfl] at g1 g2
    simp only [List.drop_succ_cons, List.drop_zero, List.take_succ_cons, List.take_zero] at g0 g1 g2
    obtain ⟨x, e0, _, w0⟩ := DataW.trod_int Tryz.underlying5 g0
    simp only [List.cons.injEq, and_true] at e0
    subst e0
    obtain ⟨ss, hs, hsw, hsl⟩ := sets_trod7 g1
    obtain ⟨oo, ho, how, hol⟩ := sets_trod7 g2
    have up1 : ∀ {m : Nat}, m ∈ y1.1.weights Tryz.prog 22 → m ∈ d.weights Tryz.prog 24 := fun hm => by
      rw [hd1]; exact weights_field (j := 1) (d := y1.1) Tryz.underlying24 rfl (by simp [hy1]) hm
    have up2 : ∀ {m : Nat}, m ∈ y2.1.weights Tryz.prog 22 → m ∈ d.weights Tryz.prog 24 := fun hm => by
      rw [hd1]; exact weights_field (j := 2) (d := y2.1) Tryz.underlying24 rfl (by simp [hy2]) hm
    refine ⟨x, c1, c2, ss, oo, rfl, hs, ho, wf_u8c w0, fun s hm => ?_, ?_, ?_⟩
    · rcases List.mem_append.1 hm with hm | hm
      · exact ⟨(hsw s hm).1, up1 (hsw s hm).2.1, fun x hx => up1 ((hsw s hm).2.2 x hx)⟩
      · exact ⟨(how s hm).1, up2 (how s hm).2.1, fun x hx => up2 ((how s hm).2.2 x hx)⟩
    · exact hsl.imp id fun ⟨m, h1, h2⟩ => ⟨m, up1 h1, h2⟩
    · exact hol.imp id fun ⟨m, h1, h2⟩ => ⟨m, up2 h1, h2⟩
end Go.Proofs.YtbmjfjgfognimaaGreatDoor
namespace Go.Proofs.YtbmjfjgfognimaaGreatDoor
set_option linter.unusedSimpArgs false
set_option linter.unusedVariables false
open Go.ChangeShapes Go.WideShapes Go.RowKit Go.Deep Go.Joins
set_option maxRecDepth 100000
section
variable {H : Type} {enc : TypeId × Value → H} {P : Program} {w : World} {base : Nat} {spare : Nat → Bool} {held : Bool}
theorem trodAll_five {t0 t1 t2 t3 t4 : TypeId} {args : Array Value} {ds : List (DataW H)} {ps : List MemPlace} (h : DataW.TrodAll enc P w base spare held [t0, t1, t2, t3, t4] args.toList ds ps) :
    ∃ v0 v1 v2 v3 v4 d0 d1 d2 d3 d4 p0 p1 p2 p3 p4, args = #[v0, v1, v2, v3, v4] ∧ ds = [d0, d1, d2, d3, d4] ∧ ps = p0 ++ p1 ++ p2 ++ p3 ++ p4 ∧ DataW.Trod enc P w base spare held t0 v0 d0 p0 ∧ DataW.Trod enc P w base spare held t1 v1 d1 p1 ∧ DataW.Trod enc P w base spare held t2 v2 d2 p2 ∧ DataW.Trod enc P w base spare held t3 v3 d3 p3 ∧ DataW.Trod enc P w base spare held t4 v4 d4 p4 := by
  obtain ⟨v0, vs0, d0, ds0, p0, q0, hargs, rfl, rfl, h0, r0⟩ := trodAll_cons h
  obtain ⟨v1, vs1, d1, ds1, p1, q1, rfl, rfl, rfl, h1, r1⟩ := trodAll_cons r0
  obtain ⟨v2, vs2, d2, ds2, p2, q2, rfl, rfl, rfl, h2, r2⟩ := trodAll_cons r1
  obtain ⟨v3, vs3, d3, ds3, p3, q3, rfl, rfl, rfl, h3, r3⟩ := trodAll_cons r2
  obtain ⟨v4, vs4, d4, ds4, p4, q4, rfl, rfl, rfl, h4, r4⟩ := trodAll_cons r3
  obtain ⟨rfl, rfl, rfl⟩ := trodAll_nil r4
  exact ⟨v0, v1, v2, v3, v4, d0, d1, d2, d3, d4, p0, p1, p2, p3, p4, by cases args; simp_all, rfl, by simp, h0, h1, h2, h3, h4⟩
end
end Go.Proofs.YtbmjfjgfognimaaGreatDoor
namespace Go.Proofs.YtbmjfjgfognimaaGreatDoor
set_option linter.unusedSimpArgs false
set_option linter.unusedVariables false
open Go.ChangeShapes Go.WideShapes Go.ChangeAt Go.RowKit
set_option maxRecDepth 100000

theorem resolverGone_contract (H : Type) (enc : TypeId × Value → H) (W : World) (base : Nat) (args : Array Value) (ds gs : List (DataW H)) (before : List MemPlace)
    (hval : ∀ (j : Nat) t v, Tryz.f9.params[j]? = some t → args[j]? = some v → Value.okWide Tryz.prog W .any base t v)
    (hW : DataW.Whole enc Tryz.prog Tryz.f9.params.toList Rows.resolverGoneSpec.vars false W args.toList ds gs before)
    (hsz : (DataW.weightsEach Tryz.prog (Tryz.f9.params.toList ++ (OpenSpec.ofChange Rows.resolverGoneSpec).bare.plain.varTypes Tryz.prog) (ds ++ gs)).all (· ≤ reachBytes) = true)
    (hL : laidMetH Tryz.prog laidL W) :
    Calls Tryz.prog 9 args W fun e W' => ∃ v, e = .returned v ∧ Rows.resolverGoneSpec.post enc Tryz.prog Tryz.f9 false true false false W args v W' := by
  have hW' := hW
  have hp : ∀ t ∈ Tryz.f9.params.toList, Tryz.prog.readableRec t = true ∧ t < Tryz.prog.types.size := by
    have h : (Tryz.f9.params.toList.all fun t => Tryz.prog.readableRec t && decide (t < Tryz.prog.types.size)) = true := by kernel_rfl
    simpa only [List.all_eq_true, Bool.and_eq_true, decide_eq_true_eq] using h
  have hg := laid_of hL
  have hb := laidbits_of hL
  obtain ⟨p, q, hA0, hV, rfl, _, _⟩ := hW
  have hA : DataW.TrodAll enc Tryz.prog W 0 (fun _ => true) true Tryz.f9.params.toList args.toList ds p := hA0
  clear hA0
  rw [Tryz.params9] at hA hval hsz
  obtain ⟨rfl, rfl⟩ := trodVars_none hV
  obtain ⟨v0, v1, v2, d0, d1, d2, p0, p1, p2, rfl, rfl, rfl, h0, h1, h2⟩ := trodAll_three hA
  obtain ⟨l, hr0, hlo⟩ := open_recsW (hval 0 _ _ rfl rfl) h0
  obtain ⟨n, ty, cl, rfl, hn, hq1, hq2⟩ := open_question (hval 1 _ _ rfl rfl) h1
  obtain ⟨id, rfl, hi1, hi2⟩ := open_u16 (hval 2 _ _ rfl rfl) h2
  refine (law30_gone v0 l n ty cl id W hg hb hr0 (fun r hr => (hlo r hr).1.2.2) (fun r hr => ⟨Nat.le_trans (reach_of hsz (j := 0) rfl rfl (hlo r hr).2.1) (by unfold maxLen; decide), Nat.le_trans (reach_of hsz (j := 0) rfl rfl (hlo r hr).2.2) (by unfold maxLen; decide)⟩) hn hq1 hq2 ⟨hi1, hi2⟩).mono ?_
  rintro e W' ⟨rfl, hE⟩
  exact ⟨_, rfl, post_true laid_out rfl (by kernel_rfl) Tryz.underlying4 hp hW' rfl hE⟩

theorem resolverGone_reads (os : Os) {H : Type} (enc : TypeId × Value → H) : ∃ places, DataW.whole enc Tryz.prog ((laidWorld os).forCall (fun _ _ => 0) ⟨#[], #[.slice none 0 0, .agg #[.string ⟨#[]⟩, .int .u16 0, .int .u16 0], .int .u16 0], []⟩).memory Tryz.f9.params.toList Rows.resolverGoneSpec.vars false (#[.slice none 0 0, .agg #[.string ⟨#[]⟩, .int .u16 0, .int .u16 0], .int .u16 0] : Array Value).toList 8 = some ([.nil, .agg [.lit (.string []), .lit (.int .u16 0), .lit (.int .u16 0)], .lit (.int .u16 0)], [], places) :=
  ⟨[], by kernel_rfl⟩
theorem resolverGone_lifted (os : Os) (started : os.Started) (H : Type) (enc : TypeId × Value → H) (F : Stop.Interp) :
    ReturnsInHanded {} Tryz.checked os 9 .any ((OpenSpec.ofChange Rows.resolverGoneSpec).preRow enc Tryz.prog Tryz.f9 Rows.resolverGoneRow.domain false Rows.resolverGoneRow.laid) (((OpenSpec.ofChange Rows.resolverGoneSpec).at F).post enc Tryz.prog Tryz.f9 false true false false) := by
  obtain ⟨places, hx⟩ := resolverGone_reads os enc
  refine returnsInHanded_of_row (C := Tryz.checked) (s := OpenSpec.ofChange Rows.resolverGoneSpec) own_knob started (by kernel_rfl) Tryz.func9
    (witness_row_at (enc := enc) (C := Tryz.checked) false (laidWorld os) #[.slice none 0 0, .agg #[.string ⟨#[]⟩, .int .u16 0, .int .u16 0], .int .u16 0] rfl (by kernel_rfl) (by kernel_rfl) (by kernel_rfl)
      (OpenSpec.preRow_of_cond 8 hx (by kernel_rfl) (fun k hk => by cases hk) (by kernel_rfl) (laid_met os _))) ?_
  intro W base args ds gs before hval hW _ _ hsz hL _ _
  exact resolverGone_contract H enc W base args ds gs before hval hW hsz hL
theorem band_card (a b : Bool) (h1 : a = true) (h2 : b = true) : (a && b) = true := by rw [h1, h2]; rfl
set_option maxHeartbeats 4000000 in
theorem resolverGone_joined : joinedFacts Tryz.prog 9 Tryz.f9 (OpenSpec.ofChange Rows.resolverGoneSpec).bare Rows.resolverGoneRow = true := by
  unfold joinedFacts; repeat' (with_reducible refine band_card _ _ ?_ ?_)
  all_goals (as_aux_lemma => kernel_rfl)
set_option maxHeartbeats 4000000 in
theorem resolverGone_said : Rows.ResolverGoneSaid :=
  OpenClaim.holds_of_cond 9 Tryz.f9 rfl rfl rfl rfl rfl rfl rfl ⟨rfl, rfl, rfl, rfl, rfl⟩ rfl rfl rfl rfl rfl (by kernel_rfl) Tryz.func9 resolverGone_joined
    (of_decide_eq_true (by kernel_rfl)) (by unfold Func.isWrapper; first | (rw [if_pos (by decide +kernel)]; kernel_rfl) | (rw [if_neg (by decide +kernel)]; exact ⟨rfl, rfl⟩))
    (fun os started H enc _ F => by rw [OpenClaim.pre_eq_preRow]; exact resolverGone_lifted os started H enc F)
/-- THE CARD. -/
theorem resolverGone_card : Rows.ResolverGoneCardSaid :=
  Claim7.holds_tied_plain_at .later [] _ _ _ _ resolverGone_said (fun _ h => by cases h) (by as_aux_lemma => kernel_rfl) (fun _ h => by cases h) resolverGone_row_tie rfl ⟨rfl, rfl⟩ (by as_aux_lemma => kernel_rfl) rfl
    (fun f fn hf hfn => by
      obtain rfl : f = 9 := Option.some.inj ((show Tryz.prog.funcNamed Rows.resolverGoneRow.func = some 9 by kernel_rfl).symm.trans hf) |>.symm
      obtain rfl : fn = Tryz.f9 := (Option.some.inj (Tryz.func9.symm.trans hfn)).symm
      refine ⟨by kernel_rfl, fun j t ht => ?_⟩
      have h : (Tryz.f9.params.toList.all fun t => !Tryz.prog.wantsStandIn t) = true := by kernel_rfl
      have h2 := List.all_eq_true.1 h t (by simpa using Array.mem_of_getElem? ht)
      exact (by simpa using h2 : Tryz.prog.wantsStandIn t = false))
    (by as_aux_lemma => kernel_rfl)
#print axioms resolverGone_card
end Go.Proofs.YtbmjfjgfognimaaGreatDoor
