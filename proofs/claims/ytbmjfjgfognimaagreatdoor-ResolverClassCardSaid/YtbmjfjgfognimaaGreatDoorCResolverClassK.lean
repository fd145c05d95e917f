/- hustingslaw30.ResolverClass returns true for every input, and every argument reads behind the call as it read before; the listed variables are tied to the program's text. No condition of ours. -/
import Derived.Test.YtbmjfjgfognimaaGreatDoorCards
import Derived.Test.YtbmjfjgfognimaaGreatDoorTie
import Derived.Test.YtbmjfjgfognimaaGreatDoorKb
import Derived.ProofKit
import Derived.OpenShut
import Derived.LaidHandle
import Derived.LaidLaws
import Derived.Test.YtbmjfjgfognimaaGreatDoorKwy
import Derived.Deep.DeepHandedRow
import Derived.Test.YtbmjfjgfognimaaGreatDoorKl3
import Derived.Test.YtbmjfjgfognimaaGreatDoorKpr
import Derived.Test.YtbmjfjgfognimaaGreatDoorKhq
import Derived.Test.YtbmjfjgfognimaaGreatDoorKg
import Derived.Test.YtbmjfjgfognimaaGreatDoorKry
import Derived.Carry
namespace Go.Proofs.YtbmjfjgfognimaaGreatDoor
set_option linter.unusedSimpArgs false
set_option linter.unusedVariables false
open Go.ChangeShapes Go.WideShapes Go.ChangeAt Go.RowKit
set_option maxRecDepth 100000

theorem own_knob : ownKnob Tryz.prog.godebug = none := by kernel_rfl
theorem et_at : Tryz.prog.globalNamed "errors.errorType" = some 3 := by kernel_rfl
theorem one_row : ((List.range Tryz.prog.types.size).filter fun t => Tryz.prog.rowNamed t [101, 114, 114, 111, 114]) = [160] := by kernel_rfl
def laidL : List (String × DataW Unit) := [("errors.errorType", Rows.laid_errors_errorType), ("hustings/head.bits", Rows.laid_hustings_head_bits)]

theorem laid_of {W : World} (h : laidMetH Tryz.prog laidL W) : Laid W := by
  have h' : laidMet Tryz.prog [("hustings/head.bits", Rows.laid_hustings_head_bits)] W ∧ handlesMet Tryz.prog [("errors.errorType", Rows.laid_errors_errorType)] W := h
  obtain ⟨name, u, ty, e1, e2, e3, e4, e5⟩ := h'.2 _ (List.mem_singleton.2 rfl)
  have en : name = [101, 114, 114, 111, 114] := (Option.some.inj e1).symm
  subst en
  obtain rfl : u = 322 := Option.some.inj (e2.symm.trans (by kernel_rfl))
  have hm : ty ∈ (List.range Tryz.prog.types.size).filter fun t => Tryz.prog.rowNamed t [101, 114, 114, 111, 114] := List.mem_filter.2 ⟨List.mem_range.2 e3, e4⟩
  rw [one_row] at hm
  obtain rfl := List.mem_singleton.1 hm
  have hh : typeHandle Tryz.prog 160 = hdl 160 := by kernel_rfl
  rw [hh] at e5
  show W.cell? ⟨3, 0, none⟩ = _
  simpa using World.var?_cell et_at e5 0

theorem bits_at : Tryz.prog.globalNamed "hustings/head.bits" = some 2 := by kernel_rfl
theorem one_cell {l : List Value} {i : Nat} {v : Value} (h : (l.drop i).take 1 = [v]) : l[i]? = some v := by
  have h1 := congrArg (fun x : List Value => x[0]?) h
  simpa using h1
def bitsL : List Int := [32768, 1024, 512, 256, 128, 64, 32, 16]
theorem laidbits_of {W : World} (h : laidMetH Tryz.prog laidL W) : BitsAt W := by
  have h' : laidMet Tryz.prog [("hustings/head.bits", Rows.laid_hustings_head_bits)] W ∧ handlesMet Tryz.prog [("errors.errorType", Rows.laid_errors_errorType)] W := h
  obtain ⟨ps, hlv, _, _⟩ := h'.1
  obtain ⟨g, t, cs, fuel, p, q, e1, e2, e3, e4, _, _⟩ := hlv
  obtain rfl : 2 = g := Option.some.inj (bits_at.symm.trans e1)
  obtain rfl : 260 = t := Option.some.inj ((show (Tryz.prog.globals[2]?).map (·.type) = some 260 by kernel_rfl).symm.trans e2)
  obtain ⟨xs, n, _, hd, _, hlen, hf⟩ := DataW.trod_array Tryz.underlying260 e4
  have hd1 := (Prod.mk.inj hd).1
  have key : ∀ i, i < 8 → cs.toList[i]? = some (.int .u16 (bitsL.getD i 0)) := fun i hi => by
    have hx : (xs.map (·.1))[i]? = some (.lit (.int .u16 (bitsL.getD i 0))) := by
      have h1 : xs.map (·.1) = bitsL.map fun k => (.lit (.int .u16 k) : DataW Unit) := by
        injection hd1 with h1
        exact h1.symm
      rw [h1, List.getElem?_map, List.getElem?_eq_getElem (show i < bitsL.length from hi)]
      simp [List.getD, List.getElem?_eq_getElem (show i < bitsL.length from hi)]
    rw [List.getElem?_map] at hx
    obtain ⟨y, hy1, hy2⟩ := Option.map_eq_some_iff.1 hx
    have h2 := (hf i hi).trans hy1
    rw [show Tryz.prog.cellsOf 26 = 1 by kernel_rfl, Nat.mul_one] at h2
    obtain ⟨m, g1, g2, _⟩ := DataW.trod_int Tryz.underlying26 h2
    rw [g2] at hy2
    have hm : m = bitsL.getD i 0 := by
      injection hy2 with hy2
      injection hy2
    rw [← hm]
    exact one_cell g1
  have key2 : ∀ i, i < 8 → W.cell? ⟨2, i, none⟩ = some (.int .u16 (bitsL.getD i 0)) := fun i hi => by
    rw [World.var?_cell bits_at e3 i]
    simpa using key i hi
  exact ⟨key2 0 (by omega), key2 1 (by omega), key2 2 (by omega), key2 3 (by omega), key2 4 (by omega), key2 5 (by omega), key2 6 (by omega), key2 7 (by omega)⟩
noncomputable def laidWorld (os : Os) : World :=
  let w0 := World.holding Tryz.prog os ⟨#[], #[], []⟩
  { w0 with heap := (w0.heap.modify 3 fun
      | .cells _ t frozen => .cells #[errTy] t frozen
      | o => o).modify 2 fun
      | .cells _ t frozen => .cells #[.int .u16 32768, .int .u16 1024, .int .u16 512, .int .u16 256, .int .u16 128, .int .u16 64, .int .u16 32, .int .u16 16] t frozen
      | o => o }
theorem laid_met (os : Os) (args : Array Value) : laidMetH Tryz.prog laidL ((laidWorld os).forCall (fun _ _ => 0) ⟨#[], args, []⟩).memory :=
  laidMetH_of_parts (laidMet_of_run' 8 (by kernel_rfl) (by kernel_rfl)) (by kernel_rfl)

section
variable {H : Type} {enc : TypeId × Value → H} {P : Program}
theorem trodAll_stays (hl : laidOutB P = true) {W W' : World} (hb : Below W.heap.size W W') {sp : Nat → Bool} : ∀ {ts : List TypeId} {vs : List Value} {ds : List (DataW H)} {ps : List MemPlace},
    (∀ t ∈ ts, P.readableRec t = true ∧ t < P.types.size) → DataW.TrodAll enc P W 0 (fun _ => true) true ts vs ds ps → (∀ x ∈ ps, x.block < W.heap.size) → (∀ x ∈ ps, sp x.block = true) → DataW.TrodAll enc P W' 0 sp true ts vs ds ps
  | [], _, _, _, _, h, _, _ => by obtain ⟨rfl, rfl, rfl⟩ := trodAll_nil h; exact trodAll_mk0
  | t :: ts, _, _, _, ht, h, hlt, hs => by
    obtain ⟨v, vs, d, ds, p, q, rfl, rfl, rfl, h0, h1⟩ := trodAll_cons h
    have h2 := ht t (by simp)
    exact trodAll_cons_mk (WideElems.Trod_stays hl h2.1 h2.2 h0 (fun x hx => hb.same (hlt x (by simp [hx]))) (fun x hx => hs x (by simp [hx])))
      (trodAll_stays hl hb (fun t ht' => ht t (by simp [ht'])) h1 (fun x hx => hlt x (by simp [hx])) (fun x hx => hs x (by simp [hx])))
theorem post_of_below {f : Func} {s : ChangeSpec} {apart fresh handsOn again : Bool} {W W' : World} {args : Array Value} {v : Value} {ds gs : List (DataW H)} {before pa pv : List MemPlace}
    (hW : DataW.Whole enc P f.params.toList s.vars apart W args.toList ds gs before)
    (hres : ∀ (b : Nat) (sp : Nat → Bool) (hd : Bool), DataW.TrodAll enc P W' b sp hd f.resultTypes.toList (v.resultList f.resultTypes.size) (s.fn H (ds ++ gs)).results [])
    (hargs : ∀ sp : Nat → Bool, (∀ p ∈ before, sp p.block = true) → DataW.TrodAll enc P W' 0 sp true f.params.toList args.toList (s.fn H (ds ++ gs)).args pa)
    (hvars : ∀ sp : Nat → Bool, (∀ p ∈ before, sp p.block = true) → DataW.TrodVars enc P W' sp s.vars (s.fn H (ds ++ gs)).vars pv)
    (hps : before = pa ++ pv) (hb : Below W.heap.size W W')
    (hok : ∀ (j : Nat) (t : TypeId) (r : Value), f.resultTypes[j]? = some t → (v.resultList f.resultTypes.size)[j]? = some r → Value.okWide P W' .any 0 t r) :
    s.post enc P f apart fresh handsOn again W args v W' := by
  have hlt : ∀ p ∈ before, p.block < W.heap.size := fun p hp => hW.lt p hp
  have hold : ∀ p ∈ before, (fun b => decide (b < W.heap.size)) p.block = true := fun p hp => by simpa using hlt p hp
  refine ⟨ds, gs, before, [], pa, pv, hW, hres _ _ _, hargs _ hold, hvars _ hold, World.keptBut_mono (fun p hp => ⟨hp, ?_⟩) (hb.frame (· ∈ before)), fun _ => ?_⟩
  · rw [hps, List.mem_append] at hp
    exact Or.inr hp
  · obtain ⟨_, _, _, _, _, hz, hn⟩ := hW
    refine ⟨hok, _, _, ([] ++ pa) ++ pv, ⟨[] ++ pa, pv, trodAll_append (hargs _ (fun _ _ => rfl)) (hres _ _ _), hvars _ (fun _ _ => rfl), rfl, ?_, ?_⟩, ?_⟩
    · intro b off hp
      have hin : MemPlace.cell b off ∈ before := by rw [hps]; simpa using hp
      rw [hb.frozen (hlt _ hin)]
      exact hz b off hin
    · intro ha
      have := hn ha
      rw [hps] at this
      simpa using this
    · intro p hp _
      rw [hps]
      simpa using hp
/-- A law that returns true and only makes memory: its post. -/
theorem post_true {f : Func} {s : ChangeSpec} {apart fresh handsOn again : Bool} {W W' : World} {args : Array Value} {ds gs : List (DataW H)} {before : List MemPlace} {t : TypeId}
    (hl : laidOutB P = true) (hvn : s.vars = []) (hr : f.resultTypes = #[t]) (ht : P.underlying t = some .bool)
    (hp : ∀ t ∈ f.params.toList, P.readableRec t = true ∧ t < P.types.size)
    (hW : DataW.Whole enc P f.params.toList s.vars apart W args.toList ds gs before)
    (hfn : s.fn H ds = { results := [.lit (.bool true)], args := ds }) (hb : Ext W W') :
    s.post enc P f apart fresh handsOn again W args (.bool true) W' := by
  have hW' := hW
  obtain ⟨p, q, hA, hV, rfl, _, _⟩ := hW
  rw [hvn] at hV
  obtain ⟨rfl, rfl⟩ := trodVars_none hV
  have hlt : ∀ x ∈ p, x.block < W.heap.size := fun x hx => by simpa using hW'.lt x (by simp [hx])
  refine post_of_below (pa := p) (pv := []) hW' (fun _ _ _ => ?_) (fun sp hs => ?_) (fun _ _ => ?_) rfl hb (ok_one hr rfl (okWide_bool_mk ht _))
  · rw [List.append_nil, hfn, hr]; exact trodAll_mk1 (shut_bool ht true)
  · rw [List.append_nil, hfn]; exact trodAll_stays hl hb hp hA hlt (fun x hx => hs x (by simp [hx]))
  · rw [List.append_nil, hfn, hvn]; rfl
end
theorem laid_out : laidOutB Tryz.prog = true := by kernel_rfl
end Go.Proofs.YtbmjfjgfognimaaGreatDoor
namespace Go.Proofs.YtbmjfjgfognimaaGreatDoor
set_option linter.unusedSimpArgs false
set_option linter.unusedVariables false
open Go.RowKit
set_option maxRecDepth 100000

def othC (l : List RecD) (c : Int) : List RecD := l.filter fun r => r.cls != c
theorem othC_step (l : List RecD) (c : Int) (k : Nat) (h : k < l.length) : othC (l.take (k + 1)) c = othC (l.take k) c ++ (if l[k].cls = c then [] else [l[k]]) := by
  unfold othC
  rw [take_snoc l k h, List.filter_append]
  congr 1
  by_cases hc : l[k].cls = c
  · rw [if_pos hc]; simp [hc]
  · rw [if_neg hc]; simp [hc]
theorem othC_not {l : List RecD} {c : Int} : ∀ r ∈ othC l c, r.cls ≠ c := fun r hr => by
  unfold othC at hr; have := (List.mem_filter.1 hr).2; simpa using this
theorem othC_mem {l : List RecD} {c : Int} : ∀ r ∈ othC l c, r ∈ l := fun r hr => (List.mem_filter.1 hr).1
theorem query_dec {n : List UInt8} {ty cls id size : Int} (ht : 0 ≤ ty ∧ ty ≤ 65535) (hc : 0 ≤ cls ∧ cls ≤ 65535) (hi : 0 ≤ id ∧ id ≤ 65535) (h : queryErr n ty cls id size = 0) :
    may n = true ∧ encErr (queryM n ty cls id size) = 0 ∧ decR (queryOf n ty cls id size) = .ok (queryM n ty cls id size) ∧ (queryOf n ty cls id size).length ≤ 65535 := by
  unfold queryErr at h
  unfold queryOf
  by_cases hm : queryMay n size
  · rw [if_pos hm] at h ⊢
    refine ⟨hm.1, h, dec_enc (queryM_wf ht hc hi hm.2) h, ?_⟩
    rw [(enc_may h).2.2]; exact (enc_may h).2.1
  · rw [if_neg hm] at h; cases h
theorem class_same {l more : List RecD} {n : List UInt8} {ty cls id size : Int} (ht : 0 ≤ ty ∧ ty ≤ 65535) (hc : 0 ≤ cls ∧ cls ≤ 65535) (hi : 0 ≤ id ∧ id ≤ 65535) (h : queryErr n ty cls id size = 0) :
    resOf (groupR (l ++ othC more cls)) (queryOf n ty cls id size) = resOf (groupR l) (queryOf n ty cls id size) := by
  unfold resOf
  rw [(query_dec ht hc hi h).2.2.1]
  dsimp only
  refine res_class (c := cls) (fun x hx => ?_) othC_not
  have e : x = ⟨fold n, ty, cls⟩ := List.mem_singleton.1 hx
  subst e; rfl
theorem recs_one7c (l : List RecD) : ∀ u ∈ l.flatMap recCells, u.oneCell' = true := fun u hu => by
  obtain ⟨r, _, hu⟩ := List.mem_flatMap.1 hu
  exact rec_one7 r u hu
set_option maxHeartbeats 8000000 in
theorem law30_class (v u : Value) (l more : List RecD) (n : List UInt8) (ty cls id size : Int) (w : World) (hg : Laid w) (hb : BitsAt w) (h : Recs w 0 v l) (h' : Recs w 0 u more) (hwf : ∀ r ∈ l, r.wf) (hwf' : ∀ r ∈ more, r.wf)
    (hs : ∀ r ∈ l, r.name.length ≤ maxLen ∧ r.data.length ≤ maxLen) (hs' : ∀ r ∈ more, r.name.length ≤ maxLen ∧ r.data.length ≤ maxLen) (hn : n.length ≤ maxLen) (ht : 0 ≤ ty ∧ ty ≤ 65535) (hc : 0 ≤ cls ∧ cls ≤ 65535) (hi : 0 ≤ id ∧ id ≤ 65535) (hz : 0 ≤ size ∧ size ≤ 65535) :
    Calls Tryz.prog 10 #[v, u, .agg #[S n, .int .u16 ty, .int .u16 cls], .int .u16 id, .int .u16 size] w fun e w' => e = .returned (.bool true) ∧ Ext w w' := by
  unfold maxLen at hn
  have HFw := Lib.hid (fun V (hV : Ext w V) => law30_few 0 v l V (h.ext hV) hs)
  have HFu := Lib.hid (fun V (hV : Ext w V) => law30_few 0 u more V (h'.ext hV) hs')
  have HAw := Lib.hid (fun V (hV : Ext w V) => law30_awake V (hg.ext hV) (hb.ext hV))
  have HH := Lib.hid h
  have HU := Lib.hid h'
  obtain ⟨A, c, rfl, h1, h2, hrd⟩ := h
  obtain ⟨B, d, rfl, g1, g2, hrd'⟩ := h'
  unfold maxLen at h2 g2
  unfold FewPost at HFw HFu
  have HWz := Lib.hid (show wrap64 size = size by unfold wrap64; omega)
  obtain ⟨X0, hX0⟩ : ∃ X0, X0 = w.alloc (.cells #[S n, .int .u16 ty, .int .u16 cls] 32) := ⟨_, rfl⟩
  obtain ⟨b7, hb7⟩ : ∃ b7, b7 = w.heap.size := ⟨_, rfl⟩
  have r7 : X0.heap[b7]? = some (.cells #[S n, .int .u16 ty, .int .u16 cls] 32) := by rw [hX0, hb7]; exact heap_alloc_new _ _
  have hE0 : Ext w X0 := by rw [hX0]; exact (Ext.refl _).alloc _
  go_enter Tryz.func10, Tryz.ntmps10
  go_upto_region 1 with fail
  rw [← hX0, ← hb7]
  clear hX0 hb7
  have k0 := box_cell (j := 0) r7 rfl
  go_wp2_with fail
  refine (HFw.out _ hE0).mono ?_
  rintro e w1 ⟨B1, rfl, hB1, rfl⟩
  rcases B1 with _ | _
  · go_wp2_with fail
    refine (HAw.out _ hE0).mono ?_
    rintro e w2 ⟨rfl, hE2⟩
    go_wp2_with fail
    go_ret
    exact ⟨rfl, hE0.trans hE2⟩
  have HF1 := Lib.hid (hB1 rfl)
  clear hB1 HFw
  go_wp2_with fail
  refine (HFu.out _ hE0).mono ?_
  rintro e w1 ⟨B2, rfl, hB2, rfl⟩
  rcases B2 with _ | _
  · go_wp2_with fail
    refine (HAw.out _ hE0).mono ?_
    rintro e w2 ⟨rfl, hE2⟩
    go_wp2_with fail
    go_ret
    exact ⟨rfl, hE0.trans hE2⟩
  have HF2 := Lib.hid (hB2 rfl)
  clear hB2 HFu
  have hl80 : l.length ≤ 80 := HF1.out.1
  have hm80 : more.length ≤ 80 := HF2.out.1
  have HW1 := Lib.hid (show wrap64 ((l.length : Int) + (more.length : Int)) = (l.length : Int) + (more.length : Int) by unfold wrap64; omega)
  by_cases h80 : 80 < l.length + more.length
  · have h80i : decide ((80 : Int) < (l.length : Int) + (more.length : Int)) = true := decide_eq_true (by omega)
    have hw1 := HW1.out
    clear h1 h2 g1 g2 hn ht hc hi hz
    go_wp2_with fail
    refine (HAw.out _ hE0).mono ?_
    rintro e w2 ⟨rfl, hE2⟩
    go_wp2_with fail
    go_ret
    exact ⟨rfl, hE0.trans hE2⟩
  have h80i : decide ((80 : Int) < (l.length : Int) + (more.length : Int)) = false := decide_eq_false (by omega)
  by_cases hn4 : 400 < n.length
  · have hni : decide ((400 : Int) < (n.length : Int)) = true := decide_eq_true (by omega)
    have hw1 := HW1.out
    go_wp2_with fail
    refine (HAw.out _ hE0).mono ?_
    rintro e w2 ⟨rfl, hE2⟩
    go_wp2_with fail
    go_ret
    exact ⟨rfl, hE0.trans hE2⟩
  have hni : decide ((400 : Int) < (n.length : Int)) = false := decide_eq_false (by omega)
  have HN4 := Lib.hid hn4
  clear hn4 h80
  have hw1 := HW1.out
  go_wp2_with fail
  refine (HAw.out _ hE0).mono ?_
  rintro e w2 ⟨rfl, hE2⟩
  have r72 := (hE2.block _ (Array.getElem?_eq_some_iff.1 r7).1).trans r7
  have hw2 : Ext w w2 := hE0.trans hE2
  clear k0 hw1 h80i hni
  obtain ⟨i0, hi0, hz0, hz1, hz2⟩ := info_parts info_rec7
  have hrd2 := hrd.ext hw2
  go_upto_region 4 with (first
    | (at_builtin
       refine wpList_app _ rfl (.tmp 46) (.tmp 47) _ rfl w2.heap.size 56 i0 _ 5 40 Tryz.underlying40 hi0 hz0 hz1 hz2 rfl (by omega) _ 0 0 [] rfl (own_zero w2 _ _) 0 A l.length c (l.flatMap recCells) rfl (hrd2.ext ((Ext.refl _).alloc _)) (recs_one7c l) (by omega) (by omega) (by simp) ?_
       intro A3 c3 w3 hown3 hg3 hb3 _)
    | fail)
  have hE3 : Ext w2 w3 := ((Ext.refl _).alloc _).then hb3 (Nat.le_refl _)
  have hw3 : Ext w w3 := hw2.trans hE3
  have HO0 := Lib.hid (show othC (more.take 0) cls = [] from rfl)
  have HOe := Lib.hid (show more.take more.length = more from List.take_length)
  clear hrd2 hg3 hb3
  go_wp2_with fail
  go_loopw [11, 12] (fun s11 s12 wr => ∃ (k : Nat) (A4 : Option Addr) (c4 m4 : Nat) (xs : List RecD), k ≤ more.length ∧ s12 = .int .i64 k ∧ s11 = .slice A4 m4 c4 ∧ Hid (m4 = xs.length) ∧ Hid (xs = l ++ othC (more.take k) cls) ∧ Own wr w2.heap.size 56 5 A4 m4 c4 (xs.flatMap recCells) ∧ Ext w2 wr) (fun _ s12 _ => more.length - (intOf s12).toNat)
  case atStart =>
    refine ⟨0, A3, c3, l.length, l, Nat.zero_le _, rfl, ?_, rfl, by rw [HO0.out, List.append_nil]; exact rfl, by simpa using hown3, hE3⟩
    simp
  case round =>
    obtain ⟨k, A4, c4, m4, xs, hk, rfl, rfl, hm4, hxs, hown, hE4⟩ := hrel
    obtain ⟨wo, rfl⟩ : ∃ wo : World, wo = wr := ⟨_, rfl⟩
    have hwo : Ext w wo := hw2.trans hE4
    have r7o := (hE4.block _ (Array.getElem?_eq_some_iff.1 r72).1).trans r72
    by_cases hkl : k < more.length
    · obtain ⟨b, off, rfl, _, hbz, hcc⟩ := hrd'.2 (by omega)
      obtain ⟨x0, x1, x2, x3, x4⟩ := recs_cells hcc k more[k] (List.getElem?_eq_getElem hkl)
      rw [← hwo.cell (p := ⟨b, _, none⟩) hbz] at x0 x1 x2 x3 x4
      have HSt := Lib.hid (othC_step more cls k hkl)
      have hm4l : m4 ≤ 160 := by
        have h1 : (othC (more.take k) cls).length ≤ (more.take k).length := List.length_filter_le _ _
        rw [List.length_take] at h1
        rw [hm4.out, hxs.out, List.length_append]
        have := HF1.out.1; have := HF2.out.1; omega
      generalize more[k] = r at *
      obtain ⟨nm, ty2, cl2, tt, da⟩ := r
      dsimp only at HSt x0 x1 x2 x3 x4
      have HKl := Lib.hid hkl
      have hki : (k : Int) < (more.length : Int) := by omega
      have hk0 : (0 : Int) ≤ (k : Int) := by omega
      have q2 := box_cell (j := 2) r7o rfl
      clear hcc hkl
      by_cases hcl : cl2 = cls
      · have hcl1 : (cl2 != cls) = false := by rw [hcl]; simp
        have HSt2 := Lib.hid (show othC (more.take (k + 1)) cls = othC (more.take k) cls by rw [HSt.out, if_pos hcl, List.append_nil])
        clear hcl
        go_wp2_with fail
        go_quiet (fail)
        go_wp2_with fail
        go_roundw
        case rel => exact ⟨k + 1, A4, c4, m4, xs, by have := HKl.out; omega, by go_num, rfl, hm4, by rw [HSt2.out]; exact hxs, hown, hE4.drewN _⟩
        case measure => (have := HKl.out); simp [intOf]; omega
      · have hcl1 : (cl2 != cls) = true := by simpa using hcl
        have HSt2 := Lib.hid (show othC (more.take (k + 1)) cls = othC (more.take k) cls ++ [⟨nm, ty2, cl2, tt, da⟩] by rw [HSt.out, if_neg hcl])
        have hsz : w2.heap.size ≤ wo.heap.size := hE4.size
        clear hcl
        go_wp2_with fail
        go_quiet (fail)
        go_wp2_with (first
          | (at_builtin
             refine wpList_app _ rfl (.tmp 63) (.tmp 68) _ rfl w2.heap.size 56 i0 _ 5 40 Tryz.underlying40 hi0 hz0 hz1 hz2 rfl (by omega) A4 m4 c4 (xs.flatMap recCells) rfl (by exact hown.ext (by (repeat (first | with_reducible exact Ext.refl _ | with_reducible assumption | with_reducible refine Ext.alloc ?_ _ | with_reducible refine Ext.drewN ?_ _ | with_reducible refine Ext.drew ?_ | (with_reducible refine Ext.setCell ?_ ?hp _; case hp => (simp <;> omega)))))) 0 _ 1 1 (recCells ⟨nm, ty2, cl2, tt, da⟩) rfl (rd_new _ _ (by simp) _ _ 1 5 rfl) (rec_one7 _) (by omega) (by omega) (by simp; omega) ?_
             intro A6 c6 w6 hown6 hg6 hb6 _)
          | fail)
        go_roundw
        case rel =>
          refine ⟨k + 1, A6, c6, m4 + 1, xs ++ [⟨nm, ty2, cl2, tt, da⟩], by have := HKl.out; omega, by go_num, rfl, ?_, ?_, ?_, Ext.then (hE4.trans (by (repeat (first | with_reducible exact Ext.refl _ | with_reducible assumption | with_reducible refine Ext.alloc ?_ _ | with_reducible refine Ext.drewN ?_ _ | with_reducible refine Ext.drew ?_ | (with_reducible refine Ext.setCell ?_ ?hp _; case hp => (simp <;> omega)))))) hb6 (Nat.le_refl _)⟩
          · show m4 + 1 = _; rw [hm4.out, List.length_append]; rfl
          · show xs ++ _ = _; rw [HSt2.out, ← List.append_assoc, ← hxs.out]
          · rw [List.flatMap_append]; simpa using hown6
        case measure => (have := HKl.out); simp [intOf]; omega
    · obtain rfl : k = more.length := by omega
      have HXs := Lib.hid (show xs = l ++ othC more cls from by rw [hxs.out, HOe.out])
      have hm4l : m4 ≤ 160 := by
        have h1 : (othC (more.take more.length) cls).length ≤ (more.take more.length).length := List.length_filter_le _ _
        rw [List.length_take] at h1
        rw [hm4.out, hxs.out, List.length_append]
        have := HF1.out.1; have := HF2.out.1; omega
      have HM4 := Lib.hid hm4.out
      have hmem : ∀ r ∈ xs, r ∈ l ∨ r ∈ more := fun r hr => by
        rw [HXs.out] at hr
        rcases List.mem_append.1 hr with h' | h'
        · exact .inl h'
        · exact .inr (othC_mem r h')
      have hxbd : RecsBd xs := ⟨by rw [← HM4.out]; omega, fun r hr => by
        rcases hmem r hr with h' | h'
        · have := HF1.out.2 r h'; omega
        · have := HF2.out.2 r h'; omega⟩
      have hxwf : ∀ r ∈ xs, r.wf := fun r hr => by
        rcases hmem r hr with h' | h'
        · exact hwf r h'
        · exact hwf' r h'
      have HXr := Lib.hid (show Recs wo 0 (.slice A4 m4 c4) xs from ⟨A4, c4, by rw [HM4.out], by rw [← HM4.out]; exact hown.cap.1, hown.cap.2, by rw [← HM4.out]; exact hown.rd.lower (Nat.zero_le _)⟩)
      have HXb := Lib.hid (And.intro hxbd hxwf)
      have k0 := box_cell (j := 0) r7o rfl
      have k1 := box_cell (j := 1) r7o rfl
      have k2 := box_cell (j := 2) r7o rfl
      have HQ := Lib.hid (heard_query n ty cls id size wo (hg.ext hwo) (hb.ext hwo) (by have := HN4.out; omega) ht hc hi)
      unfold QueryPost at HQ
      obtain ⟨qs, hqs⟩ : ∃ s, s = queryOf n ty cls id size := ⟨_, rfl⟩
      obtain ⟨qe, hqe⟩ : ∃ e, e = queryErr n ty cls id size := ⟨_, rfl⟩
      rw [← hqs, ← hqe] at HQ
      have HQs := Lib.hid hqs
      have HQe := Lib.hid hqe
      have hwz := HWz.out
      clear hqs hqe hmem hxbd hxwf hm4 hxs hown
      go_wp2_with fail
      refine HQ.out.mono ?_
      rintro e w9 ⟨rfl, hE9⟩
      have hw9 : Ext w w9 := hwo.trans hE9
      have HN1 := Lib.hid (res_new 0 _ l w9 (hg.ext hw9) (HH.out.ext hw9) HF1.out.bd (recsOk_wf hwf))
      unfold NewPost at HN1
      clear hwz
      have HN2 := Lib.hid (fun V (hV : Ext w9 V) => res_new 0 _ xs V (hg.ext (hw9.trans hV)) (HXr.out.ext (hE9.trans hV)) HXb.out.1 (recsOk_wf HXb.out.2))
      unfold NewPost at HN2
      by_cases hqz : qe = 0
      rotate_left
      · have g1 : ((qe : Int) != 0) = true := by simpa using hqz
        clear hqz
        go_wp2_with fail
        refine HN1.out.mono ?_
        rintro e w10 (⟨_, R1, gv1, rfl, _, _, _, hE10⟩ | ⟨_, rfl, hE10⟩)
        all_goals
          go_wp2_with fail
          refine (HN2.out _ hE10).mono ?_
          rintro e w11 (⟨_, R2, gv2, rfl, _, _, _, hE11⟩ | ⟨_, rfl, hE11⟩)
          all_goals
            go_wp2_with fail
            go_ret
            exact ⟨rfl, (hw9.trans hE10).trans hE11⟩
      have g1 : ((qe : Int) != 0) = false := by rw [hqz]; rfl
      have HQd := Lib.hid (query_dec ht hc hi (HQe.out ▸ hqz))
      have HCs := Lib.hid (show resOf (groupR xs) qs = resOf (groupR l) qs from by rw [HXs.out, HQs.out]; exact class_same ht hc hi (HQe.out ▸ hqz))
      have HQl := Lib.hid (show qs.length ≤ 1048576 from by rw [HQs.out]; have := HQd.out.2.2.2; omega)
      clear hqz
      go_wp2_with fail
      refine HN1.out.mono ?_
      rintro e w10 (⟨_, R1, gv1, rfl, _, hR1, ho1, hE10⟩ | ⟨_, rfl, hE10⟩)
      rotate_left
      · go_wp2_with fail
        refine (HN2.out _ hE10).mono ?_
        rintro e w11 (⟨_, R2, gv2, rfl, _, _, _, hE11⟩ | ⟨_, rfl, hE11⟩)
        all_goals
          go_wp2_with fail
          go_ret
          exact ⟨rfl, (hw9.trans hE10).trans hE11⟩
      have hw10 := hw9.trans hE10
      go_wp2_with fail
      refine (HN2.out _ hE10).mono ?_
      rintro e w11 (⟨_, R2, gv2, rfl, _, hR2, ho2, hE11⟩ | ⟨_, rfl, hE11⟩)
      rotate_left
      · go_wp2_with fail
        go_ret
        exact ⟨rfl, hw10.trans hE11⟩
      have hw11 := hw10.trans hE11
      have hS1 := (ho1.sets.lower (Nat.zero_le _)).ext hE11
      have hR11 := (hE11.block _ (Array.getElem?_eq_some_iff.1 hR1).1).trans hR1
      have hS2 := ho2.sets.lower (Nat.zero_le _)
      have HA2 := Lib.hid (res_answer xs gv2 R2 qs w11 (hg.ext hw11) (hb.ext hw11) (box_cell hR2 rfl) hS2 HXb.out.1 HXb.out.2 HQl.out)
      have HA1 := Lib.hid (fun V (hV : Ext w11 V) => res_answer l gv1 R1 qs V (hg.ext (hw11.trans hV)) (hb.ext (hw11.trans hV)) (box_cell ((hV.block _ (Array.getElem?_eq_some_iff.1 hR11).1).trans hR11) rfl) (hS1.ext hV) HF1.out.bd hwf HQl.out)
      unfold StrPost at HA1 HA2
      rw [HCs.out] at HA2
      generalize resOf (groupR l) qs = rs at *
      clear ho1 ho2 hS1 hS2 hR1 hR2 hR11
      go_wp2_with fail
      refine HA2.out.mono ?_
      rintro e w12 ⟨rfl, hE12⟩
      go_wp2_with fail
      refine (HA1.out _ hE12).mono ?_
      rintro e w13 ⟨rfl, hE13⟩
      go_wp2_with fail
      go_ret
      exact ⟨rfl, (hw11.trans hE12).trans hE13⟩
end Go.Proofs.YtbmjfjgfognimaaGreatDoor
namespace Go.Proofs.YtbmjfjgfognimaaGreatDoor
set_option linter.unusedSimpArgs false
set_option linter.unusedVariables false
open Go.ChangeShapes Go.WideShapes Go.RowKit Go.Deep Go.Joins
set_option maxRecDepth 100000

theorem wf_u8c {n : Int} (h : (Lit.int .u8 n).wf = true) : 0 ≤ n ∧ n ≤ 255 := by
  have h1 : IntKind.u8.min = 0 := rfl
  have h2 : IntKind.u8.max = 255 := rfl
  simp [Lit.wf] at h; omega
theorem some_atc {α : Type} {l : List α} {n j : Nat} (h : l.length = n) (hj : j < n) : ∃ x, l[j]? = some x := ⟨l[j]'(by omega), List.getElem?_eq_getElem _⟩
end Go.Proofs.YtbmjfjgfognimaaGreatDoor
namespace Go.Proofs.YtbmjfjgfognimaaGreatDoor
set_option linter.unusedSimpArgs false
set_option linter.unusedVariables false
open Go.ChangeShapes Go.WideShapes Go.RowKit Go.Deep Go.Joins
set_option maxRecDepth 100000

theorem bytes_set7 : Tryz.prog.bytesOf 54 = 48 := by kernel_rfl
theorem weights_row7 {H : Type} {d : DataW H} {elems sp : List (DataW H)} (h : d = .slice elems sp) : (elems.length + sp.length) * 48 ∈ d.weights Tryz.prog 22 := by
  subst h
  simp only [DataW.weights, Tryz.underlying22, bytes_set7, List.mem_cons, true_or]
theorem sets_trod7 {H : Type} {enc : TypeId × Value → H} {W : World} {fuel : Nat} {v : Value} {y : DataW H × List MemPlace}
    (hf : DataW.trod enc Tryz.prog W 0 (fun _ => true) true fuel 22 [v] = some y) :
    ∃ l : List SetD, Sets W 0 v l ∧ (∀ s ∈ l, SetIn s ∧ s.name.length ∈ y.1.weights Tryz.prog 22 ∧ ∀ x ∈ s.data, x.length ∈ y.1.weights Tryz.prog 22) ∧ (l.length = 0 ∨ ∃ m, m ∈ y.1.weights Tryz.prog 22 ∧ l.length ≤ m) := by
  rcases open_slice_fields Tryz.underlying22 Tryz.underlying54 (by kernel_rfl) (by kernel_rfl) hf with ⟨e, _⟩ | ⟨a, len, cap, m, D, Pl, e, _, hl, hm, hmm, hdp, hi⟩
  · simp only [List.cons.injEq, and_true] at e
    rw [e]
    exact ⟨[], ⟨[], none, 0, rfl, rfl, Nat.le_refl _, by unfold maxLen; omega, Rd.nil _ _ _ _, by simp⟩, by simp, .inl rfl⟩
  · simp only [List.cons.injEq, and_true] at e
    rw [e]
    have hmc : len ≤ m := by rw [hmm]; split <;> omega
    have hdd := (Prod.mk.inj hdp).1
    obtain ⟨l, hll, hq⟩ := pick ((SetD.zero, .slice none 0 0) : SetD × Value) len (fun i r => (W.cell? (a.add (i * 5 + 0)) = some (S r.1.name) ∧ W.cell? (a.add (i * 5 + 1)) = some (.int .u16 r.1.typ) ∧ W.cell? (a.add (i * 5 + 2)) = some (.int .u16 r.1.cls) ∧ W.cell? (a.add (i * 5 + 3)) = some (.int .u32 r.1.ttl) ∧ W.cell? (a.add (i * 5 + 4)) = some r.2) ∧ Strs W 0 r.2 r.1.data ∧ SetIn r.1 ∧ r.1.name.length ∈ y.1.weights Tryz.prog 22 ∧ ∀ x ∈ r.1.data, x.length ∈ y.1.weights Tryz.prog 22) (fun i hi' => by
      obtain ⟨ys, n, hD, _, _, hy⟩ := hi i (by omega)
      obtain ⟨v0, y0, c0, g0, t0⟩ := hy 0 _ rfl
      obtain ⟨v1, y1, c1, _, t1⟩ := hy 1 _ rfl
      obtain ⟨v2, y2, c2, _, t2⟩ := hy 2 _ rfl
      obtain ⟨v3, y3, c3, _, t3⟩ := hy 3 _ rfl
      obtain ⟨v4, y4, c4, g4, t4⟩ := hy 4 _ rfl
      obtain ⟨s, e0, z0, hs⟩ := DataW.trod_string Tryz.underlying9 t0
      obtain ⟨x1, e1, _, w1⟩ := DataW.trod_int Tryz.underlying26 t1
      obtain ⟨x2, e2, _, w2⟩ := DataW.trod_int Tryz.underlying26 t2
      obtain ⟨x3, e3, _, w3⟩ := DataW.trod_int Tryz.underlying25 t3
      obtain ⟨sl, hsl, hsw⟩ := open_strs t4
      injection e0 with e0 _
      injection e1 with e1 _
      injection e2 with e2 _
      injection e3 with e3 _
      subst e0 e1 e2 e3
      rw [S_of] at c0
      have hmem : D i ∈ (List.range len).map D := List.mem_map.2 ⟨i, List.mem_range.2 hi', rfl⟩
      refine ⟨(⟨s.data.toList, x1, x2, x3, sl⟩, v4), ⟨c0, c1, c2, c3, c4⟩, hsl, ⟨wf_u16 w1, wf_u16 w2, wf_u32 w3⟩, ?_, fun x hx => ?_⟩
      · rw [hdd]
        refine weights_elem Tryz.underlying22 hmem ?_
        rw [hD]
        refine weights_field (j := 0) (d := y0.1) Tryz.underlying54 rfl (by simp [g0]) ?_
        rw [z0]; exact weights_str _ s
      · rw [hdd]
        refine weights_elem Tryz.underlying22 hmem ?_
        rw [hD]
        exact weights_field (j := 4) (d := y4.1) Tryz.underlying54 rfl (by simp [g4]) (hsw x hx))
    subst hll
    refine ⟨l.map Prod.fst, ⟨l, some a, cap, rfl, rfl, hl, hm, ?_, fun p hp => ?_⟩, fun s hs => ?_, .inr ⟨_, weights_row7 (by rw [hdd]), by simp only [List.length_map, List.length_range]; omega⟩⟩
    · refine ⟨flatS_len l, fun h0 => ?_⟩
      have hz := (hq 0 h0).1.1
      rw [show a.add (0 * 5 + 0) = a from rfl] at hz
      obtain ⟨ea, hb⟩ := spot_of hz
      refine ⟨a.block, a.off, by rw [← ea], Nat.zero_le _, hb, sets_of fun i hi' => ?_⟩
      have := (hq i hi').1
      rw [ea] at this
      simp only [add_none] at this
      exact this
    · obtain ⟨i, hi', rfl⟩ := List.getElem_of_mem hp
      exact (hq i hi').2.1
    · obtain ⟨p, hp, rfl⟩ := List.mem_map.1 hs
      obtain ⟨i, hi', rfl⟩ := List.getElem_of_mem hp
      exact (hq i hi').2.2
/-- What the form's reach says of a text's length. -/
theorem open_verdict7 {H : Type} {enc : TypeId × Value → H} {W : World} {r : Reach} {b0 : Nat} {v : Value} {d : DataW H} {p : List MemPlace}
    (hv : Value.okWide Tryz.prog W r b0 24 v) (h : DataW.Trod enc Tryz.prog W 0 (fun _ => true) true 24 v d p) :
    ∃ (code : Int) (vs vo : Value) (ss oo : List SetD), v = .agg #[.int .u8 code, vs, vo] ∧ Sets W 0 vs ss ∧ Sets W 0 vo oo ∧ (0 ≤ code ∧ code ≤ 255) ∧
      (∀ s ∈ ss ++ oo, SetIn s ∧ s.name.length ∈ d.weights Tryz.prog 24 ∧ ∀ x ∈ s.data, x.length ∈ d.weights Tryz.prog 24) ∧
      (ss.length = 0 ∨ ∃ m, m ∈ d.weights Tryz.prog 24 ∧ ss.length ≤ m) ∧ (oo.length = 0 ∨ ∃ m, m ∈ d.weights Tryz.prog 24 ∧ oo.length ≤ m) := by
  obtain ⟨cs, rfl, hsz⟩ := okWide_struct Tryz.underlying24 hv
  obtain ⟨l⟩ := cs
  have hC : Tryz.prog.cellsOf 24 = 3 := by kernel_rfl
  match l, hsz.trans hC with
  | [c0, c1, c2], _ =>
    obtain ⟨fuel, hf⟩ := h
    obtain ⟨xs, n, _, hd, _, hlen, hg⟩ := DataW.trod_struct Tryz.underlying24 hf
    have hd1 := (Prod.mk.inj hd).1
    obtain ⟨y0, hy0⟩ := some_atc hlen (show 0 < _ by decide)
    obtain ⟨y1, hy1⟩ := some_atc hlen (show 1 < _ by decide)
    obtain ⟨y2, hy2⟩ := some_atc hlen (show 2 < _ by decide)
    have g0 : DataW.trod enc Tryz.prog W 0 (fun _ => true) true n 5 ((([c0, c1, c2] : List Value).drop 0).take (Tryz.prog.cellsOf 5)) = some y0 := (hg 0 _ rfl).trans hy0
    have g1 : DataW.trod enc Tryz.prog W 0 (fun _ => true) true n 22 ((([c0, c1, c2] : List Value).drop 1).take (Tryz.prog.cellsOf 22)) = some y1 := (hg 1 _ rfl).trans hy1
    have g2 : DataW.trod enc Tryz.prog W 0 (fun _ => true) true n 22 ((([c0, c1, c2] : List Value).drop 2).take (Tryz.prog.cellsOf 22)) = some y2 := (hg 2 _ rfl).trans hy2
    rw [show Tryz.prog.cellsOf 5 = 1 by kernel_rfl] at g0
    rw [show Tryz.prog.cellsOf 22 = 1 by kernel_rfl] at g1 g2
    simp only [List.drop_succ_cons, List.drop_zero, List.take_succ_cons, List.take_zero] at g0 g1 g2
    obtain ⟨x, e0, _, w0⟩ := DataW.trod_int Tryz.underlying5 g0
    simp only [List.cons.injEq, and_true] at e0
    subst e0
    obtain ⟨ss, hs, hsw, hsl⟩ := sets_trod7 g1
    obtain ⟨oo, ho, how, hol⟩ := sets_trod7 g2
    have up1 : ∀ {m : Nat}, m ∈ y1.1.weights Tryz.prog 22 → m ∈ d.weights Tryz.prog 24 := fun hm => by
      rw [hd1]; exact weights_field (j := 1) (d := y1.1) Tryz.underlying24 rfl (by simp [hy1]) hm
    have up2 : ∀ {m : Nat}, m ∈ y2.1.weights Tryz.prog 22 → m ∈ d.weights Tryz.prog 24 := fun hm => by
      rw [hd1]; exact weights_field (j := 2) (d := y2.1) Tryz.underlying24 rfl (by simp [hy2]) hm
    refine ⟨x, c1, c2, ss, oo, rfl, hs, ho, wf_u8c w0, fun s hm => ?_, ?_, ?_⟩
    · rcases List.mem_append.1 hm with hm | hm
      · exact ⟨(hsw s hm).1, up1 (hsw s hm).2.1, fun x hx => up1 ((hsw s hm).2.2 x hx)⟩
      · exact ⟨(how s hm).1, up2 (how s hm).2.1, fun x hx => up2 ((how s hm).2.2 x hx)⟩
    · exact hsl.imp id fun ⟨m, h1, h2⟩ => ⟨m, up1 h1, h2⟩
    · exact hol.imp id fun ⟨m, h1, h2⟩ => ⟨m, up2 h1, h2⟩
end Go.Proofs.YtbmjfjgfognimaaGreatDoor
namespace Go.Proofs.YtbmjfjgfognimaaGreatDoor
set_option linter.unusedSimpArgs false
set_option linter.unusedVariables false
open Go.ChangeShapes Go.WideShapes Go.RowKit Go.Deep Go.Joins
set_option maxRecDepth 100000
section
variable {H : Type} {enc : TypeId × Value → H} {P : Program} {w : World} {base : Nat} {spare : Nat → Bool} {held : Bool}
theorem trodAll_five {t0 t1 t2 t3 t4 : TypeId} {args : Array Value} {ds : List (DataW H)} {ps : List MemPlace} (h : DataW.TrodAll enc P w base spare held [t0, t1, t2, t3, t4] args.toList ds ps) :
    ∃ v0 v1 v2 v3 v4 d0 d1 d2 d3 d4 p0 p1 p2 p3 p4, args = #[v0, v1, v2, v3, v4] ∧ ds = [d0, d1, d2, d3, d4] ∧ ps = p0 ++ p1 ++ p2 ++ p3 ++ p4 ∧ DataW.Trod enc P w base spare held t0 v0 d0 p0 ∧ DataW.Trod enc P w base spare held t1 v1 d1 p1 ∧ DataW.Trod enc P w base spare held t2 v2 d2 p2 ∧ DataW.Trod enc P w base spare held t3 v3 d3 p3 ∧ DataW.Trod enc P w base spare held t4 v4 d4 p4 := by
  obtain ⟨v0, vs0, d0, ds0, p0, q0, hargs, rfl, rfl, h0, r0⟩ := trodAll_cons h
  obtain ⟨v1, vs1, d1, ds1, p1, q1, rfl, rfl, rfl, h1, r1⟩ := trodAll_cons r0
  obtain ⟨v2, vs2, d2, ds2, p2, q2, rfl, rfl, rfl, h2, r2⟩ := trodAll_cons r1
  obtain ⟨v3, vs3, d3, ds3, p3, q3, rfl, rfl, rfl, h3, r3⟩ := trodAll_cons r2
  obtain ⟨v4, vs4, d4, ds4, p4, q4, rfl, rfl, rfl, h4, r4⟩ := trodAll_cons r3
  obtain ⟨rfl, rfl, rfl⟩ := trodAll_nil r4
  exact ⟨v0, v1, v2, v3, v4, d0, d1, d2, d3, d4, p0, p1, p2, p3, p4, by cases args; simp_all, rfl, by simp, h0, h1, h2, h3, h4⟩
end
end Go.Proofs.YtbmjfjgfognimaaGreatDoor
namespace Go.Proofs.YtbmjfjgfognimaaGreatDoor
set_option linter.unusedSimpArgs false
set_option linter.unusedVariables false
open Go.ChangeShapes Go.WideShapes Go.ChangeAt Go.RowKit
set_option maxRecDepth 100000

theorem resolverClass_contract (H : Type) (enc : TypeId × Value → H) (W : World) (base : Nat) (args : Array Value) (ds gs : List (DataW H)) (before : List MemPlace)
    (hval : ∀ (j : Nat) t v, Tryz.f10.params[j]? = some t → args[j]? = some v → Value.okWide Tryz.prog W .any base t v)
    (hW : DataW.Whole enc Tryz.prog Tryz.f10.params.toList Rows.resolverClassSpec.vars false W args.toList ds gs before)
    (hsz : (DataW.weightsEach Tryz.prog (Tryz.f10.params.toList ++ (OpenSpec.ofChange Rows.resolverClassSpec).bare.plain.varTypes Tryz.prog) (ds ++ gs)).all (· ≤ reachBytes) = true)
    (hL : laidMetH Tryz.prog laidL W) :
    Calls Tryz.prog 10 args W fun e W' => ∃ v, e = .returned v ∧ Rows.resolverClassSpec.post enc Tryz.prog Tryz.f10 false true false false W args v W' := by
  have hW' := hW
  have hp : ∀ t ∈ Tryz.f10.params.toList, Tryz.prog.readableRec t = true ∧ t < Tryz.prog.types.size := by
    have h : (Tryz.f10.params.toList.all fun t => Tryz.prog.readableRec t && decide (t < Tryz.prog.types.size)) = true := by kernel_rfl
    simpa only [List.all_eq_true, Bool.and_eq_true, decide_eq_true_eq] using h
  have hg := laid_of hL
  have hb := laidbits_of hL
  obtain ⟨p, q, hA0, hV, rfl, _, _⟩ := hW
  have hA : DataW.TrodAll enc Tryz.prog W 0 (fun _ => true) true Tryz.f10.params.toList args.toList ds p := hA0
  clear hA0
  rw [Tryz.params10] at hA hval hsz
  obtain ⟨rfl, rfl⟩ := trodVars_none hV
  obtain ⟨v0, v1, v2, v3, v4, d0, d1, d2, d3, d4, p0, p1, p2, p3, p4, rfl, rfl, rfl, h0, h1, h2, h3, h4⟩ := trodAll_five hA
  obtain ⟨l, hr0, hlo⟩ := open_recsW (hval 0 _ _ rfl rfl) h0
  obtain ⟨l', hr1, hlo'⟩ := open_recsW (hval 1 _ _ rfl rfl) h1
  obtain ⟨n, ty, cl, rfl, hn, hq1, hq2⟩ := open_question (hval 2 _ _ rfl rfl) h2
  obtain ⟨id, rfl, hi1, hi2⟩ := open_u16 (hval 3 _ _ rfl rfl) h3
  obtain ⟨sz, rfl, hs1, hs2⟩ := open_u16 (hval 4 _ _ rfl rfl) h4
  refine (law30_class v0 v1 l l' n ty cl id sz W hg hb hr0 hr1 (fun r hr => (hlo r hr).1.2.2) (fun r hr => (hlo' r hr).1.2.2) (fun r hr => ⟨Nat.le_trans (reach_of hsz (j := 0) rfl rfl (hlo r hr).2.1) (by unfold maxLen; decide), Nat.le_trans (reach_of hsz (j := 0) rfl rfl (hlo r hr).2.2) (by unfold maxLen; decide)⟩) (fun r hr => ⟨Nat.le_trans (reach_of hsz (j := 1) rfl rfl (hlo' r hr).2.1) (by unfold maxLen; decide), Nat.le_trans (reach_of hsz (j := 1) rfl rfl (hlo' r hr).2.2) (by unfold maxLen; decide)⟩) hn hq1 hq2 ⟨hi1, hi2⟩ ⟨hs1, hs2⟩).mono ?_
  rintro e W' ⟨rfl, hE⟩
  exact ⟨_, rfl, post_true laid_out rfl (by kernel_rfl) Tryz.underlying4 hp hW' rfl hE⟩

theorem resolverClass_reads (os : Os) {H : Type} (enc : TypeId × Value → H) : ∃ places, DataW.whole enc Tryz.prog ((laidWorld os).forCall (fun _ _ => 0) ⟨#[], #[.slice none 0 0, .slice none 0 0, .agg #[.string ⟨#[]⟩, .int .u16 0, .int .u16 0], .int .u16 0, .int .u16 0], []⟩).memory Tryz.f10.params.toList Rows.resolverClassSpec.vars false (#[.slice none 0 0, .slice none 0 0, .agg #[.string ⟨#[]⟩, .int .u16 0, .int .u16 0], .int .u16 0, .int .u16 0] : Array Value).toList 8 = some ([.nil, .nil, .agg [.lit (.string []), .lit (.int .u16 0), .lit (.int .u16 0)], .lit (.int .u16 0), .lit (.int .u16 0)], [], places) :=
  ⟨[], by kernel_rfl⟩
theorem resolverClass_lifted (os : Os) (started : os.Started) (H : Type) (enc : TypeId × Value → H) (F : Stop.Interp) :
    ReturnsInHanded {} Tryz.checked os 10 .any ((OpenSpec.ofChange Rows.resolverClassSpec).preRow enc Tryz.prog Tryz.f10 Rows.resolverClassRow.domain false Rows.resolverClassRow.laid) (((OpenSpec.ofChange Rows.resolverClassSpec).at F).post enc Tryz.prog Tryz.f10 false true false false) := by
  obtain ⟨places, hx⟩ := resolverClass_reads os enc
  refine returnsInHanded_of_row (C := Tryz.checked) (s := OpenSpec.ofChange Rows.resolverClassSpec) own_knob started (by kernel_rfl) Tryz.func10
    (witness_row_at (enc := enc) (C := Tryz.checked) false (laidWorld os) #[.slice none 0 0, .slice none 0 0, .agg #[.string ⟨#[]⟩, .int .u16 0, .int .u16 0], .int .u16 0, .int .u16 0] rfl (by kernel_rfl) (by kernel_rfl) (by kernel_rfl)
      (OpenSpec.preRow_of_cond 8 hx (by kernel_rfl) (fun k hk => by cases hk) (by kernel_rfl) (laid_met os _))) ?_
  intro W base args ds gs before hval hW _ _ hsz hL _ _
  exact resolverClass_contract H enc W base args ds gs before hval hW hsz hL
theorem band_card (a b : Bool) (h1 : a = true) (h2 : b = true) : (a && b) = true := by rw [h1, h2]; rfl
set_option maxHeartbeats 4000000 in
theorem resolverClass_joined : joinedFacts Tryz.prog 10 Tryz.f10 (OpenSpec.ofChange Rows.resolverClassSpec).bare Rows.resolverClassRow = true := by
  unfold joinedFacts; repeat' (with_reducible refine band_card _ _ ?_ ?_)
  all_goals (as_aux_lemma => kernel_rfl)
set_option maxHeartbeats 4000000 in
theorem resolverClass_said : Rows.ResolverClassSaid :=
  OpenClaim.holds_of_cond 10 Tryz.f10 rfl rfl rfl rfl rfl rfl rfl ⟨rfl, rfl, rfl, rfl, rfl⟩ rfl rfl rfl rfl rfl (by kernel_rfl) Tryz.func10 resolverClass_joined
    (of_decide_eq_true (by kernel_rfl)) (by unfold Func.isWrapper; first | (rw [if_pos (by decide +kernel)]; kernel_rfl) | (rw [if_neg (by decide +kernel)]; exact ⟨rfl, rfl⟩))
    (fun os started H enc _ F => by rw [OpenClaim.pre_eq_preRow]; exact resolverClass_lifted os started H enc F)
/-- THE CARD. -/
theorem resolverClass_card : Rows.ResolverClassCardSaid :=
  Claim7.holds_tied_plain_at .later [] _ _ _ _ resolverClass_said (fun _ h => by cases h) (by as_aux_lemma => kernel_rfl) (fun _ h => by cases h) resolverClass_row_tie rfl ⟨rfl, rfl⟩ (by as_aux_lemma => kernel_rfl) rfl
    (fun f fn hf hfn => by
      obtain rfl : f = 10 := Option.some.inj ((show Tryz.prog.funcNamed Rows.resolverClassRow.func = some 10 by kernel_rfl).symm.trans hf) |>.symm
      obtain rfl : fn = Tryz.f10 := (Option.some.inj (Tryz.func10.symm.trans hfn)).symm
      refine ⟨by kernel_rfl, fun j t ht => ?_⟩
      have h : (Tryz.f10.params.toList.all fun t => !Tryz.prog.wantsStandIn t) = true := by kernel_rfl
      have h2 := List.all_eq_true.1 h t (by simpa using Array.mem_of_getElem? ht)
      exact (by simpa using h2 : Tryz.prog.wantsStandIn t = false))
    (by as_aux_lemma => kernel_rfl)
#print axioms resolverClass_card
end Go.Proofs.YtbmjfjgfognimaaGreatDoor
