/- hustingslaw28.AnswerNames returns true for every input, and every argument reads behind the call as it read before; the listed variables are tied to the program's text. No condition of ours. -/
import Derived.Test.YtjmfpillnbnofaaDoorCards
import Derived.Test.YtjmfpillnbnofaaDoorTie
import Derived.Test.YtjmfpillnbnofaaDoorBb
import Derived.ProofKit
import Derived.OpenShut
import Derived.LaidHandle
import Derived.LaidLaws
import Derived.Test.YtjmfpillnbnofaaDoorBwy
import Derived.Deep.DeepHandedRow
import Derived.Test.YtjmfpillnbnofaaDoorBna
namespace Go.Proofs.YtjmfpillnbnofaaDoor
set_option linter.unusedSimpArgs false
set_option linter.unusedVariables false
open Go.ChangeShapes Go.WideShapes Go.ChangeAt Go.RowKit
set_option maxRecDepth 100000

theorem own_knob : ownKnob Tryd.prog.godebug = none := by kernel_rfl
theorem et_at : Tryd.prog.globalNamed "errors.errorType" = some 1 := by kernel_rfl
theorem one_row : ((List.range Tryd.prog.types.size).filter fun t => Tryd.prog.rowNamed t [101, 114, 114, 111, 114]) = [135] := by kernel_rfl
def laidL : List (String × DataW Unit) := [("errors.errorType", Rows.laid_errors_errorType), ("hustings/head.bits", Rows.laid_hustings_head_bits)]

theorem laid_of {W : World} (h : laidMetH Tryd.prog laidL W) : Laid W := by
  have h' : laidMet Tryd.prog [("hustings/head.bits", Rows.laid_hustings_head_bits)] W ∧ handlesMet Tryd.prog [("errors.errorType", Rows.laid_errors_errorType)] W := h
  obtain ⟨name, u, ty, e1, e2, e3, e4, e5⟩ := h'.2 _ (List.mem_singleton.2 rfl)
  have en : name = [101, 114, 114, 111, 114] := (Option.some.inj e1).symm
  subst en
  obtain rfl : u = 182 := Option.some.inj (e2.symm.trans (by kernel_rfl))
  have hm : ty ∈ (List.range Tryd.prog.types.size).filter fun t => Tryd.prog.rowNamed t [101, 114, 114, 111, 114] := List.mem_filter.2 ⟨List.mem_range.2 e3, e4⟩
  rw [one_row] at hm
  obtain rfl := List.mem_singleton.1 hm
  have hh : typeHandle Tryd.prog 135 = hdl 135 := by kernel_rfl
  rw [hh] at e5
  show W.cell? ⟨1, 0, none⟩ = _
  simpa using World.var?_cell et_at e5 0

theorem bits_at : Tryd.prog.globalNamed "hustings/head.bits" = some 0 := by kernel_rfl
theorem one_cell {l : List Value} {i : Nat} {v : Value} (h : (l.drop i).take 1 = [v]) : l[i]? = some v := by
  have h1 := congrArg (fun x : List Value => x[0]?) h
  simpa using h1
def bitsL : List Int := [32768, 1024, 512, 256, 128, 64, 32, 16]
theorem laidbits_of {W : World} (h : laidMetH Tryd.prog laidL W) : BitsAt W := by
  have h' : laidMet Tryd.prog [("hustings/head.bits", Rows.laid_hustings_head_bits)] W ∧ handlesMet Tryd.prog [("errors.errorType", Rows.laid_errors_errorType)] W := h
  obtain ⟨ps, hlv, _, _⟩ := h'.1
  obtain ⟨g, t, cs, fuel, p, q, e1, e2, e3, e4, _, _⟩ := hlv
  obtain rfl : 0 = g := Option.some.inj (bits_at.symm.trans e1)
  obtain rfl : 92 = t := Option.some.inj ((show (Tryd.prog.globals[0]?).map (·.type) = some 92 by kernel_rfl).symm.trans e2)
  obtain ⟨xs, n, _, hd, _, hlen, hf⟩ := DataW.trod_array Tryd.underlying92 e4
  have hd1 := (Prod.mk.inj hd).1
  have key : ∀ i, i < 8 → cs.toList[i]? = some (.int .u16 (bitsL.getD i 0)) := fun i hi => by
    have hx : (xs.map (·.1))[i]? = some (.lit (.int .u16 (bitsL.getD i 0))) := by
      have h1 : xs.map (·.1) = bitsL.map fun k => (.lit (.int .u16 k) : DataW Unit) := by
        injection hd1 with h1
        exact h1.symm
      rw [h1, List.getElem?_map, List.getElem?_eq_getElem (show i < bitsL.length from hi)]
      simp [List.getD, List.getElem?_eq_getElem (show i < bitsL.length from hi)]
    rw [List.getElem?_map] at hx
    obtain ⟨y, hy1, hy2⟩ := Option.map_eq_some_iff.1 hx
    have h2 := (hf i hi).trans hy1
    rw [show Tryd.prog.cellsOf 23 = 1 by kernel_rfl, Nat.mul_one] at h2
    obtain ⟨m, g1, g2, _⟩ := DataW.trod_int Tryd.underlying23 h2
    rw [g2] at hy2
    have hm : m = bitsL.getD i 0 := by
      injection hy2 with hy2
      injection hy2
    rw [← hm]
    exact one_cell g1
  have key2 : ∀ i, i < 8 → W.cell? ⟨0, i, none⟩ = some (.int .u16 (bitsL.getD i 0)) := fun i hi => by
    rw [World.var?_cell bits_at e3 i]
    simpa using key i hi
  exact ⟨key2 0 (by omega), key2 1 (by omega), key2 2 (by omega), key2 3 (by omega), key2 4 (by omega), key2 5 (by omega), key2 6 (by omega), key2 7 (by omega)⟩
noncomputable def laidWorld (os : Os) : World :=
  let w0 := World.holding Tryd.prog os ⟨#[], #[], []⟩
  { w0 with heap := (w0.heap.modify 1 fun
      | .cells _ t frozen => .cells #[errTy] t frozen
      | o => o).modify 0 fun
      | .cells _ t frozen => .cells #[.int .u16 32768, .int .u16 1024, .int .u16 512, .int .u16 256, .int .u16 128, .int .u16 64, .int .u16 32, .int .u16 16] t frozen
      | o => o }
theorem laid_met (os : Os) (args : Array Value) : laidMetH Tryd.prog laidL ((laidWorld os).forCall (fun _ _ => 0) ⟨#[], args, []⟩).memory :=
  laidMetH_of_parts (laidMet_of_run' 8 (by kernel_rfl) (by kernel_rfl)) (by kernel_rfl)

section
variable {H : Type} {enc : TypeId × Value → H} {P : Program}
theorem trodAll_stays (hl : laidOutB P = true) {W W' : World} (hb : Below W.heap.size W W') {sp : Nat → Bool} : ∀ {ts : List TypeId} {vs : List Value} {ds : List (DataW H)} {ps : List MemPlace},
    (∀ t ∈ ts, P.readableRec t = true ∧ t < P.types.size) → DataW.TrodAll enc P W 0 (fun _ => true) true ts vs ds ps → (∀ x ∈ ps, x.block < W.heap.size) → (∀ x ∈ ps, sp x.block = true) → DataW.TrodAll enc P W' 0 sp true ts vs ds ps
  | [], _, _, _, _, h, _, _ => by obtain ⟨rfl, rfl, rfl⟩ := trodAll_nil h; exact trodAll_mk0
  | t :: ts, _, _, _, ht, h, hlt, hs => by
    obtain ⟨v, vs, d, ds, p, q, rfl, rfl, rfl, h0, h1⟩ := trodAll_cons h
    have h2 := ht t (by simp)
    exact trodAll_cons_mk (WideElems.Trod_stays hl h2.1 h2.2 h0 (fun x hx => hb.same (hlt x (by simp [hx]))) (fun x hx => hs x (by simp [hx])))
      (trodAll_stays hl hb (fun t ht' => ht t (by simp [ht'])) h1 (fun x hx => hlt x (by simp [hx])) (fun x hx => hs x (by simp [hx])))
theorem post_of_below {f : Func} {s : ChangeSpec} {apart fresh handsOn again : Bool} {W W' : World} {args : Array Value} {v : Value} {ds gs : List (DataW H)} {before pa pv : List MemPlace}
    (hW : DataW.Whole enc P f.params.toList s.vars apart W args.toList ds gs before)
    (hres : ∀ (b : Nat) (sp : Nat → Bool) (hd : Bool), DataW.TrodAll enc P W' b sp hd f.resultTypes.toList (v.resultList f.resultTypes.size) (s.fn H (ds ++ gs)).results [])
    (hargs : ∀ sp : Nat → Bool, (∀ p ∈ before, sp p.block = true) → DataW.TrodAll enc P W' 0 sp true f.params.toList args.toList (s.fn H (ds ++ gs)).args pa)
    (hvars : ∀ sp : Nat → Bool, (∀ p ∈ before, sp p.block = true) → DataW.TrodVars enc P W' sp s.vars (s.fn H (ds ++ gs)).vars pv)
    (hps : before = pa ++ pv) (hb : Below W.heap.size W W')
    (hok : ∀ (j : Nat) (t : TypeId) (r : Value), f.resultTypes[j]? = some t → (v.resultList f.resultTypes.size)[j]? = some r → Value.okWide P W' .any 0 t r) :
    s.post enc P f apart fresh handsOn again W args v W' := by
  have hlt : ∀ p ∈ before, p.block < W.heap.size := fun p hp => hW.lt p hp
  have hold : ∀ p ∈ before, (fun b => decide (b < W.heap.size)) p.block = true := fun p hp => by simpa using hlt p hp
  refine ⟨ds, gs, before, [], pa, pv, hW, hres _ _ _, hargs _ hold, hvars _ hold, World.keptBut_mono (fun p hp => ⟨hp, ?_⟩) (hb.frame (· ∈ before)), fun _ => ?_⟩
  · rw [hps, List.mem_append] at hp
    exact Or.inr hp
  · obtain ⟨_, _, _, _, _, hz, hn⟩ := hW
    refine ⟨hok, _, _, ([] ++ pa) ++ pv, ⟨[] ++ pa, pv, trodAll_append (hargs _ (fun _ _ => rfl)) (hres _ _ _), hvars _ (fun _ _ => rfl), rfl, ?_, ?_⟩, ?_⟩
    · intro b off hp
      have hin : MemPlace.cell b off ∈ before := by rw [hps]; simpa using hp
      rw [hb.frozen (hlt _ hin)]
      exact hz b off hin
    · intro ha
      have := hn ha
      rw [hps] at this
      simpa using this
    · intro p hp _
      rw [hps]
      simpa using hp
/-- A law that returns true and only makes memory: its post. -/
theorem post_true {f : Func} {s : ChangeSpec} {apart fresh handsOn again : Bool} {W W' : World} {args : Array Value} {ds gs : List (DataW H)} {before : List MemPlace} {t : TypeId}
    (hl : laidOutB P = true) (hvn : s.vars = []) (hr : f.resultTypes = #[t]) (ht : P.underlying t = some .bool)
    (hp : ∀ t ∈ f.params.toList, P.readableRec t = true ∧ t < P.types.size)
    (hW : DataW.Whole enc P f.params.toList s.vars apart W args.toList ds gs before)
    (hfn : s.fn H ds = { results := [.lit (.bool true)], args := ds }) (hb : Ext W W') :
    s.post enc P f apart fresh handsOn again W args (.bool true) W' := by
  have hW' := hW
  obtain ⟨p, q, hA, hV, rfl, _, _⟩ := hW
  rw [hvn] at hV
  obtain ⟨rfl, rfl⟩ := trodVars_none hV
  have hlt : ∀ x ∈ p, x.block < W.heap.size := fun x hx => by simpa using hW'.lt x (by simp [hx])
  refine post_of_below (pa := p) (pv := []) hW' (fun _ _ _ => ?_) (fun sp hs => ?_) (fun _ _ => ?_) rfl hb (ok_one hr rfl (okWide_bool_mk ht _))
  · rw [List.append_nil, hfn, hr]; exact trodAll_mk1 (shut_bool ht true)
  · rw [List.append_nil, hfn]; exact trodAll_stays hl hb hp hA hlt (fun x hx => hs x (by simp [hx]))
  · rw [List.append_nil, hfn, hvn]; rfl
end
theorem laid_out : laidOutB Tryd.prog = true := by kernel_rfl
end Go.Proofs.YtjmfpillnbnofaaDoor
namespace Go.Proofs.YtjmfpillnbnofaaDoor
set_option linter.unusedSimpArgs false
set_option linter.unusedVariables false
open Go.RowKit
set_option maxRecDepth 100000
theorem rdN_one {w : World} {g : Nat} {d : List UInt8} (h : w.heap[g]? = some (.cells #[S d] 9)) : Rd w 0 1 (some ⟨g, 0, none⟩) 1 ([d].map S) := ⟨rfl, fun _ => ⟨g, 0, rfl, Nat.zero_le _, (Array.getElem?_eq_some_iff.1 h).1, fun j u hu => by
  rcases j with _ | j
  · simp at hu; subst hu; exact box_cell h rfl
  · simp at hu⟩⟩
theorem rdN_cell {w : World} {lo : Nat} {A : Option Addr} {d : List UInt8} (h : Rd w lo 1 A 1 ([d].map S)) : ∃ b off, A = some ⟨b, off, none⟩ ∧ lo ≤ b ∧ b < w.heap.size ∧ w.cell? ⟨b, off, none⟩ = some (S d) := by
  obtain ⟨b, off, e, h1, h2, h3⟩ := h.2 (by omega)
  exact ⟨b, off, e, h1, h2, h3 0 _ rfl⟩
theorem rdN_of {w : World} {b off : Nat} {d : List UInt8} (hb : b < w.heap.size) (h : w.cell? ⟨b, off, none⟩ = some (S d)) : Rd w 0 1 (some ⟨b, off, none⟩) 1 ([d].map S) := ⟨rfl, fun _ => ⟨b, off, rfl, Nat.zero_le _, hb, fun j u hu => by
  rcases j with _ | j
  · simp at hu; subst hu; exact h
  · simp at hu⟩⟩
theorem cell_keepN {w : World} {p q : Addr} {u v x : Value} (h : w.cell? q = some u) (hp : w.cell? p = some v) (hne : u ≠ v) : (w.setCell p x).cell? q = some u := by
  by_cases e : p = q
  · subst e; rw [hp] at h; injection h with h; exact absurd h.symm hne
  · rw [World.cell?_setCell_other _ _ _ _ e]; exact h
theorem setCell_off (W : World) (g i : Nat) (u : Value) (k : Nat) (h : k ≠ g) : (W.setCell ⟨g, i, none⟩ u).heap[k]? = W.heap[k]? := Below.heap_setCell _ ⟨g, i, none⟩ _ k h
theorem cell_ltN {w : World} {p : Addr} {v : Value} (h : w.cell? p = some v) : p.block < w.heap.size := by
  rcases Nat.lt_or_ge p.block w.heap.size with h' | h'
  · exact h'
  · simp [World.cell?, Array.getElem?_eq_none h'] at h
theorem ext_cellN {w V : World} {p : Addr} {v : Value} (h : Ext w V) (c : w.cell? p = some v) : V.cell? p = some v := (h.cell (cell_ltN c)).trans c
theorem adrsTo_one : adrsTo 1 = [[10, 0, 0, 1]] := rfl
set_option maxHeartbeats 40000000 in
theorem law28_names (w : World) (hg : Laid w) (hb : BitsAt w) : Calls Tryd.prog 3 #[] w fun e w' => e = .returned (.bool true) ∧ Ext w w' := by
  have HAw := Lib.hid (law28_awake w hg hb)
  unfold AwPost at HAw
  have HA := Lib.hid (fun V n hn => law28_adrF n V hn)
  unfold AdrF at HA
  have HL1 := Lib.hid (fun V (hV : Ext w V) => int_look qry28 V (hg.ext hV) (hb.ext hV) (by decide))
  rw [look28] at HL1
  have HL2 := Lib.hid (fun V (hV : Ext w V) => int_look wide28 V (hg.ext hV) (hb.ext hV) (by decide))
  rw [lookW] at HL2
  go_enter Tryd.func3, Tryd.ntmps3
  go_wp2_with fail
  refine HAw.out.mono ?_
  rintro e w0 ⟨rfl, hE0⟩
  clear HAw
  go_upto_region 3 with fail
  refine wp_region_lit ?_
  iterate 2 go_step
  refine (HL1.out _ hE0).mono ?_
  rintro e w1 ⟨rfl, hE1⟩
  dsimp only
  iterate 1 go_step
  iterate 2 go_step
  refine (HL2.out _ (hE0.trans hE1)).mono ?_
  rintro e w2 ⟨rfl, hE2⟩
  dsimp only
  iterate 1 go_step
  obtain ⟨b1, hb1⟩ : ∃ b1, b1 = w2.heap.size := ⟨_, rfl⟩
  refine Go.Great.wpList_allocTo rfl (some 1) rfl (.pointer (some ⟨w2.heap.size, 0, none⟩)) (.cells cameZ 29) (by kernel_rfl) ?_
  rw [← hb1]
  obtain ⟨w3, hw3⟩ : ∃ w3, w3 = w2.alloc (.cells cameZ 29) := ⟨_, rfl⟩
  have zb1 : w3.heap[b1]? = some (.cells cameZ 29) := by rw [hw3, hb1]; exact heap_alloc_new _ _
  have xw3 : Ext w2 w3 := by rw [hw3]; exact (Ext.refl _).alloc _
  have nw3 : w3.heap.size ≤ w2.heap.size + 1 ∧ w2.heap.size + 1 ≤ w3.heap.size := by rw [hw3]; simp
  rw [← hw3]
  clear hw3
  replace hb1 : b1 ≤ w2.heap.size ∧ w2.heap.size ≤ b1 := by omega
  obtain ⟨b2, hb2⟩ : ∃ b2, b2 = w3.heap.size := ⟨_, rfl⟩
  refine Go.Great.wpList_allocTo rfl (some 2) rfl (.pointer (some ⟨w3.heap.size, 0, none⟩)) (.cells cameZ 29) (by kernel_rfl) ?_
  rw [← hb2]
  obtain ⟨w4, hw4⟩ : ∃ w4, w4 = w3.alloc (.cells cameZ 29) := ⟨_, rfl⟩
  have zb2 : w4.heap[b2]? = some (.cells cameZ 29) := by rw [hw4, hb2]; exact heap_alloc_new _ _
  have xw4 : Ext w3 w4 := by rw [hw4]; exact (Ext.refl _).alloc _
  have nw4 : w4.heap.size ≤ w3.heap.size + 1 ∧ w3.heap.size + 1 ≤ w4.heap.size := by rw [hw4]; simp
  rw [← hw4]
  clear hw4
  replace hb2 : b2 ≤ w3.heap.size ∧ w3.heap.size ≤ b2 := by omega
  refine Go.wpList_store_rowTo rfl 29 (.tmp 1) (.tmp 20) rfl rfl b1 (caRow 3 0 ⟨7, false, 0, false, false, true, false, false, false, false, 0⟩ true ⟨[2, 101, 120, 0], 1, 1⟩ false 0) rfl rfl 29 _ (ext_row xw4 zb1) (by kernel_rfl) rfl (by kernel_rfl) ?_
  obtain ⟨w5, hw5⟩ : ∃ w5, w5 = w4.setRow b1 (caRow 3 0 ⟨7, false, 0, false, false, true, false, false, false, false, 0⟩ true ⟨[2, 101, 120, 0], 1, 1⟩ false 0) := ⟨_, rfl⟩
  have zb1' : w5.heap[b1]? = some (.cells (caRow 3 0 ⟨7, false, 0, false, false, true, false, false, false, false, 0⟩ true ⟨[2, 101, 120, 0], 1, 1⟩ false 0) 29) := by rw [hw5]; exact setRow_heap _ _ _ _ _ _ (ext_row xw4 zb1)
  have ow5 : ∀ k, k ≠ b1 → w5.heap[k]? = w4.heap[k]? := by rw [hw5]; exact setRow_off _ _ _
  have nw5 : w5.heap.size ≤ w4.heap.size ∧ w4.heap.size ≤ w5.heap.size := by rw [hw5, setRow_size]; simp
  have xw5 : ∀ a, Ext a w4 → a.heap.size ≤ b1 → Ext a w5 := by rw [hw5]; exact fun a h1 h2 => ext_setRow h1 _ _ h2
  rw [← hw5]
  clear hw5
  refine Go.wpList_store_rowTo rfl 29 (.tmp 2) (.tmp 21) rfl rfl b2 (caRow 3 0 ⟨7, false, 0, false, false, true, false, false, false, false, 0⟩ true ⟨[2, 101, 120, 0], 1, 1⟩ true 4096) rfl rfl 29 _ ((ow5 _ (by omega)).trans zb2) (by kernel_rfl) rfl (by kernel_rfl) ?_
  obtain ⟨X, hX⟩ : ∃ X, X = w5.setRow b2 (caRow 3 0 ⟨7, false, 0, false, false, true, false, false, false, false, 0⟩ true ⟨[2, 101, 120, 0], 1, 1⟩ true 4096) := ⟨_, rfl⟩
  have zb2' : X.heap[b2]? = some (.cells (caRow 3 0 ⟨7, false, 0, false, false, true, false, false, false, false, 0⟩ true ⟨[2, 101, 120, 0], 1, 1⟩ true 4096) 29) := by rw [hX]; exact setRow_heap _ _ _ _ _ _ ((ow5 _ (by omega)).trans zb2)
  have oX : ∀ k, k ≠ b2 → X.heap[k]? = w5.heap[k]? := by rw [hX]; exact setRow_off _ _ _
  have nX : X.heap.size ≤ w5.heap.size ∧ w5.heap.size ≤ X.heap.size := by rw [hX, setRow_size]; simp
  have xX : ∀ a, Ext a w5 → a.heap.size ≤ b2 → Ext a X := by rw [hX]; exact fun a h1 h2 => ext_setRow h1 _ _ h2
  rw [← hX]
  clear hX
  refine wpList_nil ?_
  (try simp only [Act.put, List.setIfInBounds_toArray, List.set_cons_zero, List.set_cons_succ])
  have hw2 : Ext w w2 := (hE0.trans hE1).trans hE2
  have hs2 := hw2.size
  have hwX : Ext w X := xX _ (xw5 _ ((hw2.trans xw3).trans xw4) (by omega)) (by omega)
  have r1 := (oX b1 (by omega)).trans zb1'
  have r2 := zb2'
  clear HL1 HL2 xX xw5 zb1' zb2' zb1 zb2 oX ow5 hE0 hE1 hE2 hw2 xw3 xw4 nw3 nw4 nw5 nX hb1 hb2 hs2
  go_upto_region 4 with fail
  go_cut [60] (fun s wx => s = .bool false ∧ Ext X wx)
  case first =>
    as_aux_lemma =>
    refine names_r4 w X hg hb hwX r1 r2 ?_
    iterate 38 intro _
    intro V hV
    go_wp2_with fail
    go_meet
    exact ⟨rfl, hV⟩
  case rest =>
  obtain ⟨rfl, hE4⟩ := hcut
  obtain ⟨X4, rfl⟩ : ∃ X4 : World, X4 = wc := ⟨_, rfl⟩
  have hw4 := hwX.trans hE4
  replace r1 := ext_row hE4 r1
  replace r2 := ext_row hE4 r2
  clear hE4 hwX
  go_upto_region 6 with fail
  refine wp_region_lit ?_
  iterate 2 go_step
  refine (HA.out _ 30 (by omega)).mono ?_
  rintro e w6 ⟨g0, A0, c0, rfl, rg0, rd0, lg0, hc0, hE6⟩
  dsimp only
  iterate 1 go_step
  obtain ⟨b3, hb3⟩ : ∃ b3, b3 = w6.heap.size := ⟨_, rfl⟩
  refine Go.Great.wpList_allocTo rfl (some 3) rfl (.pointer (some ⟨w6.heap.size, 0, none⟩)) (.cells #[.int .u8 0, .slice none 0 0, .slice none 0 0] 34) (by kernel_rfl) ?_
  rw [← hb3]
  obtain ⟨w7, hw7⟩ : ∃ w7, w7 = w6.alloc (.cells #[.int .u8 0, .slice none 0 0, .slice none 0 0] 34) := ⟨_, rfl⟩
  have zb3 : w7.heap[b3]? = some (.cells #[.int .u8 0, .slice none 0 0, .slice none 0 0] 34) := by rw [hw7, hb3]; exact heap_alloc_new _ _
  have xw7 : Ext w6 w7 := by rw [hw7]; exact (Ext.refl _).alloc _
  have nw7 : w7.heap.size ≤ w6.heap.size + 1 ∧ w6.heap.size + 1 ≤ w7.heap.size := by rw [hw7]; simp
  rw [← hw7]
  clear hw7
  replace hb3 : b3 ≤ w6.heap.size ∧ w6.heap.size ≤ b3 := by omega
  refine Go.wpList_store_rowTo rfl 34 (.tmp 3) (.tmp 61) rfl rfl b3 #[.int .u8 0, .slice (some ⟨g0, 0, none⟩) 1 1, .slice none 0 0] rfl rfl 34 _ zb3 (by kernel_rfl) rfl (by kernel_rfl) ?_
  obtain ⟨w8, hw8⟩ : ∃ w8, w8 = w7.setRow b3 #[.int .u8 0, .slice (some ⟨g0, 0, none⟩) 1 1, .slice none 0 0] := ⟨_, rfl⟩
  have zb3' : w8.heap[b3]? = some (.cells #[.int .u8 0, .slice (some ⟨g0, 0, none⟩) 1 1, .slice none 0 0] 34) := by rw [hw8]; exact setRow_heap _ _ _ _ _ _ zb3
  have ow8 : ∀ k, k ≠ b3 → w8.heap[k]? = w7.heap[k]? := by rw [hw8]; exact setRow_off _ _ _
  have nw8 : w8.heap.size ≤ w7.heap.size ∧ w7.heap.size ≤ w8.heap.size := by rw [hw8, setRow_size]; simp
  have xw8 : ∀ a, Ext a w7 → a.heap.size ≤ b3 → Ext a w8 := by rw [hw8]; exact fun a h1 h2 => ext_setRow h1 _ _ h2
  rw [← hw8]
  clear hw8
  refine wpList_nil ?_
  (try simp only [Act.put, List.setIfInBounds_toArray, List.set_cons_zero, List.set_cons_succ])
  have hw6 : Ext w w6 := hw4.trans hE6
  have h68 : Ext w6 w8 := xw8 _ xw7 (by omega)
  have hw8 : Ext w w8 := hw6.trans h68
  replace r1 := ext_row (hE6.trans h68) r1
  replace r2 := ext_row (hE6.trans h68) r2
  have hsz8 : w8.heap.size ≤ b3 + 1 ∧ b3 + 1 ≤ w8.heap.size := by omega
  have hg0 : g0 < b3 := by have := (Array.getElem?_eq_some_iff.1 rg0).1; omega
  go_upto_region 7 with fail
  refine wp_region_lit ?_
  obtain ⟨gd, hgd⟩ : ∃ gd, gd = w8.heap.size := ⟨_, rfl⟩
  refine Go.Great.wpList_buildSliceTo rfl 37 9 1 _ rfl gd hgd.symm (some 62) rfl Tryd.underlying37 #[S []] (by kernel_rfl) ?_
  obtain ⟨w9, hw9⟩ : ∃ w9, w9 = w8.alloc (.cells #[S []] 9) := ⟨_, rfl⟩
  have zgd : w9.heap[gd]? = some (.cells #[S []] 9) := by rw [hw9, hgd]; exact heap_alloc_new _ _
  have x9 : Ext w8 w9 := by rw [hw9]; exact (Ext.refl _).alloc _
  have n9 : w9.heap.size ≤ gd + 1 ∧ gd + 1 ≤ w9.heap.size := by rw [hw9, hgd]; simp
  rw [← hw9]
  clear hw9
  replace hgd : gd ≤ w8.heap.size ∧ w8.heap.size ≤ gd := by omega
  iterate 3 go_step
  obtain ⟨gs, hgs⟩ : ∃ gs, gs = w9.heap.size := ⟨_, rfl⟩
  refine Go.Great.wpList_buildSliceTo rfl 32 39 1 _ rfl gs hgs.symm (some 64) rfl Tryd.underlying32 #[S [2, 101, 120, 0], .int .u16 99, .int .u16 1, .int .u32 0, .slice (some ⟨gd, 0, none⟩) 1 1] (by kernel_rfl) ?_
  obtain ⟨w10, hw10⟩ : ∃ w10, w10 = w9.alloc (.cells #[S [2, 101, 120, 0], .int .u16 99, .int .u16 1, .int .u32 0, .slice (some ⟨gd, 0, none⟩) 1 1] 39) := ⟨_, rfl⟩
  have zgs : w10.heap[gs]? = some (.cells #[S [2, 101, 120, 0], .int .u16 99, .int .u16 1, .int .u32 0, .slice (some ⟨gd, 0, none⟩) 1 1] 39) := by rw [hw10, hgs]; exact heap_alloc_new _ _
  have x10 : Ext w9 w10 := by rw [hw10]; exact (Ext.refl _).alloc _
  have n10 : w10.heap.size ≤ gs + 1 ∧ gs + 1 ≤ w10.heap.size := by rw [hw10, hgs]; simp
  rw [← hw10]
  clear hw10
  replace hgs : gs ≤ w9.heap.size ∧ w9.heap.size ≤ gs := by omega
  have q3 : w10.heap[b3]? = some (.cells #[.int .u8 0, .slice (some ⟨g0, 0, none⟩) 1 1, .slice none 0 0] 34) := ext_row (x9.trans x10) zb3'
  have k2 := box_cell (j := 2) q3 rfl
  have f2 := box_free (j := 2) q3
  iterate 6 go_step
  (try with_reducible refine wpList_nil ?_)
  obtain ⟨X7, hX7⟩ : ∃ X7, X7 = w10.setCell ⟨b3, 2, none⟩ (.slice (some ⟨gs, 0, none⟩) 1 1) := ⟨_, rfl⟩
  rw [← hX7]
  have o7 : ∀ k, k ≠ b3 → X7.heap[k]? = w10.heap[k]? := by rw [hX7]; exact setCell_off _ _ _ _
  have p3 : X7.heap[b3]? = some (.cells #[.int .u8 0, .slice (some ⟨g0, 0, none⟩) 1 1, .slice (some ⟨gs, 0, none⟩) 1 1] 34) := by rw [hX7]; exact row_set q3 2 _
  have h67 : Ext w6 X7 := by rw [hX7]; exact (h68.trans (x9.trans x10)).setCell (show w6.heap.size ≤ b3 by omega) _
  have hw7 : Ext w X7 := hw6.trans h67
  have pd : X7.heap[gd]? = some (.cells #[S []] 9) := (o7 gd (by omega)).trans (ext_row x10 zgd)
  have ps : X7.heap[gs]? = some (.cells #[S [2, 101, 120, 0], .int .u16 99, .int .u16 1, .int .u32 0, .slice (some ⟨gd, 0, none⟩) 1 1] 39) := (o7 gs (by omega)).trans zgs
  have hb1lt := (Array.getElem?_eq_some_iff.1 r1).1
  have s1 : b1 ≠ b3 := fun e => by subst e; rw [zb3'] at r1; injection r1 with r1; injection r1 with r1; have := congrArg Array.size r1; simp at this
  have s2 : b2 ≠ b3 := fun e => by subst e; rw [zb3'] at r2; injection r2 with r2; injection r2 with r2; have := congrArg Array.size r2; simp at this
  replace r1 := (o7 b1 s1).trans (ext_row (x9.trans x10) r1)
  replace r2 := (o7 b2 s2).trans (ext_row (x9.trans x10) r2)
  have pg : X7.heap[g0]? = some (.cells #[S [2, 101, 120, 0], .int .u16 1, .int .u16 1, .int .u32 0, .slice A0 30 c0] 39) := ext_row h67 rg0
  have hv1 : Sets X7 0 (.slice (some ⟨g0, 0, none⟩) 1 1) [adrs 30] := setsN_one (s := adrs 30) pg rfl hc0 ((rd0.ext h67).lower (Nat.zero_le _))
  have hv2 : Sets X7 0 (.slice (some ⟨gs, 0, none⟩) 1 1) [soaN []] := setsN_one (s := soaN []) ps rfl ⟨Nat.le_refl _, by unfold maxLen; decide⟩ (rdN_one pd)
  have hb3d : b3 < gd := by omega
  have hds : gd < gs := by omega
  have hb36 : w6.heap.size ≤ b3 := by omega
  clear k2 f2 q3 hX7 x9 x10 n9 n10 zgd zgs o7 s1 s2 hb1lt xw7 xw8 h68 zb3' zb3 hw8 ow8 nw7 nw8
  have HG := Lib.hid (ans_of came28 0 (.slice (some ⟨g0, 0, none⟩) 1 1) (.slice (some ⟨gs, 0, none⟩) 1 1) [adrs 30] [soaN []] 5 1232 X7 (hg.ext hw7) (hb.ext hw7) came28_wf (by decide) hv1 hv2 (adrs_ok 30 (by omega)) (soaN_ok [] (by decide)) ⟨by decide, by decide⟩)
  obtain ⟨sg, hsg, lsg⟩ : ∃ s, ansOf came28 0 [adrs 30] [soaN []] 5 1232 = s ∧ s.length = 512 := ⟨_, rfl, n_g⟩
  rw [hsg] at HG
  clear hsg
  replace lsg : (sg.length : Int) = 512 := by omega
  go_upto_region 8 with fail
  go_cut [70] (fun s wx => s = .bool false ∧ Ext X7 wx)
  case first =>
    as_aux_lemma =>
    refine wp_region_lit ?_
    (repeat (first | (refine wpList_load_rowN (by rfl) 29 (.tmp 1) rfl b1 rfl 29 _ _ _ r1 Tryd.underlying29 rfl (by kernel_rfl) ?_) | (refine wpList_load_rowN (by rfl) 34 (.tmp 3) rfl b3 rfl 34 _ _ _ p3 Tryd.underlying34 rfl (by kernel_rfl) ?_) | go_step))
    go_at_call 6
    refine HG.out.mono ?_
    rintro e w11 ⟨rfl, hEc⟩
    (try dsimp only)
    (repeat (first | go_step))
    (try with_reducible refine wpList_nil ?_)
    go_meet
    exact ⟨rfl, hEc⟩
  case rest =>
  obtain ⟨rfl, hE8⟩ := hcut
  obtain ⟨X8, rfl⟩ : ∃ X8 : World, X8 = wc := ⟨_, rfl⟩
  clear HG hv2 lsg
  replace r1 := ext_row hE8 r1
  replace r2 := ext_row hE8 r2
  replace p3 := ext_row hE8 p3
  replace pd := ext_row hE8 pd
  replace ps := ext_row hE8 ps
  have k1 := box_cell (j := 2) p3 rfl
  have k2 := box_cell (j := 4) ps rfl
  have k3 := box_cell (j := 0) pd rfl
  have f3 := box_free (j := 0) pd
  go_upto_region 11 with fail
  obtain ⟨X10, hX10⟩ : ∃ X10, X10 = X8.setCell ⟨gd, 0, none⟩ (S [97]) := ⟨_, rfl⟩
  rw [← hX10]
  have o10 : ∀ k, k ≠ gd → X10.heap[k]? = X8.heap[k]? := by rw [hX10]; exact setCell_off _ _ _ _
  have h610 : Ext w6 X10 := by rw [hX10]; exact (h67.trans hE8).setCell (show w6.heap.size ≤ gd by omega) _
  have hw10 : Ext w X10 := hw6.trans h610
  replace pd : X10.heap[gd]? = some (.cells #[S [97]] 9) := by rw [hX10]; exact row_set pd 0 _
  have s1 : b1 ≠ gd := fun e => by subst e; rw [box_cell r1 (j := 0) rfl] at k3; cases k3
  have s2 : b2 ≠ gd := fun e => by subst e; rw [box_cell r2 (j := 0) rfl] at k3; cases k3
  replace r1 := (o10 b1 s1).trans r1
  replace r2 := (o10 b2 s2).trans r2
  replace p3 := (o10 b3 (by omega)).trans p3
  replace ps := (o10 gs (by omega)).trans ps
  have pg2 : X10.heap[g0]? = some (.cells #[S [2, 101, 120, 0], .int .u16 1, .int .u16 1, .int .u32 0, .slice A0 30 c0] 39) := ext_row h610 rg0
  have hv3 : Sets X10 0 (.slice (some ⟨g0, 0, none⟩) 1 1) [adrs 30] := setsN_one (s := adrs 30) pg2 rfl hc0 ((rd0.ext h610).lower (Nat.zero_le _))
  have hv4 : Sets X10 0 (.slice (some ⟨gs, 0, none⟩) 1 1) [soaN [97]] := setsN_one (s := soaN [97]) ps rfl ⟨Nat.le_refl _, by unfold maxLen; decide⟩ (rdN_one pd)
  have HG := Lib.hid (ans_of came28 0 (.slice (some ⟨g0, 0, none⟩) 1 1) (.slice (some ⟨gs, 0, none⟩) 1 1) [adrs 30] [soaN [97]] 5 1232 X10 (hg.ext hw10) (hb.ext hw10) came28_wf (by decide) hv3 hv4 (adrs_ok 30 (by omega)) (soaN_ok [97] (by decide)) ⟨by decide, by decide⟩)
  rw [n_h] at HG
  unfold cutN at HG
  have HH := Lib.hid (fun V (hV : Ext X10 V) => ans_of cameW 0 (.slice (some ⟨g0, 0, none⟩) 1 1) (.slice (some ⟨gs, 0, none⟩) 1 1) [adrs 30] [soaN [97]] 5 1232 V (hg.ext (hw10.trans hV)) (hb.ext (hw10.trans hV)) cameW_wf (by decide) (hv3.ext hV) (hv4.ext hV) (adrs_ok 30 (by omega)) (soaN_ok [97] (by decide)) ⟨by decide, by decide⟩)
  obtain ⟨sg, hsg, lsg⟩ : ∃ s, ansOf cameW 0 [adrs 30] [soaN [97]] 5 1232 = s ∧ s.length = 524 := ⟨_, rfl, n_i⟩
  rw [hsg] at HH
  clear hsg k1 k2 k3 f3 hX10 s1 s2
  replace lsg : (sg.length : Int) = 524 := by omega
  go_cut [87] (fun s wx => s = .bool false ∧ Ext X10 wx)
  case first =>
    as_aux_lemma =>
    refine wp_region_lit ?_
    (repeat (first | (refine wpList_load_rowN (by rfl) 29 (.tmp 1) rfl b1 rfl 29 _ _ _ r1 Tryd.underlying29 rfl (by kernel_rfl) ?_) | (refine wpList_load_rowN (by rfl) 34 (.tmp 3) rfl b3 rfl 34 _ _ _ p3 Tryd.underlying34 rfl (by kernel_rfl) ?_) | go_step))
    go_at_call 6
    refine HG.out.mono ?_
    rintro e w11 ⟨rfl, hEc⟩
    (try dsimp only)
    have r2' := ext_row hEc r2
    have p3' := ext_row hEc p3
    (repeat (first | (refine wpList_load_rowN (by rfl) 29 (.tmp 2) rfl b2 rfl 29 _ _ _ r2' Tryd.underlying29 rfl (by kernel_rfl) ?_) | (refine wpList_load_rowN (by rfl) 34 (.tmp 3) rfl b3 rfl 34 _ _ _ p3' Tryd.underlying34 rfl (by kernel_rfl) ?_) | go_skip | go_guarded | go_step))
    go_at_call 6
    refine (HH.out _ hEc).mono ?_
    rintro e w12 ⟨rfl, hEc2⟩
    (try dsimp only)
    (repeat (first | go_values | go_skip | go_guarded | go_step | go_upon | go_back))
    (try with_reducible refine wpList_nil ?_)
    go_meet
    exact ⟨rfl, hEc.trans hEc2⟩
  case rest =>
  obtain ⟨rfl, hE11⟩ := hcut
  obtain ⟨Y, rfl⟩ : ∃ Y : World, Y = wc := ⟨_, rfl⟩
  have hwY := hw10.trans hE11
  replace r1 := ext_row hE11 r1
  replace r2 := ext_row hE11 r2
  clear HG HH hv3 hv4 lsg pd ps p3 pg2 hE11 hw10 h610 o10 hE8 h67 hw7 hv1 pg hw6 rd0 rg0 hc0 lg0 hgd hgs hg0 hsz8 hb3 hE6 hw4
  go_upto_region 13 with fail
  refine wp_region_lit ?_
  iterate 2 go_step
  refine (HA.out _ 1 (by omega)).mono ?_
  rintro e y1 ⟨g4, A4, c4, rfl, rg4, rd4, lg4, hc4, hE13⟩
  dsimp only
  iterate 1 go_step
  obtain ⟨b4, hb4⟩ : ∃ b4, b4 = y1.heap.size := ⟨_, rfl⟩
  refine Go.Great.wpList_allocTo rfl (some 4) rfl (.pointer (some ⟨y1.heap.size, 0, none⟩)) (.cells #[.int .u8 0, .slice none 0 0, .slice none 0 0] 34) (by kernel_rfl) ?_
  rw [← hb4]
  obtain ⟨y2, hy2⟩ : ∃ y2, y2 = y1.alloc (.cells #[.int .u8 0, .slice none 0 0, .slice none 0 0] 34) := ⟨_, rfl⟩
  have zb4 : y2.heap[b4]? = some (.cells #[.int .u8 0, .slice none 0 0, .slice none 0 0] 34) := by rw [hy2, hb4]; exact heap_alloc_new _ _
  have xy2 : Ext y1 y2 := by rw [hy2]; exact (Ext.refl _).alloc _
  have ny2 : y2.heap.size ≤ y1.heap.size + 1 ∧ y1.heap.size + 1 ≤ y2.heap.size := by rw [hy2]; simp
  rw [← hy2]
  clear hy2
  replace hb4 : b4 ≤ y1.heap.size ∧ y1.heap.size ≤ b4 := by omega
  refine Go.wpList_store_rowTo rfl 34 (.tmp 4) (.tmp 88) rfl rfl b4 #[.int .u8 0, .slice (some ⟨g4, 0, none⟩) 1 1, .slice none 0 0] rfl rfl 34 _ zb4 (by kernel_rfl) rfl (by kernel_rfl) ?_
  obtain ⟨Z, hZ⟩ : ∃ Z, Z = y2.setRow b4 #[.int .u8 0, .slice (some ⟨g4, 0, none⟩) 1 1, .slice none 0 0] := ⟨_, rfl⟩
  have zb4' : Z.heap[b4]? = some (.cells #[.int .u8 0, .slice (some ⟨g4, 0, none⟩) 1 1, .slice none 0 0] 34) := by rw [hZ]; exact setRow_heap _ _ _ _ _ _ zb4
  have oZ : ∀ k, k ≠ b4 → Z.heap[k]? = y2.heap[k]? := by rw [hZ]; exact setRow_off _ _ _
  have nZ : Z.heap.size ≤ y2.heap.size ∧ y2.heap.size ≤ Z.heap.size := by rw [hZ, setRow_size]; simp
  have xZ : ∀ a, Ext a y2 → a.heap.size ≤ b4 → Ext a Z := by rw [hZ]; exact fun a h1 h2 => ext_setRow h1 _ _ h2
  rw [← hZ]
  clear hZ
  refine wpList_nil ?_
  (try simp only [Act.put, List.setIfInBounds_toArray, List.set_cons_zero, List.set_cons_succ])
  have hYZ : Ext Y Z := xZ _ (hE13.trans xy2) (by have := hE13.size; omega)
  have h1Z : Ext y1 Z := xZ _ xy2 (by omega)
  replace r1 := ext_row hYZ r1
  replace r2 := ext_row hYZ r2
  have p4 := zb4'
  replace rg4 := ext_row h1Z rg4
  replace rd4 := rd4.ext h1Z
  have hwZ := hwY.trans hYZ
  have hb1Z := (Array.getElem?_eq_some_iff.1 r1).1
  have hb2Z := (Array.getElem?_eq_some_iff.1 r2).1
  clear hYZ h1Z xZ oZ xy2 nZ ny2 zb4' zb4 hE13 hwY lg4 hb4
  go_upto_region 14 with fail
  refine wp_region_lit ?_
  iterate 2 go_step
  refine (HA.out _ 1 (by omega)).mono ?_
  rintro e u1 ⟨g5, A5, c5, rfl, rg5, rd5, lg5, hc5, hE14⟩
  dsimp only
  iterate 1 go_step
  iterate 2 go_step
  refine (HA.out _ 1 (by omega)).mono ?_
  rintro e u2 ⟨g6, A6, c6, rfl, rg6, rd6, lg6, hc6, hE15⟩
  dsimp only
  iterate 1 go_step
  iterate 2 go_step
  refine (HA.out _ 1 (by omega)).mono ?_
  rintro e u3 ⟨g7, A7, c7, rfl, rg7, rd7, lg7, hc7, hE16⟩
  dsimp only
  iterate 1 go_step
  obtain ⟨b5, hb5⟩ : ∃ b5, b5 = u3.heap.size := ⟨_, rfl⟩
  refine Go.Great.wpList_allocTo rfl (some 5) rfl (.pointer (some ⟨u3.heap.size, 0, none⟩)) (.cells #[.int .u8 0, .slice none 0 0, .slice none 0 0] 34) (by kernel_rfl) ?_
  rw [← hb5]
  obtain ⟨u4, hu4⟩ : ∃ u4, u4 = u3.alloc (.cells #[.int .u8 0, .slice none 0 0, .slice none 0 0] 34) := ⟨_, rfl⟩
  have zb5 : u4.heap[b5]? = some (.cells #[.int .u8 0, .slice none 0 0, .slice none 0 0] 34) := by rw [hu4, hb5]; exact heap_alloc_new _ _
  have xu4 : Ext u3 u4 := by rw [hu4]; exact (Ext.refl _).alloc _
  have nu4 : u4.heap.size ≤ u3.heap.size + 1 ∧ u3.heap.size + 1 ≤ u4.heap.size := by rw [hu4]; simp
  rw [← hu4]
  clear hu4
  replace hb5 : b5 ≤ u3.heap.size ∧ u3.heap.size ≤ b5 := by omega
  obtain ⟨b6, hb6⟩ : ∃ b6, b6 = u4.heap.size := ⟨_, rfl⟩
  refine Go.Great.wpList_allocTo rfl (some 6) rfl (.pointer (some ⟨u4.heap.size, 0, none⟩)) (.cells #[.int .u8 0, .slice none 0 0, .slice none 0 0] 34) (by kernel_rfl) ?_
  rw [← hb6]
  obtain ⟨u5, hu5⟩ : ∃ u5, u5 = u4.alloc (.cells #[.int .u8 0, .slice none 0 0, .slice none 0 0] 34) := ⟨_, rfl⟩
  have zb6 : u5.heap[b6]? = some (.cells #[.int .u8 0, .slice none 0 0, .slice none 0 0] 34) := by rw [hu5, hb6]; exact heap_alloc_new _ _
  have xu5 : Ext u4 u5 := by rw [hu5]; exact (Ext.refl _).alloc _
  have nu5 : u5.heap.size ≤ u4.heap.size + 1 ∧ u4.heap.size + 1 ≤ u5.heap.size := by rw [hu5]; simp
  rw [← hu5]
  clear hu5
  replace hb6 : b6 ≤ u4.heap.size ∧ u4.heap.size ≤ b6 := by omega
  obtain ⟨b7, hb7⟩ : ∃ b7, b7 = u5.heap.size := ⟨_, rfl⟩
  refine Go.Great.wpList_allocTo rfl (some 7) rfl (.pointer (some ⟨u5.heap.size, 0, none⟩)) (.cells #[.int .u8 0, .slice none 0 0, .slice none 0 0] 34) (by kernel_rfl) ?_
  rw [← hb7]
  obtain ⟨u6, hu6⟩ : ∃ u6, u6 = u5.alloc (.cells #[.int .u8 0, .slice none 0 0, .slice none 0 0] 34) := ⟨_, rfl⟩
  have zb7 : u6.heap[b7]? = some (.cells #[.int .u8 0, .slice none 0 0, .slice none 0 0] 34) := by rw [hu6, hb7]; exact heap_alloc_new _ _
  have xu6 : Ext u5 u6 := by rw [hu6]; exact (Ext.refl _).alloc _
  have nu6 : u6.heap.size ≤ u5.heap.size + 1 ∧ u5.heap.size + 1 ≤ u6.heap.size := by rw [hu6]; simp
  rw [← hu6]
  clear hu6
  replace hb7 : b7 ≤ u5.heap.size ∧ u5.heap.size ≤ b7 := by omega
  refine Go.wpList_store_rowTo rfl 34 (.tmp 5) (.tmp 89) rfl rfl b5 #[.int .u8 0, .slice (some ⟨g5, 0, none⟩) 1 1, .slice none 0 0] rfl rfl 34 _ (ext_row (xu5.trans xu6) zb5) (by kernel_rfl) rfl (by kernel_rfl) ?_
  obtain ⟨u7, hu7⟩ : ∃ u7, u7 = u6.setRow b5 #[.int .u8 0, .slice (some ⟨g5, 0, none⟩) 1 1, .slice none 0 0] := ⟨_, rfl⟩
  have zb5' : u7.heap[b5]? = some (.cells #[.int .u8 0, .slice (some ⟨g5, 0, none⟩) 1 1, .slice none 0 0] 34) := by rw [hu7]; exact setRow_heap _ _ _ _ _ _ (ext_row (xu5.trans xu6) zb5)
  have ou7 : ∀ k, k ≠ b5 → u7.heap[k]? = u6.heap[k]? := by rw [hu7]; exact setRow_off _ _ _
  have nu7 : u7.heap.size ≤ u6.heap.size ∧ u6.heap.size ≤ u7.heap.size := by rw [hu7, setRow_size]; simp
  have xu7 : ∀ a, Ext a u6 → a.heap.size ≤ b5 → Ext a u7 := by rw [hu7]; exact fun a h1 h2 => ext_setRow h1 _ _ h2
  rw [← hu7]
  clear hu7
  refine Go.wpList_store_rowTo rfl 34 (.tmp 6) (.tmp 90) rfl rfl b6 #[.int .u8 0, .slice (some ⟨g6, 0, none⟩) 1 1, .slice none 0 0] rfl rfl 34 _ ((ou7 _ (by omega)).trans (ext_row xu6 zb6)) (by kernel_rfl) rfl (by kernel_rfl) ?_
  obtain ⟨u8, hu8⟩ : ∃ u8, u8 = u7.setRow b6 #[.int .u8 0, .slice (some ⟨g6, 0, none⟩) 1 1, .slice none 0 0] := ⟨_, rfl⟩
  have zb6' : u8.heap[b6]? = some (.cells #[.int .u8 0, .slice (some ⟨g6, 0, none⟩) 1 1, .slice none 0 0] 34) := by rw [hu8]; exact setRow_heap _ _ _ _ _ _ ((ou7 _ (by omega)).trans (ext_row xu6 zb6))
  have ou8 : ∀ k, k ≠ b6 → u8.heap[k]? = u7.heap[k]? := by rw [hu8]; exact setRow_off _ _ _
  have nu8 : u8.heap.size ≤ u7.heap.size ∧ u7.heap.size ≤ u8.heap.size := by rw [hu8, setRow_size]; simp
  have xu8 : ∀ a, Ext a u7 → a.heap.size ≤ b6 → Ext a u8 := by rw [hu8]; exact fun a h1 h2 => ext_setRow h1 _ _ h2
  rw [← hu8]
  clear hu8
  refine Go.wpList_store_rowTo rfl 34 (.tmp 7) (.tmp 91) rfl rfl b7 #[.int .u8 0, .slice (some ⟨g7, 0, none⟩) 1 1, .slice none 0 0] rfl rfl 34 _ ((ou8 _ (by omega)).trans ((ou7 _ (by omega)).trans zb7)) (by kernel_rfl) rfl (by kernel_rfl) ?_
  obtain ⟨U, hU⟩ : ∃ U, U = u8.setRow b7 #[.int .u8 0, .slice (some ⟨g7, 0, none⟩) 1 1, .slice none 0 0] := ⟨_, rfl⟩
  have zb7' : U.heap[b7]? = some (.cells #[.int .u8 0, .slice (some ⟨g7, 0, none⟩) 1 1, .slice none 0 0] 34) := by rw [hU]; exact setRow_heap _ _ _ _ _ _ ((ou8 _ (by omega)).trans ((ou7 _ (by omega)).trans zb7))
  have oU : ∀ k, k ≠ b7 → U.heap[k]? = u8.heap[k]? := by rw [hU]; exact setRow_off _ _ _
  have nU : U.heap.size ≤ u8.heap.size ∧ u8.heap.size ≤ U.heap.size := by rw [hU, setRow_size]; simp
  have xU : ∀ a, Ext a u8 → a.heap.size ≤ b7 → Ext a U := by rw [hU]; exact fun a h1 h2 => ext_setRow h1 _ _ h2
  rw [← hU]
  clear hU
  refine wpList_nil ?_
  (try simp only [Act.put, List.setIfInBounds_toArray, List.set_cons_zero, List.set_cons_succ])
  have h3U : Ext u3 U := xU _ (xu8 _ (xu7 _ ((xu4.trans xu5).trans xu6) (by omega)) (by omega)) (by omega)
  have hZU : Ext Z U := ((hE14.trans hE15).trans hE16).trans h3U
  have t1 := hE14.size
  have t2 := hE15.size
  have t3 := hE16.size
  have l5 := (Array.getElem?_eq_some_iff.1 rg5).1
  have l6 := (Array.getElem?_eq_some_iff.1 rg6).1
  have l7 := (Array.getElem?_eq_some_iff.1 rg7).1
  have l4 := (Array.getElem?_eq_some_iff.1 rg4).1
  have lb4 := (Array.getElem?_eq_some_iff.1 p4).1
  replace r1 := ext_row hZU r1
  replace r2 := ext_row hZU r2
  replace p4 := ext_row hZU p4
  replace rg4 := ext_row hZU rg4
  replace rg5 := ext_row ((hE15.trans hE16).trans h3U) rg5
  replace rg6 := ext_row (hE16.trans h3U) rg6
  replace rg7 := ext_row h3U rg7
  replace rd4 := rd4.ext hZU
  replace rd5 := rd5.ext ((hE15.trans hE16).trans h3U)
  replace rd6 := rd6.ext (hE16.trans h3U)
  replace rd7 := rd7.ext h3U
  have p5 := (oU b5 (by omega)).trans ((ou8 b5 (by omega)).trans zb5')
  have p6 := (oU b6 (by omega)).trans zb6'
  have p7 := zb7'
  have nU2 : U.heap.size ≤ u3.heap.size + 3 ∧ u3.heap.size + 3 ≤ U.heap.size := by omega
  have hwU := hwZ.trans hZU
  have hu35 : u3.heap.size ≤ b5 := by omega
  have hb56 : b5 < b6 := by omega
  have hb67 : b6 < b7 := by omega
  have hb7U : b7 < U.heap.size := by omega
  clear xU xu8 xu7 xu6 xu5 xu4 oU ou8 ou7 zb5' zb6' zb7' zb5 zb6 zb7 nu4 nu5 nu6 nu7 nu8 nU
  rw [adrsTo_one] at rd4 rd5 rd7
  obtain ⟨d4, q4, rfl, _, ld4, cd4⟩ := rdN_cell rd4
  obtain ⟨d5, q5, rfl, _, ld5, cd5⟩ := rdN_cell rd5
  obtain ⟨d7, q7, rfl, _, ld7, cd7⟩ := rdN_cell rd7
  have k0 := box_cell (j := 0) p5 rfl
  have f0 := box_free (j := 0) p5
  go_upto_region 16 with fail
  obtain ⟨U1, hU1⟩ : ∃ U1, U1 = U.setCell ⟨b5, 0, none⟩ (.int .u8 2) := ⟨_, rfl⟩
  rw [← hU1]
  have o1 : ∀ k, k ≠ b5 → U1.heap[k]? = U.heap[k]? := by rw [hU1]; exact setCell_off _ _ _ _
  have e1 : Ext u3 U1 := by rw [hU1]; exact h3U.setCell (show u3.heap.size ≤ b5 by omega) _
  have n1 : U1.heap.size ≤ U.heap.size ∧ U.heap.size ≤ U1.heap.size := by rw [hU1]; simp
  replace cd4 := cell_keepN (x := .int .u8 2) cd4 k0 (by intro h; cases h)
  replace cd5 := cell_keepN (x := .int .u8 2) cd5 k0 (by intro h; cases h)
  replace cd7 := cell_keepN (x := .int .u8 2) cd7 k0 (by intro h; cases h)
  rw [← hU1] at cd4 cd5 cd7
  replace p5 : U1.heap[b5]? = some (.cells #[.int .u8 2, .slice (some ⟨g5, 0, none⟩) 1 1, .slice none 0 0] 34) := by rw [hU1]; exact row_set p5 0 _
  replace p4 := (o1 b4 (by omega)).trans p4
  replace p6 := (o1 b6 (by omega)).trans p6
  replace p7 := (o1 b7 (by omega)).trans p7
  replace rg4 := (o1 g4 (by omega)).trans rg4
  replace rg5 := (o1 g5 (by omega)).trans rg5
  replace rg6 := (o1 g6 (by omega)).trans rg6
  replace rg7 := (o1 g7 (by omega)).trans rg7
  replace r1 := (o1 b1 (by omega)).trans r1
  replace r2 := (o1 b2 (by omega)).trans r2
  have hwU1 : Ext w U1 := by rw [hU1]; exact hwU.setCell (show w.heap.size ≤ b5 by have := hwU.size; have := hwZ.size; omega) _
  have hwz := hwZ.size
  clear hU1 o1 k0 f0 e1 h3U rd4 rd5 rd6 rd7 hwU hZU
  have k6 := box_cell (j := 1) p6 rfl
  have k64 := box_cell (j := 4) rg6 rfl
  have f64 := box_free (j := 4) rg6
  refine wp_region_lit ?_
  iterate 6 go_step
  obtain ⟨gn, hgn⟩ : ∃ gn, gn = U1.heap.size := ⟨_, rfl⟩
  refine Go.Great.wpList_buildSliceTo rfl 37 9 1 _ rfl gn hgn.symm (some 95) rfl Tryd.underlying37 #[S [97, 98, 99]] (by kernel_rfl) ?_
  obtain ⟨U2, hU2⟩ : ∃ U2, U2 = U1.alloc (.cells #[S [97, 98, 99]] 9) := ⟨_, rfl⟩
  have zn : U2.heap[gn]? = some (.cells #[S [97, 98, 99]] 9) := by rw [hU2, hgn]; exact heap_alloc_new _ _
  have e2 : Ext U1 U2 := by rw [hU2]; exact (Ext.refl _).alloc _
  have n2 : U2.heap.size ≤ gn + 1 ∧ gn + 1 ≤ U2.heap.size := by rw [hU2, hgn]; simp
  rw [← hU2]
  clear hU2
  replace hgn : gn ≤ U1.heap.size ∧ U1.heap.size ≤ gn := by omega
  replace k6 := ext_cellN e2 k6
  replace k64 := ext_cellN e2 k64
  replace f64 := box_free (j := 4) (ext_row e2 rg6)
  iterate 9 go_step
  (try with_reducible refine wpList_nil ?_)
  (try simp only [Act.put, List.setIfInBounds_toArray, List.set_cons_zero, List.set_cons_succ])
  obtain ⟨V2, hV2⟩ : ∃ V2, V2 = U2.setCell ⟨g6, 4, none⟩ (.slice (some ⟨gn, 0, none⟩) 1 1) := ⟨_, rfl⟩
  rw [← hV2]
  have o2 : ∀ k, k ≠ g6 → V2.heap[k]? = U2.heap[k]? := by rw [hV2]; exact setCell_off _ _ _ _
  have n3 : V2.heap.size ≤ U2.heap.size ∧ U2.heap.size ≤ V2.heap.size := by rw [hV2]; simp
  replace cd4 := cell_keepN (x := .slice (some ⟨gn, 0, none⟩) 1 1) (ext_cellN e2 cd4) k64 (by intro h; cases h)
  replace cd5 := cell_keepN (x := .slice (some ⟨gn, 0, none⟩) 1 1) (ext_cellN e2 cd5) k64 (by intro h; cases h)
  replace cd7 := cell_keepN (x := .slice (some ⟨gn, 0, none⟩) 1 1) (ext_cellN e2 cd7) k64 (by intro h; cases h)
  rw [← hV2] at cd4 cd5 cd7
  replace rg6 : V2.heap[g6]? = some (.cells #[S [2, 101, 120, 0], .int .u16 1, .int .u16 1, .int .u32 0, .slice (some ⟨gn, 0, none⟩) 1 1] 39) := by rw [hV2]; exact row_set (ext_row e2 rg6) 4 _
  replace p4 := (o2 b4 (by omega)).trans (ext_row e2 p4)
  replace p5 := (o2 b5 (by omega)).trans (ext_row e2 p5)
  replace p6 := (o2 b6 (by omega)).trans (ext_row e2 p6)
  replace p7 := (o2 b7 (by omega)).trans (ext_row e2 p7)
  replace rg4 := (o2 g4 (by omega)).trans (ext_row e2 rg4)
  replace rg5 := (o2 g5 (by omega)).trans (ext_row e2 rg5)
  replace rg7 := (o2 g7 (by omega)).trans (ext_row e2 rg7)
  replace r1 := (o2 b1 (by omega)).trans (ext_row e2 r1)
  replace r2 := (o2 b2 (by omega)).trans (ext_row e2 r2)
  replace zn := (o2 gn (by omega)).trans zn
  have hwV2 : Ext w V2 := by rw [hV2]; exact (hwU1.trans e2).setCell (show w.heap.size ≤ g6 by omega) _
  clear hV2 o2 k6 k64 f64 e2 hwU1
  have k7 := box_cell (j := 1) p7 rfl
  have k71 := box_cell (j := 1) rg7 rfl
  have f71 := box_free (j := 1) rg7
  go_upto_region 18 with fail
  obtain ⟨V3, hV3⟩ : ∃ V3, V3 = V2.setCell ⟨g7, 1, none⟩ (.int .u16 41) := ⟨_, rfl⟩
  rw [← hV3]
  have o3 : ∀ k, k ≠ g7 → V3.heap[k]? = V2.heap[k]? := by rw [hV3]; exact setCell_off _ _ _ _
  have n4 : V3.heap.size ≤ V2.heap.size ∧ V2.heap.size ≤ V3.heap.size := by rw [hV3]; simp
  replace cd4 := cell_keepN (x := .int .u16 41) cd4 k71 (by intro h; cases h)
  replace cd5 := cell_keepN (x := .int .u16 41) cd5 k71 (by intro h; cases h)
  replace cd7 := cell_keepN (x := .int .u16 41) cd7 k71 (by intro h; cases h)
  rw [← hV3] at cd4 cd5 cd7
  replace rg7 : V3.heap[g7]? = some (.cells #[S [2, 101, 120, 0], .int .u16 41, .int .u16 1, .int .u32 0, .slice (some ⟨d7, q7, none⟩) 1 c7] 39) := by rw [hV3]; exact row_set rg7 1 _
  replace p4 := (o3 b4 (by omega)).trans p4
  replace p5 := (o3 b5 (by omega)).trans p5
  replace p6 := (o3 b6 (by omega)).trans p6
  replace p7 := (o3 b7 (by omega)).trans p7
  replace rg4 := (o3 g4 (by omega)).trans rg4
  replace rg5 := (o3 g5 (by omega)).trans rg5
  replace rg6 := (o3 g6 (by omega)).trans rg6
  replace r1 := (o3 b1 (by omega)).trans r1
  replace r2 := (o3 b2 (by omega)).trans r2
  replace zn := (o3 gn (by omega)).trans zn
  have hwV3 : Ext w V3 := by rw [hV3]; exact hwV2.setCell (show w.heap.size ≤ g7 by omega) _
  clear hV3 o3 k7 k71 f71 hwV2
  have hv4 : Sets V3 0 (.slice (some ⟨g4, 0, none⟩) 1 1) [adrs 1] := setsN_one (s := adrs 1) rg4 rfl hc4 (rdN_of (d := [10, 0, 0, 1]) (cell_ltN cd4) cd4)
  have hv5 : Sets V3 0 (.slice (some ⟨g5, 0, none⟩) 1 1) [adrs 1] := setsN_one (s := adrs 1) rg5 rfl hc5 (rdN_of (d := [10, 0, 0, 1]) (cell_ltN cd5) cd5)
  have hv6 : Sets V3 0 (.slice (some ⟨g6, 0, none⟩) 1 1) [oddS] := setsN_one (s := oddS) rg6 rfl ⟨Nat.le_refl _, by unfold maxLen; decide⟩ (rdN_one zn)
  have hv7 : Sets V3 0 (.slice (some ⟨g7, 0, none⟩) 1 1) [optS] := setsN_one (s := optS) rg7 rfl hc7 (rdN_of (d := [10, 0, 0, 1]) (cell_ltN cd7) cd7)
  clear rg4 rg5 rg6 rg7 cd4 cd5 cd7 zn hc4 hc5 hc6 hc7 ld4 ld5 ld7 n1 n2 n3 n4 nU2 hwZ hwz
  go_cut [8, 9, 10] (fun s8 s9 s10 wx => ∃ b8 b9 b10, s8 = .pointer (some ⟨b8, 0, none⟩) ∧ s9 = .pointer (some ⟨b9, 0, none⟩) ∧ s10 = .pointer (some ⟨b10, 0, none⟩) ∧ (b8 ≠ b9 ∧ b8 ≠ b10 ∧ b9 ≠ b10) ∧ (V3.heap.size ≤ b8 ∧ V3.heap.size ≤ b9 ∧ V3.heap.size ≤ b10) ∧ wx.heap[b8]? = some (.cells (caRow 3 0 ⟨7, false, 0, false, false, true, false, false, false, false, 0⟩ true ⟨[2, 101, 120, 0], 1, 1⟩ false 0) 29) ∧ wx.heap[b9]? = some (.cells (caRow 3 0 ⟨7, false, 0, false, false, true, false, false, false, false, 0⟩ true ⟨[2, 101, 120, 0], 1, 1⟩ false 0) 29) ∧ wx.heap[b10]? = some (.cells (caRow 3 0 ⟨7, false, 0, false, false, true, false, false, false, false, 0⟩ true ⟨[2, 101, 120, 0], 1, 1⟩ false 0) 29) ∧ Ext V3 wx)
  case first =>
    as_aux_lemma =>
    refine names_r18 V3 r1 ?_
    iterate 3 intro _
    intro b8 b9 b10 V i1 i2 i3 i4 i5 hV
    go_wp2_with fail
    go_meet
    exact ⟨b8, b9, b10, rfl, rfl, rfl, i1, i2, i3, i4, i5, hV⟩
  case rest =>
  obtain ⟨b8, b9, b10, rfl, rfl, rfl, ⟨n89, n8t, n9t⟩, ⟨l8, l9, l10⟩, f8, f9, f10, hE18⟩ := hcut
  obtain ⟨C, rfl⟩ : ∃ C : World, C = wc := ⟨_, rfl⟩
  have k8 := box_cell (j := 0) f8 rfl
  have k9 := box_cell (j := 0) f9 rfl
  have k10 := box_cell (j := 4) f10 rfl
  have x8 := box_free (j := 0) f8
  have x9 := box_free (j := 0) f9
  have x10 := box_free (j := 4) f10
  go_upto_region 22 with fail
  obtain ⟨D, hD⟩ : ∃ D, D = ((C.setCell ⟨b8, 0, none⟩ (.int .u8 2)).setCell ⟨b9, 0, none⟩ (.int .u8 1)).setCell ⟨b10, 4, none⟩ (.int .u8 16) := ⟨_, rfl⟩
  rw [← hD]
  have hVD : Ext V3 D := by rw [hD]; exact ((hE18.setCell l8 _).setCell l9 _).setCell l10 _
  replace f8 : D.heap[b8]? = some (.cells (caRow 2 0 ⟨7, false, 0, false, false, true, false, false, false, false, 0⟩ true ⟨[2, 101, 120, 0], 1, 1⟩ false 0) 29) := by rw [hD, setCell_off _ _ _ _ _ n8t, setCell_off _ _ _ _ _ n89]; exact row_set f8 0 _
  replace f9 : D.heap[b9]? = some (.cells (caRow 1 0 ⟨7, false, 0, false, false, true, false, false, false, false, 0⟩ true ⟨[2, 101, 120, 0], 1, 1⟩ false 0) 29) := by rw [hD, setCell_off _ _ _ _ _ n9t]; exact row_set ((setCell_off _ _ _ _ _ (Ne.symm n89)).trans f9) 0 _
  replace f10 : D.heap[b10]? = some (.cells (caRow 3 0 ⟨7, false, 16, false, false, true, false, false, false, false, 0⟩ true ⟨[2, 101, 120, 0], 1, 1⟩ false 0) 29) := by rw [hD]; exact row_set ((setCell_off _ _ _ _ _ (Ne.symm n9t)).trans ((setCell_off _ _ _ _ _ (Ne.symm n8t)).trans f10)) 4 _
  clear hD k8 k9 k10 x8 x9 x10 hE18
  replace r1 := ext_row hVD r1
  replace r2 := ext_row hVD r2
  have hwD := hwV3.trans hVD
  have HP := Lib.hid (And.intro (ext_row hVD p4) (And.intro (ext_row hVD p5) (And.intro (ext_row hVD p6) (ext_row hVD p7))))
  have HV := Lib.hid (And.intro (hv4.ext hVD) (And.intro (hv5.ext hVD) (And.intro (hv6.ext hVD) (hv7.ext hVD))))
  clear p4 p5 p6 p7 hv4 hv5 hv6 hv7
  go_upto_region 22 with fail
  go_cut [166] (fun s wx => s = .bool false ∧ Ext D wx)
  case first =>
    as_aux_lemma =>
    refine names_r22 w D hg hb hwD r1 f8 f9 f10 HP.out.1 HV.out.1 HP.out.2.1 HV.out.2.1 HP.out.2.2.1 HV.out.2.2.1 HP.out.2.2.2 HV.out.2.2.2 ?_
    iterate 57 intro _
    intro V hV
    go_wp2_with fail
    go_meet
    exact ⟨rfl, hV⟩
  case rest =>
  obtain ⟨rfl, hE22⟩ := hcut
  obtain ⟨F, rfl⟩ : ∃ F : World, F = wc := ⟨_, rfl⟩
  have hwF := hwD.trans hE22
  replace r1 := ext_row hE22 r1
  replace r2 := ext_row hE22 r2
  replace f8 := ext_row hE22 f8
  replace f9 := ext_row hE22 f9
  replace f10 := ext_row hE22 f10
  clear HP HV hE22
  have HG := Lib.hid (ans_of came28 3 (.slice none 0 0) (.slice none 0 0) [] [] 5 4096 F (hg.ext hwF) (hb.ext hwF) came28_wf (by decide) (sets_nil F) (sets_nil F) soa_nil soa_nil ⟨by decide, by decide⟩)
  rw [n_11] at HG
  go_upto_region 24 with fail
  go_cut [11] (fun s wx => s = S [0, 7, 129, 131, 0, 1, 0, 0, 0, 0, 0, 0, 2, 101, 120, 0, 0, 1, 0, 1] ∧ Ext F wx)
  case first =>
    as_aux_lemma =>
    refine wp_region_lit ?_
    (repeat (first | (refine wpList_load_rowN (by rfl) 29 (.tmp 1) rfl b1 rfl 29 _ _ _ r1 Tryd.underlying29 rfl (by kernel_rfl) ?_) | go_step))
    go_at_call 6
    refine HG.out.mono ?_
    rintro e w24 ⟨rfl, hEc⟩
    (try dsimp only)
    (repeat (first | go_step))
    (try with_reducible refine wpList_nil ?_)
    go_meet
    exact ⟨rfl, hEc⟩
  case rest =>
  obtain ⟨rfl, hE24⟩ := hcut
  obtain ⟨J, rfl⟩ : ∃ J : World, J = wc := ⟨_, rfl⟩
  have hwJ := hwF.trans hE24
  replace r1 := ext_row hE24 r1
  replace r2 := ext_row hE24 r2
  replace f8 := ext_row hE24 f8
  replace f9 := ext_row hE24 f9
  replace f10 := ext_row hE24 f10
  clear HG
  go_upto_region 25 with fail
  go_cut [0] (fun s wx => s = .bool true ∧ Ext J wx)
  case first =>
    as_aux_lemma =>
    refine names_r25 w J hg hb hwJ r1 r2 f8 f9 f10 ?_
    iterate 61 intro _
    intro V hV
    go_wp2_with fail
    go_meet
    exact ⟨rfl, hV⟩
  case rest =>
  obtain ⟨rfl, hE25⟩ := hcut
  obtain ⟨L, rfl⟩ : ∃ L : World, L = wc := ⟨_, rfl⟩
  go_wp2_with fail
  go_ret
  exact ⟨rfl, hwJ.trans hE25⟩
end Go.Proofs.YtjmfpillnbnofaaDoor
namespace Go.Proofs.YtjmfpillnbnofaaDoor
set_option linter.unusedSimpArgs false
set_option linter.unusedVariables false
open Go.ChangeShapes Go.WideShapes Go.ChangeAt Go.RowKit
set_option maxRecDepth 100000

theorem answerNames_contract (H : Type) (enc : TypeId × Value → H) (W : World) (base : Nat) (args : Array Value) (ds gs : List (DataW H)) (before : List MemPlace)
    (hval : ∀ (j : Nat) t v, Tryd.f3.params[j]? = some t → args[j]? = some v → Value.okWide Tryd.prog W .any base t v)
    (hW : DataW.Whole enc Tryd.prog Tryd.f3.params.toList Rows.answerNamesSpec.vars false W args.toList ds gs before)
    (hsz : (DataW.weightsEach Tryd.prog (Tryd.f3.params.toList ++ (OpenSpec.ofChange Rows.answerNamesSpec).bare.plain.varTypes Tryd.prog) (ds ++ gs)).all (· ≤ reachBytes) = true)
    (hL : laidMetH Tryd.prog laidL W) :
    Calls Tryd.prog 3 args W fun e W' => ∃ v, e = .returned v ∧ Rows.answerNamesSpec.post enc Tryd.prog Tryd.f3 false true false false W args v W' := by
  have hW' := hW
  have hp : ∀ t ∈ Tryd.f3.params.toList, Tryd.prog.readableRec t = true ∧ t < Tryd.prog.types.size := by
    have h : (Tryd.f3.params.toList.all fun t => Tryd.prog.readableRec t && decide (t < Tryd.prog.types.size)) = true := by kernel_rfl
    simpa only [List.all_eq_true, Bool.and_eq_true, decide_eq_true_eq] using h
  have hg := laid_of hL
  have hb := laidbits_of hL
  obtain ⟨p, q, hA0, hV, rfl, _, _⟩ := hW
  have hA : DataW.TrodAll enc Tryd.prog W 0 (fun _ => true) true Tryd.f3.params.toList args.toList ds p := hA0
  clear hA0
  rw [Tryd.params3] at hA hval hsz
  obtain ⟨rfl, rfl⟩ := trodVars_none hV
  obtain ⟨rfl, rfl, rfl⟩ := trodAll_none hA
  refine (law28_names W hg hb).mono ?_
  rintro e W' ⟨rfl, hE⟩
  exact ⟨_, rfl, post_true laid_out rfl (by kernel_rfl) Tryd.underlying4 hp hW' rfl hE⟩

theorem answerNames_reads (os : Os) {H : Type} (enc : TypeId × Value → H) : ∃ places, DataW.whole enc Tryd.prog ((laidWorld os).forCall (fun _ _ => 0) ⟨#[], #[], []⟩).memory Tryd.f3.params.toList Rows.answerNamesSpec.vars false (#[] : Array Value).toList 8 = some ([], [], places) :=
  ⟨[], by kernel_rfl⟩
theorem answerNames_lifted (os : Os) (started : os.Started) (H : Type) (enc : TypeId × Value → H) (F : Stop.Interp) :
    ReturnsInHanded {} Tryd.checked os 3 .any ((OpenSpec.ofChange Rows.answerNamesSpec).preRow enc Tryd.prog Tryd.f3 Rows.answerNamesRow.domain false Rows.answerNamesRow.laid) (((OpenSpec.ofChange Rows.answerNamesSpec).at F).post enc Tryd.prog Tryd.f3 false true false false) := by
  obtain ⟨places, hx⟩ := answerNames_reads os enc
  refine returnsInHanded_of_row (C := Tryd.checked) (s := OpenSpec.ofChange Rows.answerNamesSpec) own_knob started (by kernel_rfl) Tryd.func3
    (witness_row_at (enc := enc) (C := Tryd.checked) false (laidWorld os) #[] rfl (by kernel_rfl) (by kernel_rfl) (by kernel_rfl)
      (OpenSpec.preRow_of_cond 8 hx (by kernel_rfl) (fun k hk => by cases hk) (by kernel_rfl) (laid_met os _))) ?_
  intro W base args ds gs before hval hW _ _ hsz hL _ _
  exact answerNames_contract H enc W base args ds gs before hval hW hsz hL
theorem band_card (a b : Bool) (h1 : a = true) (h2 : b = true) : (a && b) = true := by rw [h1, h2]; rfl
set_option maxHeartbeats 4000000 in
theorem answerNames_joined : joinedFacts Tryd.prog 3 Tryd.f3 (OpenSpec.ofChange Rows.answerNamesSpec).bare Rows.answerNamesRow = true := by
  unfold joinedFacts; repeat' (with_reducible refine band_card _ _ ?_ ?_)
  all_goals (as_aux_lemma => kernel_rfl)
set_option maxHeartbeats 4000000 in
theorem answerNames_said : Rows.AnswerNamesSaid :=
  OpenClaim.holds_of_cond 3 Tryd.f3 rfl rfl rfl rfl rfl rfl rfl ⟨rfl, rfl, rfl, rfl, rfl⟩ rfl rfl rfl rfl rfl (by kernel_rfl) Tryd.func3 answerNames_joined
    (of_decide_eq_true (by kernel_rfl)) (by unfold Func.isWrapper; first | (rw [if_pos (by decide +kernel)]; kernel_rfl) | (rw [if_neg (by decide +kernel)]; exact ⟨rfl, rfl⟩))
    (fun os started H enc _ F => by rw [OpenClaim.pre_eq_preRow]; exact answerNames_lifted os started H enc F)
/-- THE CARD. -/
theorem answerNames_card : Rows.AnswerNamesCardSaid :=
  Claim7.holds_tied_plain_at .later [] _ _ _ _ answerNames_said (fun _ h => by cases h) (by as_aux_lemma => kernel_rfl) (fun _ h => by cases h) answerNames_row_tie rfl ⟨rfl, rfl⟩ (by as_aux_lemma => kernel_rfl) rfl
    (fun f fn hf hfn => by
      obtain rfl : f = 3 := Option.some.inj ((show Tryd.prog.funcNamed Rows.answerNamesRow.func = some 3 by kernel_rfl).symm.trans hf) |>.symm
      obtain rfl : fn = Tryd.f3 := (Option.some.inj (Tryd.func3.symm.trans hfn)).symm
      refine ⟨by kernel_rfl, fun j t ht => ?_⟩
      have h : (Tryd.f3.params.toList.all fun t => !Tryd.prog.wantsStandIn t) = true := by kernel_rfl
      have h2 := List.all_eq_true.1 h t (by simpa using Array.mem_of_getElem? ht)
      exact (by simpa using h2 : Tryd.prog.wantsStandIn t = false))
    (by as_aux_lemma => kernel_rfl)
#print axioms answerNames_card
end Go.Proofs.YtjmfpillnbnofaaDoor
