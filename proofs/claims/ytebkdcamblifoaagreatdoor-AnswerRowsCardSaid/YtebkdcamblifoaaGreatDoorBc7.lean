/- Contracts of functions and plain lemmas that the proofs of this seat share (joined texts). No condition. -/
import Derived.Test.YtebkdcamblifoaaGreatDoorCards
import Derived.Test.YtebkdcamblifoaaGreatDoorTie
import Derived.Test.YtebkdcamblifoaaGreatDoorBb
import Derived.ProofKit
import Derived.OpenShut
import Derived.LaidHandle
import Derived.LaidLaws
import Derived.Test.YtebkdcamblifoaaGreatDoorBwy
import Derived.Deep.DeepHandedRow
import Derived.Test.YtebkdcamblifoaaGreatDoorBg
import Derived.Test.YtebkdcamblifoaaGreatDoorBry
namespace Go.Proofs.YtebkdcamblifoaaGreatDoor
set_option linter.unusedSimpArgs false
set_option linter.unusedVariables false
open Go.ChangeShapes Go.WideShapes Go.ChangeAt Go.RowKit
set_option maxRecDepth 100000

theorem own_knob : ownKnob Tryz.prog.godebug = none := by kernel_rfl
theorem et_at : Tryz.prog.globalNamed "errors.errorType" = some 3 := by kernel_rfl
theorem one_row : ((List.range Tryz.prog.types.size).filter fun t => Tryz.prog.rowNamed t [101, 114, 114, 111, 114]) = [130] := by kernel_rfl
def laidL : List (String × DataW Unit) := [("errors.errorType", Rows.laid_errors_errorType), ("hustings/head.bits", Rows.laid_hustings_head_bits)]

theorem laid_of {W : World} (h : laidMetH Tryz.prog laidL W) : Laid W := by
  have h' : laidMet Tryz.prog [("hustings/head.bits", Rows.laid_hustings_head_bits)] W ∧ handlesMet Tryz.prog [("errors.errorType", Rows.laid_errors_errorType)] W := h
  obtain ⟨name, u, ty, e1, e2, e3, e4, e5⟩ := h'.2 _ (List.mem_singleton.2 rfl)
  have en : name = [101, 114, 114, 111, 114] := (Option.some.inj e1).symm
  subst en
  obtain rfl : u = 265 := Option.some.inj (e2.symm.trans (by kernel_rfl))
  have hm : ty ∈ (List.range Tryz.prog.types.size).filter fun t => Tryz.prog.rowNamed t [101, 114, 114, 111, 114] := List.mem_filter.2 ⟨List.mem_range.2 e3, e4⟩
  rw [one_row] at hm
  obtain rfl := List.mem_singleton.1 hm
  have hh : typeHandle Tryz.prog 130 = hdl 130 := by kernel_rfl
  rw [hh] at e5
  show W.cell? ⟨3, 0, none⟩ = _
  simpa using World.var?_cell et_at e5 0

theorem bits_at : Tryz.prog.globalNamed "hustings/head.bits" = some 2 := by kernel_rfl
theorem one_cell {l : List Value} {i : Nat} {v : Value} (h : (l.drop i).take 1 = [v]) : l[i]? = some v := by
  have h1 := congrArg (fun x : List Value => x[0]?) h
  simpa using h1
def bitsL : List Int := [32768, 1024, 512, 256, 128, 64, 32, 16]
theorem laidbits_of {W : World} (h : laidMetH Tryz.prog laidL W) : BitsAt W := by
  have h' : laidMet Tryz.prog [("hustings/head.bits", Rows.laid_hustings_head_bits)] W ∧ handlesMet Tryz.prog [("errors.errorType", Rows.laid_errors_errorType)] W := h
  obtain ⟨ps, hlv, _, _⟩ := h'.1
  obtain ⟨g, t, cs, fuel, p, q, e1, e2, e3, e4, _, _⟩ := hlv
  obtain rfl : 2 = g := Option.some.inj (bits_at.symm.trans e1)
  obtain rfl : 220 = t := Option.some.inj ((show (Tryz.prog.globals[2]?).map (·.type) = some 220 by kernel_rfl).symm.trans e2)
  obtain ⟨xs, n, _, hd, _, hlen, hf⟩ := DataW.trod_array Tryz.underlying220 e4
  have hd1 := (Prod.mk.inj hd).1
  have key : ∀ i, i < 8 → cs.toList[i]? = some (.int .u16 (bitsL.getD i 0)) := fun i hi => by
    have hx : (xs.map (·.1))[i]? = some (.lit (.int .u16 (bitsL.getD i 0))) := by
      have h1 : xs.map (·.1) = bitsL.map fun k => (.lit (.int .u16 k) : DataW Unit) := by
        injection hd1 with h1
        exact h1.symm
      rw [h1, List.getElem?_map, List.getElem?_eq_getElem (show i < bitsL.length from hi)]
      simp [List.getD, List.getElem?_eq_getElem (show i < bitsL.length from hi)]
    rw [List.getElem?_map] at hx
    obtain ⟨y, hy1, hy2⟩ := Option.map_eq_some_iff.1 hx
    have h2 := (hf i hi).trans hy1
    rw [show Tryz.prog.cellsOf 22 = 1 by kernel_rfl, Nat.mul_one] at h2
    obtain ⟨m, g1, g2, _⟩ := DataW.trod_int Tryz.underlying22 h2
    rw [g2] at hy2
    have hm : m = bitsL.getD i 0 := by
      injection hy2 with hy2
      injection hy2
    rw [← hm]
    exact one_cell g1
  have key2 : ∀ i, i < 8 → W.cell? ⟨2, i, none⟩ = some (.int .u16 (bitsL.getD i 0)) := fun i hi => by
    rw [World.var?_cell bits_at e3 i]
    simpa using key i hi
  exact ⟨key2 0 (by omega), key2 1 (by omega), key2 2 (by omega), key2 3 (by omega), key2 4 (by omega), key2 5 (by omega), key2 6 (by omega), key2 7 (by omega)⟩
noncomputable def laidWorld (os : Os) : World :=
  let w0 := World.holding Tryz.prog os ⟨#[], #[], []⟩
  { w0 with heap := (w0.heap.modify 3 fun
      | .cells _ t frozen => .cells #[errTy] t frozen
      | o => o).modify 2 fun
      | .cells _ t frozen => .cells #[.int .u16 32768, .int .u16 1024, .int .u16 512, .int .u16 256, .int .u16 128, .int .u16 64, .int .u16 32, .int .u16 16] t frozen
      | o => o }
theorem laid_met (os : Os) (args : Array Value) : laidMetH Tryz.prog laidL ((laidWorld os).forCall (fun _ _ => 0) ⟨#[], args, []⟩).memory :=
  laidMetH_of_parts (laidMet_of_run' 8 (by kernel_rfl) (by kernel_rfl)) (by kernel_rfl)

section
variable {H : Type} {enc : TypeId × Value → H} {P : Program}
theorem trodAll_stays (hl : laidOutB P = true) {W W' : World} (hb : Below W.heap.size W W') {sp : Nat → Bool} : ∀ {ts : List TypeId} {vs : List Value} {ds : List (DataW H)} {ps : List MemPlace},
    (∀ t ∈ ts, P.readableRec t = true ∧ t < P.types.size) → DataW.TrodAll enc P W 0 (fun _ => true) true ts vs ds ps → (∀ x ∈ ps, x.block < W.heap.size) → (∀ x ∈ ps, sp x.block = true) → DataW.TrodAll enc P W' 0 sp true ts vs ds ps
  | [], _, _, _, _, h, _, _ => by obtain ⟨rfl, rfl, rfl⟩ := trodAll_nil h; exact trodAll_mk0
  | t :: ts, _, _, _, ht, h, hlt, hs => by
    obtain ⟨v, vs, d, ds, p, q, rfl, rfl, rfl, h0, h1⟩ := trodAll_cons h
    have h2 := ht t (by simp)
    exact trodAll_cons_mk (WideElems.Trod_stays hl h2.1 h2.2 h0 (fun x hx => hb.same (hlt x (by simp [hx]))) (fun x hx => hs x (by simp [hx])))
      (trodAll_stays hl hb (fun t ht' => ht t (by simp [ht'])) h1 (fun x hx => hlt x (by simp [hx])) (fun x hx => hs x (by simp [hx])))
theorem post_of_below {f : Func} {s : ChangeSpec} {apart fresh handsOn again : Bool} {W W' : World} {args : Array Value} {v : Value} {ds gs : List (DataW H)} {before pa pv : List MemPlace}
    (hW : DataW.Whole enc P f.params.toList s.vars apart W args.toList ds gs before)
    (hres : ∀ (b : Nat) (sp : Nat → Bool) (hd : Bool), DataW.TrodAll enc P W' b sp hd f.resultTypes.toList (v.resultList f.resultTypes.size) (s.fn H (ds ++ gs)).results [])
    (hargs : ∀ sp : Nat → Bool, (∀ p ∈ before, sp p.block = true) → DataW.TrodAll enc P W' 0 sp true f.params.toList args.toList (s.fn H (ds ++ gs)).args pa)
    (hvars : ∀ sp : Nat → Bool, (∀ p ∈ before, sp p.block = true) → DataW.TrodVars enc P W' sp s.vars (s.fn H (ds ++ gs)).vars pv)
    (hps : before = pa ++ pv) (hb : Below W.heap.size W W')
    (hok : ∀ (j : Nat) (t : TypeId) (r : Value), f.resultTypes[j]? = some t → (v.resultList f.resultTypes.size)[j]? = some r → Value.okWide P W' .any 0 t r) :
    s.post enc P f apart fresh handsOn again W args v W' := by
  have hlt : ∀ p ∈ before, p.block < W.heap.size := fun p hp => hW.lt p hp
  have hold : ∀ p ∈ before, (fun b => decide (b < W.heap.size)) p.block = true := fun p hp => by simpa using hlt p hp
  refine ⟨ds, gs, before, [], pa, pv, hW, hres _ _ _, hargs _ hold, hvars _ hold, World.keptBut_mono (fun p hp => ⟨hp, ?_⟩) (hb.frame (· ∈ before)), fun _ => ?_⟩
  · rw [hps, List.mem_append] at hp
    exact Or.inr hp
  · obtain ⟨_, _, _, _, _, hz, hn⟩ := hW
    refine ⟨hok, _, _, ([] ++ pa) ++ pv, ⟨[] ++ pa, pv, trodAll_append (hargs _ (fun _ _ => rfl)) (hres _ _ _), hvars _ (fun _ _ => rfl), rfl, ?_, ?_⟩, ?_⟩
    · intro b off hp
      have hin : MemPlace.cell b off ∈ before := by rw [hps]; simpa using hp
      rw [hb.frozen (hlt _ hin)]
      exact hz b off hin
    · intro ha
      have := hn ha
      rw [hps] at this
      simpa using this
    · intro p hp _
      rw [hps]
      simpa using hp
/-- A law that returns true and only makes memory: its post. -/
theorem post_true {f : Func} {s : ChangeSpec} {apart fresh handsOn again : Bool} {W W' : World} {args : Array Value} {ds gs : List (DataW H)} {before : List MemPlace} {t : TypeId}
    (hl : laidOutB P = true) (hvn : s.vars = []) (hr : f.resultTypes = #[t]) (ht : P.underlying t = some .bool)
    (hp : ∀ t ∈ f.params.toList, P.readableRec t = true ∧ t < P.types.size)
    (hW : DataW.Whole enc P f.params.toList s.vars apart W args.toList ds gs before)
    (hfn : s.fn H ds = { results := [.lit (.bool true)], args := ds }) (hb : Ext W W') :
    s.post enc P f apart fresh handsOn again W args (.bool true) W' := by
  have hW' := hW
  obtain ⟨p, q, hA, hV, rfl, _, _⟩ := hW
  rw [hvn] at hV
  obtain ⟨rfl, rfl⟩ := trodVars_none hV
  have hlt : ∀ x ∈ p, x.block < W.heap.size := fun x hx => by simpa using hW'.lt x (by simp [hx])
  refine post_of_below (pa := p) (pv := []) hW' (fun _ _ _ => ?_) (fun sp hs => ?_) (fun _ _ => ?_) rfl hb (ok_one hr rfl (okWide_bool_mk ht _))
  · rw [List.append_nil, hfn, hr]; exact trodAll_mk1 (shut_bool ht true)
  · rw [List.append_nil, hfn]; exact trodAll_stays hl hb hp hA hlt (fun x hx => hs x (by simp [hx]))
  · rw [List.append_nil, hfn, hvn]; rfl
end
theorem laid_out : laidOutB Tryz.prog = true := by kernel_rfl
end Go.Proofs.YtebkdcamblifoaaGreatDoor
namespace Go.Proofs.YtebkdcamblifoaaGreatDoor
set_option linter.unusedSimpArgs false
set_option linter.unusedVariables false
open Go.ChangeShapes Go.WideShapes Go.RowKit Go.Deep Go.Joins
set_option maxRecDepth 100000

theorem wf_u8c {n : Int} (h : (Lit.int .u8 n).wf = true) : 0 ≤ n ∧ n ≤ 255 := by
  have h1 : IntKind.u8.min = 0 := rfl
  have h2 : IntKind.u8.max = 255 := rfl
  simp [Lit.wf] at h; omega
theorem some_atc {α : Type} {l : List α} {n j : Nat} (h : l.length = n) (hj : j < n) : ∃ x, l[j]? = some x := ⟨l[j]'(by omega), List.getElem?_eq_getElem _⟩
set_option maxHeartbeats 2000000 in
theorem open_came {H : Type} {enc : TypeId × Value → H} {W : World} {r : Reach} {b0 : Nat} {v : Value} {d : DataW H} {p : List MemPlace}
    (hv : Value.okWide Tryz.prog W r b0 28 v) (h : DataW.Trod enc Tryz.prog W 0 (fun _ => true) true 28 v d p) :
    ∃ c : CameD, v = caV c ∧ c.wf := by
  obtain ⟨cs, rfl, hsz⟩ := okWide_struct Tryz.underlying28 hv
  obtain ⟨l⟩ := cs
  have hC : Tryz.prog.cellsOf 28 = 19 := by kernel_rfl
  match l, hsz.trans hC with
  | [c0, c1, c2, c3, c4, c5, c6, c7, c8, c9, c10, c11, c12, c13, c14, c15, c16, c17, c18], _ =>
    obtain ⟨fuel, hf⟩ := h
    obtain ⟨xs, n, _, _, _, hlen, hg⟩ := DataW.trod_struct Tryz.underlying28 hf
    obtain ⟨y0, hy0⟩ := some_atc hlen (show 0 < _ by decide)
    have g0 : DataW.trod enc Tryz.prog W 0 (fun _ => true) true n 5 ((([c0, c1, c2, c3, c4, c5, c6, c7, c8, c9, c10, c11, c12, c13, c14, c15, c16, c17, c18] : List Value).drop 0).take (Tryz.prog.cellsOf 5)) = some y0 := (hg 0 _ rfl).trans hy0
    rw [show Tryz.prog.cellsOf 5 = 1 by kernel_rfl] at g0
    simp only [List.drop_succ_cons, List.drop_zero, List.take_succ_cons, List.take_zero] at g0
    obtain ⟨y1, hy1⟩ := some_atc hlen (show 1 < _ by decide)
    have g1 : DataW.trod enc Tryz.prog W 0 (fun _ => true) true n 3 ((([c0, c1, c2, c3, c4, c5, c6, c7, c8, c9, c10, c11, c12, c13, c14, c15, c16, c17, c18] : List Value).drop 1).take (Tryz.prog.cellsOf 3)) = some y1 := (hg 1 _ rfl).trans hy1
    rw [show Tryz.prog.cellsOf 3 = 1 by kernel_rfl] at g1
    simp only [List.drop_succ_cons, List.drop_zero, List.take_succ_cons, List.take_zero] at g1
    obtain ⟨y2, hy2⟩ := some_atc hlen (show 2 < _ by decide)
    have g2 : DataW.trod enc Tryz.prog W 0 (fun _ => true) true n 24 ((([c0, c1, c2, c3, c4, c5, c6, c7, c8, c9, c10, c11, c12, c13, c14, c15, c16, c17, c18] : List Value).drop 2).take (Tryz.prog.cellsOf 24)) = some y2 := (hg 2 _ rfl).trans hy2
    rw [show Tryz.prog.cellsOf 24 = 11 by kernel_rfl] at g2
    simp only [List.drop_succ_cons, List.drop_zero, List.take_succ_cons, List.take_zero] at g2
    obtain ⟨y3, hy3⟩ := some_atc hlen (show 3 < _ by decide)
    have g3 : DataW.trod enc Tryz.prog W 0 (fun _ => true) true n 4 ((([c0, c1, c2, c3, c4, c5, c6, c7, c8, c9, c10, c11, c12, c13, c14, c15, c16, c17, c18] : List Value).drop 13).take (Tryz.prog.cellsOf 4)) = some y3 := (hg 3 _ rfl).trans hy3
    rw [show Tryz.prog.cellsOf 4 = 1 by kernel_rfl] at g3
    simp only [List.drop_succ_cons, List.drop_zero, List.take_succ_cons, List.take_zero] at g3
    obtain ⟨y4, hy4⟩ := some_atc hlen (show 4 < _ by decide)
    have g4 : DataW.trod enc Tryz.prog W 0 (fun _ => true) true n 26 ((([c0, c1, c2, c3, c4, c5, c6, c7, c8, c9, c10, c11, c12, c13, c14, c15, c16, c17, c18] : List Value).drop 14).take (Tryz.prog.cellsOf 26)) = some y4 := (hg 4 _ rfl).trans hy4
    rw [show Tryz.prog.cellsOf 26 = 3 by kernel_rfl] at g4
    simp only [List.drop_succ_cons, List.drop_zero, List.take_succ_cons, List.take_zero] at g4
    obtain ⟨y5, hy5⟩ := some_atc hlen (show 5 < _ by decide)
    have g5 : DataW.trod enc Tryz.prog W 0 (fun _ => true) true n 4 ((([c0, c1, c2, c3, c4, c5, c6, c7, c8, c9, c10, c11, c12, c13, c14, c15, c16, c17, c18] : List Value).drop 17).take (Tryz.prog.cellsOf 4)) = some y5 := (hg 5 _ rfl).trans hy5
    rw [show Tryz.prog.cellsOf 4 = 1 by kernel_rfl] at g5
    simp only [List.drop_succ_cons, List.drop_zero, List.take_succ_cons, List.take_zero] at g5
    obtain ⟨y6, hy6⟩ := some_atc hlen (show 6 < _ by decide)
    have g6 : DataW.trod enc Tryz.prog W 0 (fun _ => true) true n 3 ((([c0, c1, c2, c3, c4, c5, c6, c7, c8, c9, c10, c11, c12, c13, c14, c15, c16, c17, c18] : List Value).drop 18).take (Tryz.prog.cellsOf 3)) = some y6 := (hg 6 _ rfl).trans hy6
    rw [show Tryz.prog.cellsOf 3 = 1 by kernel_rfl] at g6
    simp only [List.drop_succ_cons, List.drop_zero, List.take_succ_cons, List.take_zero] at g6
    obtain ⟨a0, fa0, _, wa0⟩ := DataW.trod_int Tryz.underlying5 g0
    simp only [List.cons.injEq, and_true] at fa0
    subst fa0
    obtain ⟨a1, fa1, _, wa1⟩ := DataW.trod_int Tryz.underlying3 g1
    simp only [List.cons.injEq, and_true] at fa1
    subst fa1
    obtain ⟨q2, n2, _, _, _, hlen2, hg2⟩ := DataW.trod_struct Tryz.underlying24 g2
    obtain ⟨z2_0, hz2_0⟩ := some_atc hlen2 (show 0 < _ by decide)
    have k2_0 : DataW.trod enc Tryz.prog W 0 (fun _ => true) true n2 22 ((([c2, c3, c4, c5, c6, c7, c8, c9, c10, c11, c12] : List Value).drop 0).take (Tryz.prog.cellsOf 22)) = some z2_0 := (hg2 0 _ rfl).trans hz2_0
    rw [show Tryz.prog.cellsOf 22 = 1 by kernel_rfl] at k2_0
    simp only [List.drop_succ_cons, List.drop_zero, List.take_succ_cons, List.take_zero] at k2_0
    obtain ⟨v2_0, fv2_0, _, wv2_0⟩ := DataW.trod_int Tryz.underlying22 k2_0
    simp only [List.cons.injEq, and_true] at fv2_0
    subst fv2_0
    obtain ⟨z2_1, hz2_1⟩ := some_atc hlen2 (show 1 < _ by decide)
    have k2_1 : DataW.trod enc Tryz.prog W 0 (fun _ => true) true n2 4 ((([.int .u16 v2_0, c3, c4, c5, c6, c7, c8, c9, c10, c11, c12] : List Value).drop 1).take (Tryz.prog.cellsOf 4)) = some z2_1 := (hg2 1 _ rfl).trans hz2_1
    rw [show Tryz.prog.cellsOf 4 = 1 by kernel_rfl] at k2_1
    simp only [List.drop_succ_cons, List.drop_zero, List.take_succ_cons, List.take_zero] at k2_1
    obtain ⟨v2_1, fv2_1, _⟩ := DataW.trod_bool Tryz.underlying4 k2_1
    simp only [List.cons.injEq, and_true] at fv2_1
    subst fv2_1
    obtain ⟨z2_2, hz2_2⟩ := some_atc hlen2 (show 2 < _ by decide)
    have k2_2 : DataW.trod enc Tryz.prog W 0 (fun _ => true) true n2 5 ((([.int .u16 v2_0, .bool v2_1, c4, c5, c6, c7, c8, c9, c10, c11, c12] : List Value).drop 2).take (Tryz.prog.cellsOf 5)) = some z2_2 := (hg2 2 _ rfl).trans hz2_2
    rw [show Tryz.prog.cellsOf 5 = 1 by kernel_rfl] at k2_2
    simp only [List.drop_succ_cons, List.drop_zero, List.take_succ_cons, List.take_zero] at k2_2
    obtain ⟨v2_2, fv2_2, _, wv2_2⟩ := DataW.trod_int Tryz.underlying5 k2_2
    simp only [List.cons.injEq, and_true] at fv2_2
    subst fv2_2
    obtain ⟨z2_3, hz2_3⟩ := some_atc hlen2 (show 3 < _ by decide)
    have k2_3 : DataW.trod enc Tryz.prog W 0 (fun _ => true) true n2 4 ((([.int .u16 v2_0, .bool v2_1, .int .u8 v2_2, c5, c6, c7, c8, c9, c10, c11, c12] : List Value).drop 3).take (Tryz.prog.cellsOf 4)) = some z2_3 := (hg2 3 _ rfl).trans hz2_3
    rw [show Tryz.prog.cellsOf 4 = 1 by kernel_rfl] at k2_3
    simp only [List.drop_succ_cons, List.drop_zero, List.take_succ_cons, List.take_zero] at k2_3
    obtain ⟨v2_3, fv2_3, _⟩ := DataW.trod_bool Tryz.underlying4 k2_3
    simp only [List.cons.injEq, and_true] at fv2_3
    subst fv2_3
    obtain ⟨z2_4, hz2_4⟩ := some_atc hlen2 (show 4 < _ by decide)
    have k2_4 : DataW.trod enc Tryz.prog W 0 (fun _ => true) true n2 4 ((([.int .u16 v2_0, .bool v2_1, .int .u8 v2_2, .bool v2_3, c6, c7, c8, c9, c10, c11, c12] : List Value).drop 4).take (Tryz.prog.cellsOf 4)) = some z2_4 := (hg2 4 _ rfl).trans hz2_4
    rw [show Tryz.prog.cellsOf 4 = 1 by kernel_rfl] at k2_4
    simp only [List.drop_succ_cons, List.drop_zero, List.take_succ_cons, List.take_zero] at k2_4
    obtain ⟨v2_4, fv2_4, _⟩ := DataW.trod_bool Tryz.underlying4 k2_4
    simp only [List.cons.injEq, and_true] at fv2_4
    subst fv2_4
    obtain ⟨z2_5, hz2_5⟩ := some_atc hlen2 (show 5 < _ by decide)
    have k2_5 : DataW.trod enc Tryz.prog W 0 (fun _ => true) true n2 4 ((([.int .u16 v2_0, .bool v2_1, .int .u8 v2_2, .bool v2_3, .bool v2_4, c7, c8, c9, c10, c11, c12] : List Value).drop 5).take (Tryz.prog.cellsOf 4)) = some z2_5 := (hg2 5 _ rfl).trans hz2_5
    rw [show Tryz.prog.cellsOf 4 = 1 by kernel_rfl] at k2_5
    simp only [List.drop_succ_cons, List.drop_zero, List.take_succ_cons, List.take_zero] at k2_5
    obtain ⟨v2_5, fv2_5, _⟩ := DataW.trod_bool Tryz.underlying4 k2_5
    simp only [List.cons.injEq, and_true] at fv2_5
    subst fv2_5
    obtain ⟨z2_6, hz2_6⟩ := some_atc hlen2 (show 6 < _ by decide)
    have k2_6 : DataW.trod enc Tryz.prog W 0 (fun _ => true) true n2 4 ((([.int .u16 v2_0, .bool v2_1, .int .u8 v2_2, .bool v2_3, .bool v2_4, .bool v2_5, c8, c9, c10, c11, c12] : List Value).drop 6).take (Tryz.prog.cellsOf 4)) = some z2_6 := (hg2 6 _ rfl).trans hz2_6
    rw [show Tryz.prog.cellsOf 4 = 1 by kernel_rfl] at k2_6
    simp only [List.drop_succ_cons, List.drop_zero, List.take_succ_cons, List.take_zero] at k2_6
    obtain ⟨v2_6, fv2_6, _⟩ := DataW.trod_bool Tryz.underlying4 k2_6
    simp only [List.cons.injEq, and_true] at fv2_6
    subst fv2_6
    obtain ⟨z2_7, hz2_7⟩ := some_atc hlen2 (show 7 < _ by decide)
    have k2_7 : DataW.trod enc Tryz.prog W 0 (fun _ => true) true n2 4 ((([.int .u16 v2_0, .bool v2_1, .int .u8 v2_2, .bool v2_3, .bool v2_4, .bool v2_5, .bool v2_6, c9, c10, c11, c12] : List Value).drop 7).take (Tryz.prog.cellsOf 4)) = some z2_7 := (hg2 7 _ rfl).trans hz2_7
    rw [show Tryz.prog.cellsOf 4 = 1 by kernel_rfl] at k2_7
    simp only [List.drop_succ_cons, List.drop_zero, List.take_succ_cons, List.take_zero] at k2_7
    obtain ⟨v2_7, fv2_7, _⟩ := DataW.trod_bool Tryz.underlying4 k2_7
    simp only [List.cons.injEq, and_true] at fv2_7
    subst fv2_7
    obtain ⟨z2_8, hz2_8⟩ := some_atc hlen2 (show 8 < _ by decide)
    have k2_8 : DataW.trod enc Tryz.prog W 0 (fun _ => true) true n2 4 ((([.int .u16 v2_0, .bool v2_1, .int .u8 v2_2, .bool v2_3, .bool v2_4, .bool v2_5, .bool v2_6, .bool v2_7, c10, c11, c12] : List Value).drop 8).take (Tryz.prog.cellsOf 4)) = some z2_8 := (hg2 8 _ rfl).trans hz2_8
    rw [show Tryz.prog.cellsOf 4 = 1 by kernel_rfl] at k2_8
    simp only [List.drop_succ_cons, List.drop_zero, List.take_succ_cons, List.take_zero] at k2_8
    obtain ⟨v2_8, fv2_8, _⟩ := DataW.trod_bool Tryz.underlying4 k2_8
    simp only [List.cons.injEq, and_true] at fv2_8
    subst fv2_8
    obtain ⟨z2_9, hz2_9⟩ := some_atc hlen2 (show 9 < _ by decide)
    have k2_9 : DataW.trod enc Tryz.prog W 0 (fun _ => true) true n2 4 ((([.int .u16 v2_0, .bool v2_1, .int .u8 v2_2, .bool v2_3, .bool v2_4, .bool v2_5, .bool v2_6, .bool v2_7, .bool v2_8, c11, c12] : List Value).drop 9).take (Tryz.prog.cellsOf 4)) = some z2_9 := (hg2 9 _ rfl).trans hz2_9
    rw [show Tryz.prog.cellsOf 4 = 1 by kernel_rfl] at k2_9
    simp only [List.drop_succ_cons, List.drop_zero, List.take_succ_cons, List.take_zero] at k2_9
    obtain ⟨v2_9, fv2_9, _⟩ := DataW.trod_bool Tryz.underlying4 k2_9
    simp only [List.cons.injEq, and_true] at fv2_9
    subst fv2_9
    obtain ⟨z2_10, hz2_10⟩ := some_atc hlen2 (show 10 < _ by decide)
    have k2_10 : DataW.trod enc Tryz.prog W 0 (fun _ => true) true n2 5 ((([.int .u16 v2_0, .bool v2_1, .int .u8 v2_2, .bool v2_3, .bool v2_4, .bool v2_5, .bool v2_6, .bool v2_7, .bool v2_8, .bool v2_9, c12] : List Value).drop 10).take (Tryz.prog.cellsOf 5)) = some z2_10 := (hg2 10 _ rfl).trans hz2_10
    rw [show Tryz.prog.cellsOf 5 = 1 by kernel_rfl] at k2_10
    simp only [List.drop_succ_cons, List.drop_zero, List.take_succ_cons, List.take_zero] at k2_10
    obtain ⟨v2_10, fv2_10, _, wv2_10⟩ := DataW.trod_int Tryz.underlying5 k2_10
    simp only [List.cons.injEq, and_true] at fv2_10
    subst fv2_10
    obtain ⟨a3, fa3, _⟩ := DataW.trod_bool Tryz.underlying4 g3
    simp only [List.cons.injEq, and_true] at fa3
    subst fa3
    obtain ⟨q4, n4, _, _, _, hlen4, hg4⟩ := DataW.trod_struct Tryz.underlying26 g4
    obtain ⟨z4_0, hz4_0⟩ := some_atc hlen4 (show 0 < _ by decide)
    have k4_0 : DataW.trod enc Tryz.prog W 0 (fun _ => true) true n4 9 ((([c14, c15, c16] : List Value).drop 0).take (Tryz.prog.cellsOf 9)) = some z4_0 := (hg4 0 _ rfl).trans hz4_0
    rw [show Tryz.prog.cellsOf 9 = 1 by kernel_rfl] at k4_0
    simp only [List.drop_succ_cons, List.drop_zero, List.take_succ_cons, List.take_zero] at k4_0
    obtain ⟨v4_0, fv4_0, _, lv4_0⟩ := DataW.trod_string Tryz.underlying9 k4_0
    simp only [List.cons.injEq, and_true] at fv4_0
    subst fv4_0
    obtain ⟨z4_1, hz4_1⟩ := some_atc hlen4 (show 1 < _ by decide)
    have k4_1 : DataW.trod enc Tryz.prog W 0 (fun _ => true) true n4 22 ((([.string v4_0, c15, c16] : List Value).drop 1).take (Tryz.prog.cellsOf 22)) = some z4_1 := (hg4 1 _ rfl).trans hz4_1
    rw [show Tryz.prog.cellsOf 22 = 1 by kernel_rfl] at k4_1
    simp only [List.drop_succ_cons, List.drop_zero, List.take_succ_cons, List.take_zero] at k4_1
    obtain ⟨v4_1, fv4_1, _, wv4_1⟩ := DataW.trod_int Tryz.underlying22 k4_1
    simp only [List.cons.injEq, and_true] at fv4_1
    subst fv4_1
    obtain ⟨z4_2, hz4_2⟩ := some_atc hlen4 (show 2 < _ by decide)
    have k4_2 : DataW.trod enc Tryz.prog W 0 (fun _ => true) true n4 22 ((([.string v4_0, .int .u16 v4_1, c16] : List Value).drop 2).take (Tryz.prog.cellsOf 22)) = some z4_2 := (hg4 2 _ rfl).trans hz4_2
    rw [show Tryz.prog.cellsOf 22 = 1 by kernel_rfl] at k4_2
    simp only [List.drop_succ_cons, List.drop_zero, List.take_succ_cons, List.take_zero] at k4_2
    obtain ⟨v4_2, fv4_2, _, wv4_2⟩ := DataW.trod_int Tryz.underlying22 k4_2
    simp only [List.cons.injEq, and_true] at fv4_2
    subst fv4_2
    obtain ⟨a5, fa5, _⟩ := DataW.trod_bool Tryz.underlying4 g5
    simp only [List.cons.injEq, and_true] at fa5
    subst fa5
    obtain ⟨a6, fa6, _, wa6⟩ := DataW.trod_int Tryz.underlying3 g6
    simp only [List.cons.injEq, and_true] at fa6
    subst fa6
    have hu0 := wf_u16 wv2_0
    have hu2 := wf_u8c wv2_2
    have hu41 := wf_u16 wv4_1
    have hu42 := wf_u16 wv4_2
    refine ⟨⟨a0, a1, ⟨v2_0, v2_1, v2_2, v2_3, v2_4, v2_5, v2_6, v2_7, v2_8, v2_9, v2_10⟩, a3, ⟨v4_0.data.toList, v4_1, v4_2⟩, a5, a6⟩, ?_, ⟨hu0, hu2, ⟨hu41, hu42⟩⟩⟩
    rw [show (Value.string v4_0 : Value) = S v4_0.data.toList from S_of v4_0]
end Go.Proofs.YtebkdcamblifoaaGreatDoor
namespace Go.Proofs.YtebkdcamblifoaaGreatDoor
set_option linter.unusedSimpArgs false
set_option linter.unusedVariables false
open Go.ChangeShapes Go.WideShapes Go.RowKit Go.Deep Go.Joins
set_option maxRecDepth 100000

theorem bytes_set7 : Tryz.prog.bytesOf 45 = 48 := by kernel_rfl
theorem weights_row7 {H : Type} {d : DataW H} {elems sp : List (DataW H)} (h : d = .slice elems sp) : (elems.length + sp.length) * 48 ∈ d.weights Tryz.prog 34 := by
  subst h
  simp only [DataW.weights, Tryz.underlying34, bytes_set7, List.mem_cons, true_or]
theorem sets_trod7 {H : Type} {enc : TypeId × Value → H} {W : World} {fuel : Nat} {v : Value} {y : DataW H × List MemPlace}
    (hf : DataW.trod enc Tryz.prog W 0 (fun _ => true) true fuel 34 [v] = some y) :
    ∃ l : List SetD, Sets W 0 v l ∧ (∀ s ∈ l, SetIn s ∧ s.name.length ∈ y.1.weights Tryz.prog 34 ∧ ∀ x ∈ s.data, x.length ∈ y.1.weights Tryz.prog 34) ∧ (l.length = 0 ∨ ∃ m, m ∈ y.1.weights Tryz.prog 34 ∧ l.length ≤ m) := by
  rcases open_slice_fields Tryz.underlying34 Tryz.underlying45 (by kernel_rfl) (by kernel_rfl) hf with ⟨e, _⟩ | ⟨a, len, cap, m, D, Pl, e, _, hl, hm, hmm, hdp, hi⟩
  · simp only [List.cons.injEq, and_true] at e
    rw [e]
    exact ⟨[], ⟨[], none, 0, rfl, rfl, Nat.le_refl _, by unfold maxLen; omega, Rd.nil _ _ _ _, by simp⟩, by simp, .inl rfl⟩
  · simp only [List.cons.injEq, and_true] at e
    rw [e]
    have hmc : len ≤ m := by rw [hmm]; split <;> omega
    have hdd := (Prod.mk.inj hdp).1
    obtain ⟨l, hll, hq⟩ := pick ((SetD.zero, .slice none 0 0) : SetD × Value) len (fun i r => (W.cell? (a.add (i * 5 + 0)) = some (S r.1.name) ∧ W.cell? (a.add (i * 5 + 1)) = some (.int .u16 r.1.typ) ∧ W.cell? (a.add (i * 5 + 2)) = some (.int .u16 r.1.cls) ∧ W.cell? (a.add (i * 5 + 3)) = some (.int .u32 r.1.ttl) ∧ W.cell? (a.add (i * 5 + 4)) = some r.2) ∧ Strs W 0 r.2 r.1.data ∧ SetIn r.1 ∧ r.1.name.length ∈ y.1.weights Tryz.prog 34 ∧ ∀ x ∈ r.1.data, x.length ∈ y.1.weights Tryz.prog 34) (fun i hi' => by
      obtain ⟨ys, n, hD, _, _, hy⟩ := hi i (by omega)
      obtain ⟨v0, y0, c0, g0, t0⟩ := hy 0 _ rfl
      obtain ⟨v1, y1, c1, _, t1⟩ := hy 1 _ rfl
      obtain ⟨v2, y2, c2, _, t2⟩ := hy 2 _ rfl
      obtain ⟨v3, y3, c3, _, t3⟩ := hy 3 _ rfl
      obtain ⟨v4, y4, c4, g4, t4⟩ := hy 4 _ rfl
      obtain ⟨s, e0, z0, hs⟩ := DataW.trod_string Tryz.underlying9 t0
      obtain ⟨x1, e1, _, w1⟩ := DataW.trod_int Tryz.underlying22 t1
      obtain ⟨x2, e2, _, w2⟩ := DataW.trod_int Tryz.underlying22 t2
      obtain ⟨x3, e3, _, w3⟩ := DataW.trod_int Tryz.underlying37 t3
      obtain ⟨sl, hsl, hsw⟩ := open_strs t4
      injection e0 with e0 _
      injection e1 with e1 _
      injection e2 with e2 _
      injection e3 with e3 _
      subst e0 e1 e2 e3
      rw [S_of] at c0
      have hmem : D i ∈ (List.range len).map D := List.mem_map.2 ⟨i, List.mem_range.2 hi', rfl⟩
      refine ⟨(⟨s.data.toList, x1, x2, x3, sl⟩, v4), ⟨c0, c1, c2, c3, c4⟩, hsl, ⟨wf_u16 w1, wf_u16 w2, wf_u32 w3⟩, ?_, fun x hx => ?_⟩
      · rw [hdd]
        refine weights_elem Tryz.underlying34 hmem ?_
        rw [hD]
        refine weights_field (j := 0) (d := y0.1) Tryz.underlying45 rfl (by simp [g0]) ?_
        rw [z0]; exact weights_str _ s
      · rw [hdd]
        refine weights_elem Tryz.underlying34 hmem ?_
        rw [hD]
        exact weights_field (j := 4) (d := y4.1) Tryz.underlying45 rfl (by simp [g4]) (hsw x hx))
    subst hll
    refine ⟨l.map Prod.fst, ⟨l, some a, cap, rfl, rfl, hl, hm, ?_, fun p hp => ?_⟩, fun s hs => ?_, .inr ⟨_, weights_row7 (by rw [hdd]), by simp only [List.length_map, List.length_range]; omega⟩⟩
    · refine ⟨flatS_len l, fun h0 => ?_⟩
      have hz := (hq 0 h0).1.1
      rw [show a.add (0 * 5 + 0) = a from rfl] at hz
      obtain ⟨ea, hb⟩ := spot_of hz
      refine ⟨a.block, a.off, by rw [← ea], Nat.zero_le _, hb, sets_of fun i hi' => ?_⟩
      have := (hq i hi').1
      rw [ea] at this
      simp only [add_none] at this
      exact this
    · obtain ⟨i, hi', rfl⟩ := List.getElem_of_mem hp
      exact (hq i hi').2.1
    · obtain ⟨p, hp, rfl⟩ := List.mem_map.1 hs
      obtain ⟨i, hi', rfl⟩ := List.getElem_of_mem hp
      exact (hq i hi').2.2
/-- What the form's reach says of a text's length. -/
theorem open_verdict7 {H : Type} {enc : TypeId × Value → H} {W : World} {r : Reach} {b0 : Nat} {v : Value} {d : DataW H} {p : List MemPlace}
    (hv : Value.okWide Tryz.prog W r b0 36 v) (h : DataW.Trod enc Tryz.prog W 0 (fun _ => true) true 36 v d p) :
    ∃ (code : Int) (vs vo : Value) (ss oo : List SetD), v = .agg #[.int .u8 code, vs, vo] ∧ Sets W 0 vs ss ∧ Sets W 0 vo oo ∧ (0 ≤ code ∧ code ≤ 255) ∧
      (∀ s ∈ ss ++ oo, SetIn s ∧ s.name.length ∈ d.weights Tryz.prog 36 ∧ ∀ x ∈ s.data, x.length ∈ d.weights Tryz.prog 36) ∧
      (ss.length = 0 ∨ ∃ m, m ∈ d.weights Tryz.prog 36 ∧ ss.length ≤ m) ∧ (oo.length = 0 ∨ ∃ m, m ∈ d.weights Tryz.prog 36 ∧ oo.length ≤ m) := by
  obtain ⟨cs, rfl, hsz⟩ := okWide_struct Tryz.underlying36 hv
  obtain ⟨l⟩ := cs
  have hC : Tryz.prog.cellsOf 36 = 3 := by kernel_rfl
  match l, hsz.trans hC with
  | [c0, c1, c2], _ =>
    obtain ⟨fuel, hf⟩ := h
    obtain ⟨xs, n, _, hd, _, hlen, hg⟩ := DataW.trod_struct Tryz.underlying36 hf
    have hd1 := (Prod.mk.inj hd).1
    obtain ⟨y0, hy0⟩ := some_atc hlen (show 0 < _ by decide)
    obtain ⟨y1, hy1⟩ := some_atc hlen (show 1 < _ by decide)
    obtain ⟨y2, hy2⟩ := some_atc hlen (show 2 < _ by decide)
    have g0 : DataW.trod enc Tryz.prog W 0 (fun _ => true) true n 5 ((([c0, c1, c2] : List Value).drop 0).take (Tryz.prog.cellsOf 5)) = some y0 := (hg 0 _ rfl).trans hy0
    have g1 : DataW.trod enc Tryz.prog W 0 (fun _ => true) true n 34 ((([c0, c1, c2] : List Value).drop 1).take (Tryz.prog.cellsOf 34)) = some y1 := (hg 1 _ rfl).trans hy1
    have g2 : DataW.trod enc Tryz.prog W 0 (fun _ => true) true n 34 ((([c0, c1, c2] : List Value).drop 2).take (Tryz.prog.cellsOf 34)) = some y2 := (hg 2 _ rfl).trans hy2
    rw [show Tryz.prog.cellsOf 5 = 1 by kernel_rfl] at g0
    rw [show Tryz.prog.cellsOf 34 = 1 by kernel_rfl] at g1 g2
    simp only [List.drop_succ_cons, List.drop_zero, List.take_succ_cons, List.take_zero] at g0 g1 g2
    obtain ⟨x, e0, _, w0⟩ := DataW.trod_int Tryz.underlying5 g0
    simp only [List.cons.injEq, and_true] at e0
    subst e0
    obtain ⟨ss, hs, hsw, hsl⟩ := sets_trod7 g1
    obtain ⟨oo, ho, how, hol⟩ := sets_trod7 g2
    have up1 : ∀ {m : Nat}, m ∈ y1.1.weights Tryz.prog 34 → m ∈ d.weights Tryz.prog 36 := fun hm => by
      rw [hd1]; exact weights_field (j := 1) (d := y1.1) Tryz.underlying36 rfl (by simp [hy1]) hm
    have up2 : ∀ {m : Nat}, m ∈ y2.1.weights Tryz.prog 34 → m ∈ d.weights Tryz.prog 36 := fun hm => by
      rw [hd1]; exact weights_field (j := 2) (d := y2.1) Tryz.underlying36 rfl (by simp [hy2]) hm
    refine ⟨x, c1, c2, ss, oo, rfl, hs, ho, wf_u8c w0, fun s hm => ?_, ?_, ?_⟩
    · rcases List.mem_append.1 hm with hm | hm
      · exact ⟨(hsw s hm).1, up1 (hsw s hm).2.1, fun x hx => up1 ((hsw s hm).2.2 x hx)⟩
      · exact ⟨(how s hm).1, up2 (how s hm).2.1, fun x hx => up2 ((how s hm).2.2 x hx)⟩
    · exact hsl.imp id fun ⟨m, h1, h2⟩ => ⟨m, up1 h1, h2⟩
    · exact hol.imp id fun ⟨m, h1, h2⟩ => ⟨m, up2 h1, h2⟩
end Go.Proofs.YtebkdcamblifoaaGreatDoor
