/- hustingslaw24.HeardVotes returns true for every input, and every argument reads behind the call as it read before; the listed variables are tied to the program's text. No condition of ours. -/
import Derived.Test.YtfjfmnnjempdaaaGreatDoorCards
import Derived.Test.YtfjfmnnjempdaaaGreatDoorTie
import Derived.Test.YtfjfmnnjempdaaaGreatDoorKb
import Derived.ProofKit
import Derived.OpenShut
import Derived.LaidHandle
import Derived.LaidLaws
import Derived.Test.YtfjfmnnjempdaaaGreatDoorKwy
import Derived.Deep.DeepHandedRow
import Derived.Stop.LaidTwo
import Derived.LaidSub
import Derived.Test.YtfjfmnnjempdaaaGreatDoorKhd
import Derived.Test.YtfjfmnnjempdaaaGreatDoorKhq
import Derived.Test.YtfjfmnnjempdaaaGreatDoorKe
import Derived.Test.YtfjfmnnjempdaaaGreatDoorKf
import Derived.Test.YtfjfmnnjempdaaaGreatDoorKg
namespace Go.Proofs.YtfjfmnnjempdaaaGreatDoor
set_option linter.unusedSimpArgs false
set_option linter.unusedVariables false
open Go.ChangeShapes Go.WideShapes Go.ChangeAt Go.RowKit
set_option maxRecDepth 100000

theorem own_knob : ownKnob Tryz.prog.godebug = none := by kernel_rfl
theorem et_at : Tryz.prog.globalNamed "errors.errorType" = some 3 := by kernel_rfl
theorem one_row : ((List.range Tryz.prog.types.size).filter fun t => Tryz.prog.rowNamed t [101, 114, 114, 111, 114]) = [76] := by kernel_rfl
def laidL : List (String × DataW Unit) := [("errors.errorType", Rows.laid_errors_errorType), ("hustings/head.bits", Rows.laid_hustings_head_bits), ("hustings/heard.errBad", Rows.laid_hustings_heard_errBad), ("hustings/heard.errPass", Rows.laid_hustings_heard_errPass)]

theorem laid_of {W : World} (h : laidMetH Tryz.prog laidL W) : Laid W := by
  have h' : laidMet Tryz.prog [("hustings/head.bits", Rows.laid_hustings_head_bits), ("hustings/heard.errBad", Rows.laid_hustings_heard_errBad), ("hustings/heard.errPass", Rows.laid_hustings_heard_errPass)] W ∧ handlesMet Tryz.prog [("errors.errorType", Rows.laid_errors_errorType)] W := h
  obtain ⟨name, u, ty, e1, e2, e3, e4, e5⟩ := h'.2 _ (List.mem_singleton.2 rfl)
  have en : name = [101, 114, 114, 111, 114] := (Option.some.inj e1).symm
  subst en
  obtain rfl : u = 198 := Option.some.inj (e2.symm.trans (by kernel_rfl))
  have hm : ty ∈ (List.range Tryz.prog.types.size).filter fun t => Tryz.prog.rowNamed t [101, 114, 114, 111, 114] := List.mem_filter.2 ⟨List.mem_range.2 e3, e4⟩
  rw [one_row] at hm
  obtain rfl := List.mem_singleton.1 hm
  have hh : typeHandle Tryz.prog 76 = hdl 76 := by kernel_rfl
  rw [hh] at e5
  show W.cell? ⟨3, 0, none⟩ = _
  simpa using World.var?_cell et_at e5 0

theorem bits_at : Tryz.prog.globalNamed "hustings/head.bits" = some 2 := by kernel_rfl
theorem one_cell {l : List Value} {i : Nat} {v : Value} (h : (l.drop i).take 1 = [v]) : l[i]? = some v := by
  have h1 := congrArg (fun x : List Value => x[0]?) h
  simpa using h1
def bitsL : List Int := [32768, 1024, 512, 256, 128, 64, 32, 16]
theorem laidbits_of {W : World} (h : laidMetH Tryz.prog laidL W) : BitsAt W := by
  have h' : laidMet Tryz.prog [("hustings/head.bits", Rows.laid_hustings_head_bits), ("hustings/heard.errBad", Rows.laid_hustings_heard_errBad), ("hustings/heard.errPass", Rows.laid_hustings_heard_errPass)] W ∧ handlesMet Tryz.prog [("errors.errorType", Rows.laid_errors_errorType)] W := h
  obtain ⟨ps, hlv, _, _⟩ := h'.1
  obtain ⟨g, t, cs, fuel, p, q, e1, e2, e3, e4, _, _⟩ := hlv
  obtain rfl : 2 = g := Option.some.inj (bits_at.symm.trans e1)
  obtain rfl : 258 = t := Option.some.inj ((show (Tryz.prog.globals[2]?).map (·.type) = some 258 by kernel_rfl).symm.trans e2)
  obtain ⟨xs, n, _, hd, _, hlen, hf⟩ := DataW.trod_array Tryz.underlying258 e4
  have hd1 := (Prod.mk.inj hd).1
  have key : ∀ i, i < 8 → cs.toList[i]? = some (.int .u16 (bitsL.getD i 0)) := fun i hi => by
    have hx : (xs.map (·.1))[i]? = some (.lit (.int .u16 (bitsL.getD i 0))) := by
      have h1 : xs.map (·.1) = bitsL.map fun k => (.lit (.int .u16 k) : DataW Unit) := by
        injection hd1 with h1
        exact h1.symm
      rw [h1, List.getElem?_map, List.getElem?_eq_getElem (show i < bitsL.length from hi)]
      simp [List.getD, List.getElem?_eq_getElem (show i < bitsL.length from hi)]
    rw [List.getElem?_map] at hx
    obtain ⟨y, hy1, hy2⟩ := Option.map_eq_some_iff.1 hx
    have h2 := (hf i hi).trans hy1
    rw [show Tryz.prog.cellsOf 22 = 1 by kernel_rfl, Nat.mul_one] at h2
    obtain ⟨m, g1, g2, _⟩ := DataW.trod_int Tryz.underlying22 h2
    rw [g2] at hy2
    have hm : m = bitsL.getD i 0 := by
      injection hy2 with hy2
      injection hy2
    rw [← hm]
    exact one_cell g1
  have key2 : ∀ i, i < 8 → W.cell? ⟨2, i, none⟩ = some (.int .u16 (bitsL.getD i 0)) := fun i hi => by
    rw [World.var?_cell bits_at e3 i]
    simpa using key i hi
  exact ⟨key2 0 (by omega), key2 1 (by omega), key2 2 (by omega), key2 3 (by omega), key2 4 (by omega), key2 5 (by omega), key2 6 (by omega), key2 7 (by omega)⟩
theorem bad_at : Tryz.prog.globalNamed "hustings/heard.errBad" = some 0 := by kernel_rfl
theorem pass_at : Tryz.prog.globalNamed "hustings/heard.errPass" = some 1 := by kernel_rfl
theorem bad_type : (Tryz.prog.globals[0]?).map (·.type) = some 76 := by kernel_rfl
theorem pass_type : (Tryz.prog.globals[1]?).map (·.type) = some 76 := by kernel_rfl
theorem es_cells : Tryz.prog.cellsOf 341 = 1 := by kernel_rfl
theorem str_cells : Tryz.prog.cellsOf 9 = 1 := by kernel_rfl
theorem es_star : "*" ++ "errors.errorString" = "*errors.errorString" := by decide
theorem es_row (u : TypeId) (h : Tryz.prog.typeName? 3 u = some "*errors.errorString") : u = 322 :=
  typeName_ptr_named (nm := "errors.errorString") (by rw [es_star]; kernel_rfl) (by kernel_rfl) (by decide) u (by rw [es_star]; exact h)
theorem errs_of {W : World} (h : laidMetH Tryz.prog laidL W) : ∃ a b, ErrsAt W a b := by
  have h' : laidMet Tryz.prog [("hustings/head.bits", Rows.laid_hustings_head_bits), ("hustings/heard.errBad", Rows.laid_hustings_heard_errBad), ("hustings/heard.errPass", Rows.laid_hustings_heard_errPass)] W ∧ handlesMet Tryz.prog [("errors.errorType", Rows.laid_errors_errorType)] W := h
  have h2 : laidMet Tryz.prog [("hustings/heard.errBad", Rows.laid_hustings_heard_errBad), ("hustings/heard.errPass", Rows.laid_hustings_heard_errPass)] W := h'.1.filter (fun x => x.1 != "hustings/head.bits")
  obtain ⟨a0, a1, s0, s1, c0, c1, t0, t1, hv0, hv1, _, _, _, _, _, _, hne, hb0, hb1⟩ := laid_sentinels2 h2 bad_at bad_type pass_at pass_type Tryz.underlying76 es_row Tryz.underlying322 Tryz.underlying341 rfl rfl Tryz.underlying9 es_cells str_cells
  exact ⟨a0, a1, by simpa using World.var?_cell bad_at hv0 0, by simpa using World.var?_cell pass_at hv1 0, ⟨_, _, hb0⟩, ⟨_, _, hb1⟩, hne⟩
abbrev badS : ByteArray := { data := #[116, 104, 101, 32, 114, 101, 112, 108, 121, 32, 105, 115, 32, 98, 97, 100] }
abbrev passS : ByteArray := { data := #[116, 104, 101, 32, 114, 101, 112, 108, 121, 32, 105, 115, 32, 97, 32, 112, 97, 115, 115] }
noncomputable def low24 : Nat := (World.holding Tryz.prog default ⟨#[], #[], []⟩).heap.size
noncomputable def laidWorld (os : Os) : World :=
  let w0 := World.holding Tryz.prog os ⟨#[.cells #[.string badS] 341, .cells #[.string passS] 341], #[], []⟩
  { w0 with heap := (((w0.heap.modify 3 fun
      | .cells _ t frozen => .cells #[errTy] t frozen
      | o => o).modify 2 fun
      | .cells _ t frozen => .cells #[.int .u16 32768, .int .u16 1024, .int .u16 512, .int .u16 256, .int .u16 128, .int .u16 64, .int .u16 32, .int .u16 16] t frozen
      | o => o).modify 0 fun
      | .cells _ t frozen => .cells #[.iface 322 (.pointer (some ⟨low24, 0, none⟩))] t frozen
      | o => o).modify 1 fun
      | .cells _ t frozen => .cells #[.iface 322 (.pointer (some ⟨low24 + 1, 0, none⟩))] t frozen
      | o => o }
theorem laid_met (os : Os) (args : Array Value) : laidMetH Tryz.prog laidL ((laidWorld os).forCall (fun _ _ => 0) ⟨#[], args, []⟩).memory :=
  laidMetH_of_parts (laidMet_of_run' 8 (by kernel_rfl) (by kernel_rfl)) (by kernel_rfl)

section
variable {H : Type} {enc : TypeId × Value → H} {P : Program}
theorem trodAll_stays (hl : laidOutB P = true) {W W' : World} (hb : Below W.heap.size W W') {sp : Nat → Bool} : ∀ {ts : List TypeId} {vs : List Value} {ds : List (DataW H)} {ps : List MemPlace},
    (∀ t ∈ ts, P.readableRec t = true ∧ t < P.types.size) → DataW.TrodAll enc P W 0 (fun _ => true) true ts vs ds ps → (∀ x ∈ ps, x.block < W.heap.size) → (∀ x ∈ ps, sp x.block = true) → DataW.TrodAll enc P W' 0 sp true ts vs ds ps
  | [], _, _, _, _, h, _, _ => by obtain ⟨rfl, rfl, rfl⟩ := trodAll_nil h; exact trodAll_mk0
  | t :: ts, _, _, _, ht, h, hlt, hs => by
    obtain ⟨v, vs, d, ds, p, q, rfl, rfl, rfl, h0, h1⟩ := trodAll_cons h
    have h2 := ht t (by simp)
    exact trodAll_cons_mk (WideElems.Trod_stays hl h2.1 h2.2 h0 (fun x hx => hb.same (hlt x (by simp [hx]))) (fun x hx => hs x (by simp [hx])))
      (trodAll_stays hl hb (fun t ht' => ht t (by simp [ht'])) h1 (fun x hx => hlt x (by simp [hx])) (fun x hx => hs x (by simp [hx])))
theorem post_of_below {f : Func} {s : ChangeSpec} {apart fresh handsOn again : Bool} {W W' : World} {args : Array Value} {v : Value} {ds gs : List (DataW H)} {before pa pv : List MemPlace}
    (hW : DataW.Whole enc P f.params.toList s.vars apart W args.toList ds gs before)
    (hres : ∀ (b : Nat) (sp : Nat → Bool) (hd : Bool), DataW.TrodAll enc P W' b sp hd f.resultTypes.toList (v.resultList f.resultTypes.size) (s.fn H (ds ++ gs)).results [])
    (hargs : ∀ sp : Nat → Bool, (∀ p ∈ before, sp p.block = true) → DataW.TrodAll enc P W' 0 sp true f.params.toList args.toList (s.fn H (ds ++ gs)).args pa)
    (hvars : ∀ sp : Nat → Bool, (∀ p ∈ before, sp p.block = true) → DataW.TrodVars enc P W' sp s.vars (s.fn H (ds ++ gs)).vars pv)
    (hps : before = pa ++ pv) (hb : Below W.heap.size W W')
    (hok : ∀ (j : Nat) (t : TypeId) (r : Value), f.resultTypes[j]? = some t → (v.resultList f.resultTypes.size)[j]? = some r → Value.okWide P W' .any 0 t r) :
    s.post enc P f apart fresh handsOn again W args v W' := by
  have hlt : ∀ p ∈ before, p.block < W.heap.size := fun p hp => hW.lt p hp
  have hold : ∀ p ∈ before, (fun b => decide (b < W.heap.size)) p.block = true := fun p hp => by simpa using hlt p hp
  refine ⟨ds, gs, before, [], pa, pv, hW, hres _ _ _, hargs _ hold, hvars _ hold, World.keptBut_mono (fun p hp => ⟨hp, ?_⟩) (hb.frame (· ∈ before)), fun _ => ?_⟩
  · rw [hps, List.mem_append] at hp
    exact Or.inr hp
  · obtain ⟨_, _, _, _, _, hz, hn⟩ := hW
    refine ⟨hok, _, _, ([] ++ pa) ++ pv, ⟨[] ++ pa, pv, trodAll_append (hargs _ (fun _ _ => rfl)) (hres _ _ _), hvars _ (fun _ _ => rfl), rfl, ?_, ?_⟩, ?_⟩
    · intro b off hp
      have hin : MemPlace.cell b off ∈ before := by rw [hps]; simpa using hp
      rw [hb.frozen (hlt _ hin)]
      exact hz b off hin
    · intro ha
      have := hn ha
      rw [hps] at this
      simpa using this
    · intro p hp _
      rw [hps]
      simpa using hp
/-- A law that returns true and only makes memory: its post. -/
theorem post_true {f : Func} {s : ChangeSpec} {apart fresh handsOn again : Bool} {W W' : World} {args : Array Value} {ds gs : List (DataW H)} {before : List MemPlace} {t : TypeId}
    (hl : laidOutB P = true) (hvn : s.vars = []) (hr : f.resultTypes = #[t]) (ht : P.underlying t = some .bool)
    (hp : ∀ t ∈ f.params.toList, P.readableRec t = true ∧ t < P.types.size)
    (hW : DataW.Whole enc P f.params.toList s.vars apart W args.toList ds gs before)
    (hfn : s.fn H ds = { results := [.lit (.bool true)], args := ds }) (hb : Ext W W') :
    s.post enc P f apart fresh handsOn again W args (.bool true) W' := by
  have hW' := hW
  obtain ⟨p, q, hA, hV, rfl, _, _⟩ := hW
  rw [hvn] at hV
  obtain ⟨rfl, rfl⟩ := trodVars_none hV
  have hlt : ∀ x ∈ p, x.block < W.heap.size := fun x hx => by simpa using hW'.lt x (by simp [hx])
  refine post_of_below (pa := p) (pv := []) hW' (fun _ _ _ => ?_) (fun sp hs => ?_) (fun _ _ => ?_) rfl hb (ok_one hr rfl (okWide_bool_mk ht _))
  · rw [List.append_nil, hfn, hr]; exact trodAll_mk1 (shut_bool ht true)
  · rw [List.append_nil, hfn]; exact trodAll_stays hl hb hp hA hlt (fun x hx => hs x (by simp [hx]))
  · rw [List.append_nil, hfn, hvn]; rfl
end
theorem laid_out : laidOutB Tryz.prog = true := by kernel_rfl
end Go.Proofs.YtfjfmnnjempdaaaGreatDoor
namespace Go.Proofs.YtfjfmnnjempdaaaGreatDoor
set_option linter.unusedSimpArgs false
set_option linter.unusedVariables false
open Go.RowKit
set_option maxRecDepth 100000
set_option maxHeartbeats 4000000 in
theorem ref16_equal (xn : List UInt8) (xt xc : Int) (n : List UInt8) (ty cls : Int) (w : World) (hx : xn.length ≤ 1048576) (hn : n.length ≤ 1048576) :
    Calls Tryz.prog 20 #[.agg #[S xn, .int .u16 xt, .int .u16 xc], .agg #[S n, .int .u16 ty, .int .u16 cls]] w fun e w' => e = .returned (.bool (sameN xn n && (decide (xt = ty) && decide (xc = cls)))) ∧ Ext w w' := by
  obtain ⟨X1, hX1⟩ : ∃ X1, X1 = w.alloc (.cells #[S xn, .int .u16 xt, .int .u16 xc] 24) := ⟨_, rfl⟩
  obtain ⟨X0, hX0⟩ : ∃ X0, X0 = X1.alloc (.cells #[S n, .int .u16 ty, .int .u16 cls] 24) := ⟨_, rfl⟩
  obtain ⟨g1, hg1⟩ : ∃ g1, g1 = X1.heap.size := ⟨_, rfl⟩
  have r1 : X1.heap[w.heap.size]? = some (.cells #[S xn, .int .u16 xt, .int .u16 xc] 24) := by rw [hX1]; exact heap_alloc_new _ _
  have r0 : X0.heap[g1]? = some (.cells #[S n, .int .u16 ty, .int .u16 cls] 24) := by rw [hX0, hg1]; exact heap_alloc_new _ _
  have hE01 : Ext X1 X0 := by rw [hX0]; exact (Ext.refl _).alloc _
  have hE0 : Ext w X0 := Ext.trans (by rw [hX1]; exact (Ext.refl _).alloc _) hE01
  have r10 := (hE01.block _ (Array.getElem?_eq_some_iff.1 r1).1).trans r1
  have hsz : w.heap.size + 1 = g1 := by rw [hg1, hX1]; simp
  have HSz := Lib.hid hsz
  have HNs := Lib.hid (fun V => ref_same xn n V hx hn)
  clear hsz
  go_enter Tryz.func20, Tryz.ntmps20
  go_upto_region 1 with fail
  rw [← hX1, ← hX0]
  have e1 : (w.heap.size + 1) = g1 := HSz.out
  try rw [e1]
  try rw [← hg1]
  clear e1 hX1 hX0 hg1 hE01
  have p0 := box_cell (j := 0) r10 rfl
  have y0 := box_cell (j := 0) r0 rfl
  obtain ⟨sm, hsm⟩ : ∃ sm, sm = sameN xn n := ⟨_, rfl⟩
  have HSm := Lib.hid hsm
  rw [← hsm] at HNs
  clear hsm
  go_wp2_with fail
  refine (HNs.out _).mono ?_
  rintro e w1 ⟨rfl, hE1⟩
  clear y0 p0
  have r03 := (hE1.block _ (Array.getElem?_eq_some_iff.1 r0).1).trans r0
  have r3 := (hE1.block _ (Array.getElem?_eq_some_iff.1 r10).1).trans r10
  have y1 := box_cell (j := 1) r03 rfl
  have y2 := box_cell (j := 2) r03 rfl
  have p1 := box_cell (j := 1) r3 rfl
  have p2 := box_cell (j := 2) r3 rfl
  have hEw : Ext w w1 := hE0.trans hE1
  rcases sm with _ | _
  · go_wp2_with fail
    go_ret
    exact ⟨by rw [← HSm.out]; rfl, hEw⟩
  by_cases ht : xt = ty
  · have ht1 : (xt == ty) = true := by rw [ht]; exact beq_self_eq_true _
    by_cases hc : xc = cls
    · have hc1 : (xc == cls) = true := by rw [hc]; exact beq_self_eq_true _
      have hBv := Lib.hid (show (sameN xn n && (decide (xt = ty) && decide (xc = cls))) = true from by rw [← HSm.out, decide_eq_true ht, decide_eq_true hc]; rfl)
      clear ht hc
      go_wp2_with fail
      go_ret
      exact ⟨by rw [hBv.out]; rfl, hEw⟩
    · have hc1 : (xc == cls) = false := by rw [beq_eq_false_iff_ne]; exact hc
      have hBv := Lib.hid (show (sameN xn n && (decide (xt = ty) && decide (xc = cls))) = false from by rw [← HSm.out, decide_eq_false hc]; cases decide (xt = ty) <;> rfl)
      clear ht hc
      go_wp2_with fail
      go_ret
      exact ⟨by rw [hBv.out]; rfl, hEw⟩
  · have ht1 : (xt == ty) = false := by rw [beq_eq_false_iff_ne]; exact ht
    have hBv := Lib.hid (show (sameN xn n && (decide (xt = ty) && decide (xc = cls))) = false from by rw [← HSm.out, decide_eq_false ht]; rfl)
    clear ht
    go_wp2_with fail
    go_ret
    exact ⟨by rw [hBv.out]; rfl, hEw⟩
set_option maxHeartbeats 4000000 in
theorem ref16_sameV (c : Int) (sets soa : List SetD) (sA sB oA oB : Option Addr) (sn sm on om sc sd oc od : Nat) (w : World) (h1 : Sets w 0 (.slice sA sn sc) sets) (h2 : Sets w 0 (.slice sB sm sd) sets) (h3 : Sets w 0 (.slice oA on oc) soa) (h4 : Sets w 0 (.slice oB om od) soa) :
    Calls Tryz.prog 36 #[.agg #[.int .u8 c, .slice sA sn sc, .slice oA on oc], .agg #[.int .u8 c, .slice sB sm sd, .slice oB om od]] w fun e w' => e = .returned (.bool true) ∧ Ext w w' := by
  obtain ⟨X1, hX1⟩ : ∃ X1, X1 = w.alloc (.cells #[.int .u8 c, .slice sA sn sc, .slice oA on oc] 32) := ⟨_, rfl⟩
  obtain ⟨X0, hX0⟩ : ∃ X0, X0 = X1.alloc (.cells #[.int .u8 c, .slice sB sm sd, .slice oB om od] 32) := ⟨_, rfl⟩
  obtain ⟨g1, hg1⟩ : ∃ g1, g1 = X1.heap.size := ⟨_, rfl⟩
  have r1 : X1.heap[w.heap.size]? = some (.cells #[.int .u8 c, .slice sA sn sc, .slice oA on oc] 32) := by rw [hX1]; exact heap_alloc_new _ _
  have r0 : X0.heap[g1]? = some (.cells #[.int .u8 c, .slice sB sm sd, .slice oB om od] 32) := by rw [hX0, hg1]; exact heap_alloc_new _ _
  have hE01 : Ext X1 X0 := by rw [hX0]; exact (Ext.refl _).alloc _
  have hE0 : Ext w X0 := Ext.trans (by rw [hX1]; exact (Ext.refl _).alloc _) hE01
  have r10 := (hE01.block _ (Array.getElem?_eq_some_iff.1 r1).1).trans r1
  have hsz : w.heap.size + 1 = g1 := by rw [hg1, hX1]; simp
  have HSz := Lib.hid hsz
  have HS1 := Lib.hid (fun V (hV : Ext w V) => ref_sameAll sets sets _ _ 0 0 V (h1.ext hV) (h2.ext hV))
  have HS2 := Lib.hid (fun V (hV : Ext w V) => ref_sameAll soa soa _ _ 0 0 V (h3.ext hV) (h4.ext hV))
  rw [decide_eq_true (show sets = sets from rfl)] at HS1
  rw [decide_eq_true (show soa = soa from rfl)] at HS2
  clear hsz
  go_enter Tryz.func36, Tryz.ntmps36
  go_upto_region 1 with fail
  rw [← hX1, ← hX0]
  have e1 : (w.heap.size + 1) = g1 := HSz.out
  try rw [e1]
  try rw [← hg1]
  clear e1 hX1 hX0 hg1 hE01
  have p0 := box_cell (j := 0) r10 rfl
  have p1 := box_cell (j := 1) r10 rfl
  have y0 := box_cell (j := 0) r0 rfl
  have y1 := box_cell (j := 1) r0 rfl
  go_wp2_with fail
  refine (HS1.out _ hE0).mono ?_
  rintro e w1 ⟨rfl, hE1⟩
  clear y0 p0 y1 p1
  have r03 := (hE1.block _ (Array.getElem?_eq_some_iff.1 r0).1).trans r0
  have r3 := (hE1.block _ (Array.getElem?_eq_some_iff.1 r10).1).trans r10
  have y2 := box_cell (j := 2) r03 rfl
  have p2 := box_cell (j := 2) r3 rfl
  go_wp2_with fail
  refine (HS2.out _ (hE0.trans hE1)).mono ?_
  rintro e w2 ⟨rfl, hE2⟩
  go_wp2_with fail
  go_ret
  exact ⟨rfl, (hE0.trans hE1).trans hE2⟩
set_option maxHeartbeats 4000000 in
theorem ref24_same (k c t : Int) (sets soa : List SetD) (sA sB oA oB : Option Addr) (sn sm on om sc sd oc od : Nat) (w : World) (h1 : Sets w 0 (.slice sA sn sc) sets) (h2 : Sets w 0 (.slice sB sm sd) sets) (h3 : Sets w 0 (.slice oA on oc) soa) (h4 : Sets w 0 (.slice oB om od) soa) :
    Calls Tryz.prog 15 #[.agg #[.int .u8 k, .int .u8 c, .slice sA sn sc, .slice oA on oc, .int .u32 t], .agg #[.int .u8 k, .int .u8 c, .slice sB sm sd, .slice oB om od, .int .u32 t]] w fun e w' => e = .returned (.bool true) ∧ Ext w w' := by
  obtain ⟨X1, hX1⟩ : ∃ X1, X1 = w.alloc (.cells #[.int .u8 k, .int .u8 c, .slice sA sn sc, .slice oA on oc, .int .u32 t] 35) := ⟨_, rfl⟩
  obtain ⟨X0, hX0⟩ : ∃ X0, X0 = X1.alloc (.cells #[.int .u8 k, .int .u8 c, .slice sB sm sd, .slice oB om od, .int .u32 t] 35) := ⟨_, rfl⟩
  obtain ⟨g1, hg1⟩ : ∃ g1, g1 = X1.heap.size := ⟨_, rfl⟩
  have r1 : X1.heap[w.heap.size]? = some (.cells #[.int .u8 k, .int .u8 c, .slice sA sn sc, .slice oA on oc, .int .u32 t] 35) := by rw [hX1]; exact heap_alloc_new _ _
  have r0 : X0.heap[g1]? = some (.cells #[.int .u8 k, .int .u8 c, .slice sB sm sd, .slice oB om od, .int .u32 t] 35) := by rw [hX0, hg1]; exact heap_alloc_new _ _
  have hE01 : Ext X1 X0 := by rw [hX0]; exact (Ext.refl _).alloc _
  have hE0 : Ext w X0 := Ext.trans (by rw [hX1]; exact (Ext.refl _).alloc _) hE01
  have r10 := (hE01.block _ (Array.getElem?_eq_some_iff.1 r1).1).trans r1
  have hsz : w.heap.size + 1 = g1 := by rw [hg1, hX1]; simp
  have HSz := Lib.hid hsz
  have HS1 := Lib.hid (ref16_sameV c sets soa sA sB oA oB sn sm on om sc sd oc od X0 (h1.ext hE0) (h2.ext hE0) (h3.ext hE0) (h4.ext hE0))
  clear hsz
  go_enter Tryz.func15, Tryz.ntmps15
  go_upto_region 1 with fail
  rw [← hX1, ← hX0]
  have e1 : (w.heap.size + 1) = g1 := HSz.out
  try rw [e1]
  try rw [← hg1]
  clear e1 hX1 hX0 hg1 hE01
  have p0 := box_cell (j := 0) r10 rfl
  have p1 := box_cell (j := 1) r10 rfl
  have p2 := box_cell (j := 2) r10 rfl
  have p3 := box_cell (j := 3) r10 rfl
  have p4 := box_cell (j := 4) r10 rfl
  have y0 := box_cell (j := 0) r0 rfl
  have y1 := box_cell (j := 1) r0 rfl
  have y2 := box_cell (j := 2) r0 rfl
  have y3 := box_cell (j := 3) r0 rfl
  have y4 := box_cell (j := 4) r0 rfl
  go_wp2_with fail
  refine HS1.out.mono ?_
  rintro e w1 ⟨rfl, hE1⟩
  go_wp2_with fail
  go_ret
  exact ⟨rfl, hE0.trans hE1⟩
end Go.Proofs.YtfjfmnnjempdaaaGreatDoor
namespace Go.Proofs.YtfjfmnnjempdaaaGreatDoor
set_option linter.unusedSimpArgs false
set_option linter.unusedVariables false
open Go.RowKit
set_option maxRecDepth 100000
/-- Is it a reply to just that question? -/
def itsB (m : MsgD) (n : List UInt8) (ty cls : Int) : Bool := m.hd.qr && (decide (m.hd.op = 0) && asksB m n ty cls)
theorem its_iff {m : MsgD} {n : List UInt8} {ty cls : Int} : itsB m n ty cls = true ↔ m.hd.qr = true ∧ m.hd.op = 0 ∧ asksB m n ty cls = true := by
  unfold itsB
  simp only [Bool.and_eq_true, decide_eq_true_eq]
theorem asks_one {m : MsgD} {x : QD} {n : List UInt8} {ty cls : Int} (h : m.qs = [x]) : asksB m n ty cls = (sameN x.name n && (decide (x.typ = ty) && decide (x.cls = cls))) := by unfold asksB; rw [h]
theorem asks_not {m : MsgD} {n : List UInt8} {ty cls : Int} (h : ¬ m.qs.length = 1) : asksB m n ty cls = false := by
  unfold asksB
  split
  · rename_i y hy; rw [hy] at h; exact absurd rfl h
  · rfl
theorem keep5 {X V : World} {g : Nat} {a b c d e : Value} {t : TypeId} (hE : Ext X V) (r : X.heap[g]? = some (.cells #[a, b, c, d, e] t)) : V.cell? ⟨g, 0, none⟩ = some a ∧ V.cell? ⟨g, 1, none⟩ = some b ∧ V.cell? ⟨g, 2, none⟩ = some c ∧ V.cell? ⟨g, 3, none⟩ = some d ∧ V.cell? ⟨g, 4, none⟩ = some e := by
  have h := (hE.block _ (Array.getElem?_eq_some_iff.1 r).1).trans r
  exact ⟨box_cell h rfl, box_cell h rfl, box_cell h rfl, box_cell h rfl, box_cell h rfl⟩
def zeroX : MsgX := ⟨0, false, 0, false, false, false, false, false, false, false, none, 0, 0, none, 0, 0, false, 0, 0, 0, 0, none, 0, 0⟩
theorem recs_nil24 (w : World) : Recs w 0 (.slice none (([] : List RecD).length) 0) [] := ⟨none, 0, rfl, Nat.le_refl _, by unfold maxLen; omega, rfl, fun h => absurd h (by decide)⟩
theorem Sets.lower24 {w : World} {lo lo' : Nat} {v : Value} {l : List SetD} (h : Sets w lo v l) (hl : lo' ≤ lo) : Sets w lo' v l := by
  obtain ⟨ps, A, c, h1, h2, h3, h4, h5, h6⟩ := h
  exact ⟨ps, A, c, h1, h2, h3, h4, h5.lower hl, fun p hp => (h6 p hp).lower hl⟩
theorem sets_nil24 (w : World) : Sets w 0 (.slice none 0 0) [] := ⟨[], none, 0, rfl, rfl, Nat.le_refl _, Nat.zero_le _, ⟨rfl, fun h => absurd h (Nat.lt_irrefl _)⟩, fun p hp => by cases hp⟩
set_option maxHeartbeats 16000000 in
theorem law24_votes_err (n d : List UInt8) (ty cls : Int) (a b : Addr) (w : World) (hg : Laid w) (hb : BitsAt w) (he : ErrsAt w a b) (hn : n.length ≤ 3000) (hd : d.length ≤ 3000) {k : Nat} (hdec : decR d = .error k) :
    Calls Tryz.prog 6 #[.agg #[S n, .int .u16 ty, .int .u16 cls], S d] w fun e w' => e = .returned (.bool true) ∧ Ext w w' := by
  have HAw := Lib.hid (fun V (hV : Ext w V) => law24_awake a b V (hg.ext hV) (hb.ext hV) (he.ext hV))
  obtain ⟨X0, hX0⟩ : ∃ X0, X0 = w.alloc (.cells #[S n, .int .u16 ty, .int .u16 cls] 24) := ⟨_, rfl⟩
  obtain ⟨g3, hg3⟩ : ∃ g3, g3 = w.heap.size := ⟨_, rfl⟩
  have r0 : X0.heap[g3]? = some (.cells #[S n, .int .u16 ty, .int .u16 cls] 24) := by rw [hX0, hg3]; exact heap_alloc_new _ _
  have hE0 : Ext w X0 := by rw [hX0]; exact (Ext.refl _).alloc _
  go_enter Tryz.func6, Tryz.ntmps6
  go_upto_region 1 with fail
  rw [← hX0, ← hg3]
  clear hX0 hg3
  have k0 := box_cell (j := 0) r0 rfl
  have k1 := box_cell (j := 1) r0 rfl
  have k2 := box_cell (j := 2) r0 rfl
  have hni : ¬ (3000 : Int) < (n.length : Int) := by omega
  have hdi : ¬ (3000 : Int) < (d.length : Int) := by omega
  have Hdec := Lib.hid hdec
  have HR := Lib.hid (show replyOf d n ty cls = .bad from by unfold replyOf; rw [hdec])
  clear hdec
  go_wp2_with fail
  refine (HAw.out _ hE0).mono ?_
  rintro e w1 ⟨rfl, hE1⟩
  have rq := (hE1.block _ (Array.getElem?_eq_some_iff.1 r0).1).trans r0
  have hw1 : Ext w w1 := hE0.trans hE1
  clear k0 k1 k2
  have k0 := box_cell (j := 0) rq rfl
  have k1 := box_cell (j := 1) rq rfl
  have k2 := box_cell (j := 2) rq rfl
  have HLk := Lib.hid (heard_look d n ty cls a b w1 (hg.ext hw1) (hb.ext hw1) (he.ext hw1) (by omega) (by omega))
  rw [HR.out] at HLk
  unfold LookH at HLk
  go_upto_region 4 with (first | (go_at_call 14; refine HLk.out.mono ?_; rintro e w3 ⟨vs, vo, rfl, hs, ho, _, hE3⟩; have Hs := Lib.hid hs; have Ho := Lib.hid ho; obtain ⟨ps, pA, pc, hps, rfl, _, _⟩ := hs; obtain ⟨po, tA, tc, hpo, rfl, _, _⟩ := ho) | fail)
  obtain rfl : ps = [] := List.map_eq_nil_iff.1 hps
  obtain rfl : po = [] := List.map_eq_nil_iff.1 hpo
  dsimp only [ReplyD.bad, ReplyD.pass, VerR.bad, List.length_nil] at Hs Ho ⊢
  obtain ⟨W3, hW3⟩ : ∃ W3, W3 = w3.alloc (.cells #[.int .u8 1, .int .u8 0, .slice pA 0 pc, .slice tA 0 tc, .int .u32 0] 37) := ⟨_, rfl⟩
  obtain ⟨b5, hb5⟩ : ∃ b5, b5 = w3.heap.size := ⟨_, rfl⟩
  have rX : W3.heap[b5]? = some (.cells #[.int .u8 1, .int .u8 0, .slice pA 0 pc, .slice tA 0 tc, .int .u32 0] 37) := by rw [hW3, hb5]; exact heap_alloc_new _ _
  have hE34 : Ext w3 W3 := by rw [hW3]; exact (Ext.refl _).alloc _
  rw [← hW3, ← hb5]
  clear hW3 hb5 hps hpo k0 k1 k2
  have hw3 : Ext w W3 := (hw1.trans hE3).trans hE34
  have rq := ((hE3.trans hE34).block _ (Array.getElem?_eq_some_iff.1 rq).1).trans rq
  have HD := Lib.hid (wire_decode d W3 (hg.ext hw3) (hb.ext hw3) (by omega))
  go_wp2_with fail
  refine HD.out.mono ?_
  rintro e Y ⟨hor, hEd⟩
  rcases hor with ⟨k, hk, hx, rfl⟩ | ⟨m, q, a', u, x, o, hm', rfl, hMO, hBd⟩
  case inr => rw [Hdec.out] at hm'; cases hm'
  have hk1 : ((k : Int) == 0) = false := by rw [beq_eq_false_iff_ne]; omega
  clear hx hk
  generalize (k : Int) = z at *
  have hk2 : ¬ z = 0 := by rw [beq_eq_false_iff_ne] at hk1; exact hk1
  have hk3 : decide (z = 0) = false := decide_eq_false hk2
  dsimp only
  iterate 10 go_step
  obtain ⟨g7, hg7⟩ : ∃ g7, g7 = Y.heap.size := ⟨_, rfl⟩
  have hz : (Y.alloc (.cells msgZ 56)).heap[g7]? = some (.cells msgZ 56) := by rw [hg7]; exact heap_alloc_new _ _
  refine Go.Great.wpList_allocTo rfl (some 6) rfl (.pointer (some ⟨Y.heap.size, 0, none⟩)) (.cells msgZ 56) (by kernel_rfl) ?_
  rw [← hg7]
  refine Go.wpList_store_rowTo rfl 56 (.tmp 6) (.tmp 33) rfl rfl g7 msgZ rfl rfl 56 _ hz (by kernel_rfl) rfl (by kernel_rfl) ?_
  rw [alloc_setRowH Y msgZ msgZ 56 g7 hg7]
  iterate 3 go_step
  refine wpList_nil ?_
  rw [← hg7]
  have r7 : (Y.alloc (.cells msgZ 56)).heap[g7]? = some (.cells msgZ 56) := by rw [hg7]; exact heap_alloc_new _ _
  have hEY : Ext Y (Y.alloc (.cells msgZ 56)) := (Ext.refl _).alloc _
  obtain ⟨Z, hZ⟩ : ∃ Z, Z = Y.alloc (.cells msgZ 56) := ⟨_, rfl⟩
  rw [← hZ] at r7 hEY ⊢
  have hEZ : Ext w Z := hw3.trans (hEd.trans hEY)
  clear hZ hz hg7
  have rq := ((hEd.trans hEY).block _ (Array.getElem?_eq_some_iff.1 rq).1).trans rq
  have rX := ((hEd.trans hEY).block _ (Array.getElem?_eq_some_iff.1 rX).1).trans rX
  have hX3 : Ext w3 Z := hE34.trans (hEd.trans hEY)
  have HVo := Lib.hid (fun V (hV : Ext Z V) => ver_of zeroX n ty cls 0 0 none 0 none 0 [] [] V (hg.ext (hEZ.trans hV)) (recs_nil24 V) (recs_nil24 V) ⟨by simp, fun r hr => by cases hr⟩ ⟨by simp, fun r hr => by cases hr⟩ (fun r hr => by cases hr) (fun r hr => by cases hr) (by omega))
  go_upto_region 5 with fail
  go_cut [8] (fun s8 wx => s8 = .bool false ∧ Ext Z wx)
  case first =>
    have HS5 := Lib.hid (fun V (hV : Ext Z V) => trivial)
    refine wp_region_noPanic ?_
    refine wp_region_tree (S := (fun _ => True)) (.take 0 (.take 1 (.take 2 (.take 3 (.take 4 (.take 5 (.take 6 (.take 7 (.take 8 (.take 9 (.take 10 (.take 11 (.take 12 (.take 13 (.take 14 (.take 15 (.take 16 (.take 17 (.take 18 (.take 19 (.take 20 (.take 21 (.take 22 (.take 23 (.take 24 (.take 25 (.take 26 (.take 27 (.done))))))))))))))))))))))))))))) (by kernel_rfl) (by kernel_rfl) (fun _ _ _ _ _ h => h) (trivial) ?_
    repeat ((with_reducible refine treeIs ?_); first
      | (refine treeTakeX (a' := ?_) ⟨Z, trivial⟩ (by rfl) rfl (by kernel_rfl) rfl ?_ ?_; rotate_left; (focus (intro V Q' hV hq; (repeat (first | go_guarded | go_skip | go_step)); (first | exact hq | exact wpList_nil hq))))
      | (refine treeSkip (by rfl) (by rfl) ?_; (try simp only [Act.put, List.setIfInBounds_toArray, List.set_cons_zero, List.set_cons_succ])))
    refine treeDone ?_
    refine NoPanic.normal ?_
    (try go_wp2_with fail)
    go_meet
    exact ⟨rfl, (Ext.refl Z).drew⟩
  case rest =>
    obtain ⟨rfl, hE5⟩ := hcut
    obtain ⟨W5, rfl⟩ : ∃ W5 : World, W5 = wc := ⟨_, rfl⟩
    have r76 := (hE5.block _ (Array.getElem?_eq_some_iff.1 r7).1).trans r7
    have rX6 := (hE5.block _ (Array.getElem?_eq_some_iff.1 rX).1).trans rX
    obtain ⟨k0, k1, k2⟩ := keepQ hE5 rq
    have c10 := box_cell (j := 10) r76 rfl
    have c17 := box_cell (j := 17) r76 rfl
    change W5.cell? ⟨g7, 10, none⟩ = some (.int .u8 ((0 : Nat) : Int)) at c10
    change W5.cell? ⟨g7, 17, none⟩ = some (.int .u8 ((0 : Nat) : Int)) at c17
    have HCd := Lib.hid (fun V => edns_code7 0 0 V (by omega) (by omega))
    go_wp2_with fail
    refine (HCd.out _).mono ?_
    rintro e w6 ⟨rfl, hq6⟩
    rw [← hq6]
    clear hq6 c10 c17
    go_upto_region 8 with (first | (refine wpList_load_part (by rfl) 56 (.tmp 6) rfl g7 0 rfl msgZ.toList (row_all r76) _ Tryz.underlying56 rfl (by kernel_rfl) ?_) | (go_at_call 22; refine (HVo.out _ hE5).mono ?_; rintro e W7 ⟨us, uo, rfl, hus, huo, _, hE7⟩; have Hus := Lib.hid hus; have Huo := Lib.hid huo; obtain ⟨qs, yA, yc, hqs, rfl, _, _⟩ := hus; obtain ⟨qo', zA, zc, hqo, rfl, _, _⟩ := huo) | fail)
    obtain ⟨R, hRv⟩ : ∃ R, R = verOf n ty cls 0 [] [] := ⟨_, rfl⟩
    rw [← hRv] at Hus Huo hqs hqo ⊢
    have HRv := Lib.hid hRv
    obtain ⟨W8, hW8⟩ : ∃ W8, W8 = W7.alloc (.cells #[.int .u8 R.code, .slice yA qs.length yc, .slice zA qo'.length zc] 32) := ⟨_, rfl⟩
    obtain ⟨gv, hgv⟩ : ∃ gv, gv = W7.heap.size := ⟨_, rfl⟩
    have rv : W8.heap[gv]? = some (.cells #[.int .u8 R.code, .slice yA qs.length yc, .slice zA qo'.length zc] 32) := by rw [hW8, hgv]; exact heap_alloc_new _ _
    have hE78 : Ext W7 W8 := by rw [hW8]; exact (Ext.refl _).alloc _
    rw [← hW8, ← hgv]
    clear hW8 hgv hRv k0 k1 k2
    have hE58 := hE7.trans hE78
    have hEw8 : Ext w W8 := (hEZ.trans hE5).trans hE58
    have rX8 := (hE58.block _ (Array.getElem?_eq_some_iff.1 rX6).1).trans rX6
    have r78 := (hE58.block _ (Array.getElem?_eq_some_iff.1 r76).1).trans r76
    have x0 := box_cell (j := 0) rX8 rfl
    have x1 := box_cell (j := 1) rX8 rfl
    have x2 := box_cell (j := 2) rX8 rfl
    have x3 := box_cell (j := 3) rX8 rfl
    have x4 := box_cell (j := 4) rX8 rfl
    have hX8 : Ext w3 W8 := hX3.trans (hE5.trans hE58)
    go_wp2_with fail
    refine (ref24_same 1 0 0 [] [] _ _ _ _ _ _ _ _ _ _ _ _ _ ((Hs.out.sets.lower24 (Nat.zero_le _)).ext hX8) (sets_nil24 _) ((Ho.out.sets.lower24 (Nat.zero_le _)).ext hX8) (sets_nil24 _)).mono ?_
    rintro e wS ⟨rfl, hES⟩
    go_wp2_with fail
    go_ret
    exact ⟨rfl, hEw8.trans hES⟩
set_option maxHeartbeats 16000000 in
theorem law24_votes_not (n d : List UInt8) (ty cls : Int) (a b : Addr) (w : World) (hg : Laid w) (hb : BitsAt w) (he : ErrsAt w a b) (hn : n.length ≤ 3000) (hd : d.length ≤ 3000) {m : MsgD} (hdec : decR d = .ok m) (hits : itsB m n ty cls = false) :
    Calls Tryz.prog 6 #[.agg #[S n, .int .u16 ty, .int .u16 cls], S d] w fun e w' => e = .returned (.bool true) ∧ Ext w w' := by
  have HAw := Lib.hid (fun V (hV : Ext w V) => law24_awake a b V (hg.ext hV) (hb.ext hV) (he.ext hV))
  obtain ⟨X0, hX0⟩ : ∃ X0, X0 = w.alloc (.cells #[S n, .int .u16 ty, .int .u16 cls] 24) := ⟨_, rfl⟩
  obtain ⟨g3, hg3⟩ : ∃ g3, g3 = w.heap.size := ⟨_, rfl⟩
  have r0 : X0.heap[g3]? = some (.cells #[S n, .int .u16 ty, .int .u16 cls] 24) := by rw [hX0, hg3]; exact heap_alloc_new _ _
  have hE0 : Ext w X0 := by rw [hX0]; exact (Ext.refl _).alloc _
  go_enter Tryz.func6, Tryz.ntmps6
  go_upto_region 1 with fail
  rw [← hX0, ← hg3]
  clear hX0 hg3
  have k0 := box_cell (j := 0) r0 rfl
  have k1 := box_cell (j := 1) r0 rfl
  have k2 := box_cell (j := 2) r0 rfl
  have hni : ¬ (3000 : Int) < (n.length : Int) := by omega
  have hdi : ¬ (3000 : Int) < (d.length : Int) := by omega
  have Hdec := Lib.hid hdec
  have hRm : replyOf d n ty cls = replyM m n ty cls := by unfold replyOf; rw [hdec]
  have d1 := Lib.hid (decR_ok hdec).1
  have d4 := Lib.hid (decR_ok hdec).2.2.2.1
  have hcl := dec_code hdec
  have hfew := dec_few hdec
  obtain ⟨hsh1, hsh2⟩ := dec_short hdec
  clear hdec
  have Hits := Lib.hid hits
  have HR := Lib.hid (hRm.trans (replyM_not (fun hx => by rw [its_iff.2 hx] at hits; cases hits)))
  clear hits hRm
  go_wp2_with fail
  refine (HAw.out _ hE0).mono ?_
  rintro e w1 ⟨rfl, hE1⟩
  have rq := (hE1.block _ (Array.getElem?_eq_some_iff.1 r0).1).trans r0
  have hw1 : Ext w w1 := hE0.trans hE1
  clear k0 k1 k2
  have k0 := box_cell (j := 0) rq rfl
  have k1 := box_cell (j := 1) rq rfl
  have k2 := box_cell (j := 2) rq rfl
  have HLk := Lib.hid (heard_look d n ty cls a b w1 (hg.ext hw1) (hb.ext hw1) (he.ext hw1) (by omega) (by omega))
  rw [HR.out] at HLk
  unfold LookH at HLk
  go_upto_region 4 with (first | (go_at_call 14; refine HLk.out.mono ?_; rintro e w3 ⟨vs, vo, rfl, hs, ho, _, hE3⟩; have Hs := Lib.hid hs; have Ho := Lib.hid ho; obtain ⟨ps, pA, pc, hps, rfl, _, _⟩ := hs; obtain ⟨po, tA, tc, hpo, rfl, _, _⟩ := ho) | fail)
  obtain rfl : ps = [] := List.map_eq_nil_iff.1 hps
  obtain rfl : po = [] := List.map_eq_nil_iff.1 hpo
  dsimp only [ReplyD.bad, ReplyD.pass, VerR.bad, List.length_nil] at Hs Ho ⊢
  obtain ⟨W3, hW3⟩ : ∃ W3, W3 = w3.alloc (.cells #[.int .u8 1, .int .u8 0, .slice pA 0 pc, .slice tA 0 tc, .int .u32 0] 37) := ⟨_, rfl⟩
  obtain ⟨b5, hb5⟩ : ∃ b5, b5 = w3.heap.size := ⟨_, rfl⟩
  have rX : W3.heap[b5]? = some (.cells #[.int .u8 1, .int .u8 0, .slice pA 0 pc, .slice tA 0 tc, .int .u32 0] 37) := by rw [hW3, hb5]; exact heap_alloc_new _ _
  have hE34 : Ext w3 W3 := by rw [hW3]; exact (Ext.refl _).alloc _
  rw [← hW3, ← hb5]
  clear hW3 hb5 hps hpo k0 k1 k2
  have hw3 : Ext w W3 := (hw1.trans hE3).trans hE34
  have rq := ((hE3.trans hE34).block _ (Array.getElem?_eq_some_iff.1 rq).1).trans rq
  have HD := Lib.hid (wire_decode d W3 (hg.ext hw3) (hb.ext hw3) (by omega))
  go_wp2_with fail
  refine HD.out.mono ?_
  rintro e Y ⟨hor, hEd⟩
  rcases hor with ⟨k, hk, hx, rfl⟩ | ⟨m', q, a', u, x, o, hm', rfl, hMO, hBd⟩
  case inl => rw [Hdec.out] at hx; cases hx
  obtain rfl : m = m' := by have := Hdec.out; rw [hm'] at this; injection this with this; exact this.symm
  clear hm'
  have HMO := Lib.hid hMO
  have HBd := Lib.hid hBd
  obtain ⟨⟨qA, qc, rfl, _⟩, ⟨aA, ac, rfl, _⟩, ⟨uA, uc, rfl, _⟩, ⟨xA, xc, rfl, _⟩, ⟨oA, oc, rfl, _⟩⟩ := hMO
  dsimp only
  iterate 10 go_step
  obtain ⟨g7, hg7⟩ : ∃ g7, g7 = Y.heap.size := ⟨_, rfl⟩
  have hz : (Y.alloc (.cells msgZ 56)).heap[g7]? = some (.cells msgZ 56) := by rw [hg7]; exact heap_alloc_new _ _
  refine Go.Great.wpList_allocTo rfl (some 6) rfl (.pointer (some ⟨Y.heap.size, 0, none⟩)) (.cells msgZ 56) (by kernel_rfl) ?_
  rw [← hg7]
  refine Go.wpList_store_rowTo rfl 56 (.tmp 6) (.tmp 33) rfl rfl g7 #[.int .u16 m.hd.id, .bool m.hd.qr, .int .u8 m.hd.op, .bool m.hd.aa, .bool m.hd.tc, .bool m.hd.rd, .bool m.hd.ra, .bool m.hd.z, .bool m.hd.ad, .bool m.hd.cd, .int .u8 m.hd.code, .slice qA m.qs.length qc, .slice aA m.ans.length ac, .slice uA m.auth.length uc, .slice xA m.extra.length xc, .bool m.he, .int .u16 m.ed.size, .int .u8 m.ed.ext, .int .u8 m.ed.ver, .int .u16 m.ed.flags, .slice oA m.ed.opts.length oc] rfl rfl 56 _ hz (by kernel_rfl) rfl (by kernel_rfl) ?_
  rw [alloc_setRowH Y msgZ #[.int .u16 m.hd.id, .bool m.hd.qr, .int .u8 m.hd.op, .bool m.hd.aa, .bool m.hd.tc, .bool m.hd.rd, .bool m.hd.ra, .bool m.hd.z, .bool m.hd.ad, .bool m.hd.cd, .int .u8 m.hd.code, .slice qA m.qs.length qc, .slice aA m.ans.length ac, .slice uA m.auth.length uc, .slice xA m.extra.length xc, .bool m.he, .int .u16 m.ed.size, .int .u8 m.ed.ext, .int .u8 m.ed.ver, .int .u16 m.ed.flags, .slice oA m.ed.opts.length oc] 56 g7 hg7]
  iterate 3 go_step
  refine wpList_nil ?_
  rw [← hg7]
  have r7 : (Y.alloc (.cells #[.int .u16 m.hd.id, .bool m.hd.qr, .int .u8 m.hd.op, .bool m.hd.aa, .bool m.hd.tc, .bool m.hd.rd, .bool m.hd.ra, .bool m.hd.z, .bool m.hd.ad, .bool m.hd.cd, .int .u8 m.hd.code, .slice qA m.qs.length qc, .slice aA m.ans.length ac, .slice uA m.auth.length uc, .slice xA m.extra.length xc, .bool m.he, .int .u16 m.ed.size, .int .u8 m.ed.ext, .int .u8 m.ed.ver, .int .u16 m.ed.flags, .slice oA m.ed.opts.length oc] 56)).heap[g7]? = some (.cells #[.int .u16 m.hd.id, .bool m.hd.qr, .int .u8 m.hd.op, .bool m.hd.aa, .bool m.hd.tc, .bool m.hd.rd, .bool m.hd.ra, .bool m.hd.z, .bool m.hd.ad, .bool m.hd.cd, .int .u8 m.hd.code, .slice qA m.qs.length qc, .slice aA m.ans.length ac, .slice uA m.auth.length uc, .slice xA m.extra.length xc, .bool m.he, .int .u16 m.ed.size, .int .u8 m.ed.ext, .int .u8 m.ed.ver, .int .u16 m.ed.flags, .slice oA m.ed.opts.length oc] 56) := by rw [hg7]; exact heap_alloc_new _ _
  have hEY : Ext Y (Y.alloc (.cells #[.int .u16 m.hd.id, .bool m.hd.qr, .int .u8 m.hd.op, .bool m.hd.aa, .bool m.hd.tc, .bool m.hd.rd, .bool m.hd.ra, .bool m.hd.z, .bool m.hd.ad, .bool m.hd.cd, .int .u8 m.hd.code, .slice qA m.qs.length qc, .slice aA m.ans.length ac, .slice uA m.auth.length uc, .slice xA m.extra.length xc, .bool m.he, .int .u16 m.ed.size, .int .u8 m.ed.ext, .int .u8 m.ed.ver, .int .u16 m.ed.flags, .slice oA m.ed.opts.length oc] 56)) := (Ext.refl _).alloc _
  obtain ⟨Z, hZ⟩ : ∃ Z, Z = Y.alloc (.cells #[.int .u16 m.hd.id, .bool m.hd.qr, .int .u8 m.hd.op, .bool m.hd.aa, .bool m.hd.tc, .bool m.hd.rd, .bool m.hd.ra, .bool m.hd.z, .bool m.hd.ad, .bool m.hd.cd, .int .u8 m.hd.code, .slice qA m.qs.length qc, .slice aA m.ans.length ac, .slice uA m.auth.length uc, .slice xA m.extra.length xc, .bool m.he, .int .u16 m.ed.size, .int .u8 m.ed.ext, .int .u8 m.ed.ver, .int .u16 m.ed.flags, .slice oA m.ed.opts.length oc] 56) := ⟨_, rfl⟩
  rw [← hZ] at r7 hEY ⊢
  have hEZ : Ext w Z := hw3.trans (hEd.trans hEY)
  clear hZ hz hg7
  have rq := ((hEd.trans hEY).block _ (Array.getElem?_eq_some_iff.1 rq).1).trans rq
  have rX := ((hEd.trans hEY).block _ (Array.getElem?_eq_some_iff.1 rX).1).trans rX
  have hX3 : Ext w3 Z := hE34.trans (hEd.trans hEY)
  have HVo := Lib.hid (fun V (hV : Ext Z V) => ver_of (xOf m qA xA oA qc xc oc) n ty cls m.hd.code 0 aA ac uA uc m.ans m.auth V (hg.ext (hEZ.trans hV)) ((HMO.out.ans.recs.lower (Nat.zero_le _)).ext (hEY.trans hV)) ((HMO.out.auth.recs.lower (Nat.zero_le _)).ext (hEY.trans hV)) ⟨by have := hfew; omega, hsh1⟩ ⟨by have := hfew; omega, hsh2⟩ (fun r hr => ⟨(d1.out.ans r hr).1, (d1.out.ans r hr).2.1⟩) (fun r hr => ⟨(d1.out.auth r hr).1, (d1.out.auth r hr).2.1⟩) (by omega))
  skip
  go_upto_region 5 with fail
  go_cut [8] (fun s8 wx => s8 = .bool (itsB m n ty cls) ∧ Ext Z wx)
  case first =>
    rcases hqr : m.hd.qr with _ | _
    · have HIt := Lib.hid (show itsB m n ty cls = false from by unfold itsB; rw [hqr]; rfl)
      have HS5 := Lib.hid (fun V (hV : Ext Z V) => (show V.cell? ⟨g7, 1, none⟩ = some (.bool false) ∧ V.cell? ⟨g7, 2, none⟩ = some (.int .u8 m.hd.op) ∧ V.cell? ⟨g7, 11, none⟩ = some (.slice qA m.qs.length qc) from by
        have rV := (hV.block _ (Array.getElem?_eq_some_iff.1 r7).1).trans r7
        exact ⟨by rw [← hqr]; exact box_cell rV rfl, by exact box_cell rV rfl, box_cell rV rfl⟩))
      refine wp_region_noPanic ?_
      refine wp_region_tree (S := (fun V => V.cell? ⟨g7, 1, none⟩ = some (.bool false) ∧ V.cell? ⟨g7, 2, none⟩ = some (.int .u8 m.hd.op) ∧ V.cell? ⟨g7, 11, none⟩ = some (.slice qA m.qs.length qc))) (.take 0 (.take 1 (.take 2 (.take 3 (.take 4 (.take 5 (.take 6 (.take 7 (.take 8 (.take 9 (.take 10 (.take 11 (.take 12 (.take 13 (.take 14 (.take 15 (.take 16 (.take 17 (.take 18 (.take 19 (.take 20 (.take 21 (.take 22 (.take 23 (.take 24 (.take 25 (.take 26 (.take 27 (.done))))))))))))))))))))))))))))) (by kernel_rfl) (by kernel_rfl) (fun _ _ _ _ _ h => h) ((HS5.out _ (Ext.refl Z).drew)) ?_
      repeat ((with_reducible refine treeIs ?_); first
        | (refine treeTakeX (a' := ?_) ⟨_, (HS5.out _ (Ext.refl Z).drew)⟩ (by rfl) rfl (by kernel_rfl) rfl ?_ ?_; rotate_left; (focus (intro V Q' hV hq; obtain ⟨hV1, hV2, hV3⟩ := hV; (repeat (first | go_guarded | go_skip | go_step)); (first | exact hq | exact wpList_nil hq))))
        | (refine treeSkip (by rfl) (by rfl) ?_; (try simp only [Act.put, List.setIfInBounds_toArray, List.set_cons_zero, List.set_cons_succ])))
      refine treeDone ?_
      refine NoPanic.normal ?_
      (try go_wp2_with fail)
      go_meet
      exact ⟨by rw [HIt.out]; try rfl, (Ext.refl Z).drew⟩
    by_cases hop : m.hd.op = 0
    · by_cases hl : m.qs.length = 1
      · obtain ⟨x0, hx0⟩ := List.length_eq_one_iff.1 hl
        have HIt := Lib.hid (show itsB m n ty cls = (sameN x0.name n && (decide (x0.typ = ty) && decide (x0.cls = cls))) from by unfold itsB; rw [asks_one hx0, hqr, hop]; rfl)
        obtain ⟨A5, c5, e5, ho5⟩ := HMO.out.qs
        injection e5 with e51 _ e53
        subst e51 e53
        have hrd5 := (ho5.rd.lower (Nat.zero_le _)).ext (show Ext Y Z from hEY)
        obtain ⟨qb, qo, rfl, _, hbz, hbc⟩ := hrd5.2 (by omega)
        obtain ⟨q0, q1, q2⟩ := qus_cells hbc 0 x0 (by rw [hx0]; rfl)
        rw [Nat.zero_mul, Nat.add_zero] at q0 q1 q2
        have HEq := Lib.hid (fun V => ref16_equal x0.name x0.typ x0.cls n ty cls V (HBd.out.qok x0 (by rw [hx0]; simp)) (by omega))
        generalize (sameN x0.name n && (decide (x0.typ = ty) && decide (x0.cls = cls))) = B at *
        obtain ⟨xn, xt, xc⟩ := x0
        dsimp only at q0 q1 q2 HEq
        have HS5 := Lib.hid (fun V (hV : Ext Z V) => (show V.cell? ⟨g7, 1, none⟩ = some (.bool true) ∧ V.cell? ⟨g7, 2, none⟩ = some (.int .u8 0) ∧ V.cell? ⟨g7, 11, none⟩ = some (.slice (some ⟨qb, qo, none⟩) 1 qc) ∧ (V.cell? ⟨qb, qo, none⟩ = some (S xn) ∧ V.cell? ⟨qb, qo + 1, none⟩ = some (.int .u16 xt) ∧ V.cell? ⟨qb, qo + 2, none⟩ = some (.int .u16 xc)) ∧ V.cell? ⟨g3, 0, none⟩ = some (S n) ∧ V.cell? ⟨g3, 1, none⟩ = some (.int .u16 ty) ∧ V.cell? ⟨g3, 2, none⟩ = some (.int .u16 cls) from by
          have rV := (hV.block _ (Array.getElem?_eq_some_iff.1 r7).1).trans r7
          exact ⟨by rw [← hqr]; exact box_cell rV rfl, by rw [← hop]; exact box_cell rV rfl, by rw [← hl]; exact box_cell rV rfl, ⟨(hV.cell (cell_lt q0)).trans q0, (hV.cell (cell_lt q1)).trans q1, (hV.cell (cell_lt q2)).trans q2⟩, keepQ hV rq⟩))
        clear hqr hop hl q0 q1 q2 hbc hbz hrd5 hx0
        refine wp_region_noPanic ?_
        refine wp_region_tree (S := (fun V => V.cell? ⟨g7, 1, none⟩ = some (.bool true) ∧ V.cell? ⟨g7, 2, none⟩ = some (.int .u8 0) ∧ V.cell? ⟨g7, 11, none⟩ = some (.slice (some ⟨qb, qo, none⟩) 1 qc) ∧ (V.cell? ⟨qb, qo, none⟩ = some (S xn) ∧ V.cell? ⟨qb, qo + 1, none⟩ = some (.int .u16 xt) ∧ V.cell? ⟨qb, qo + 2, none⟩ = some (.int .u16 xc)) ∧ V.cell? ⟨g3, 0, none⟩ = some (S n) ∧ V.cell? ⟨g3, 1, none⟩ = some (.int .u16 ty) ∧ V.cell? ⟨g3, 2, none⟩ = some (.int .u16 cls))) (.take 0 (.take 1 (.take 2 (.take 3 (.take 4 (.take 5 (.take 6 (.take 7 (.take 8 (.take 9 (.take 10 (.take 11 (.take 12 (.take 13 (.take 14 (.take 15 (.take 16 (.take 17 (.take 18 (.take 19 (.take 20 (.take 21 (.take 22 (.take 23 (.take 24 (.run 25 (.take 26 (.take 27 (.done))))))))))))))))))))))))))))) (by kernel_rfl) (by kernel_rfl) (fun _ _ _ _ _ h => h) ((HS5.out _ (Ext.refl Z).drew)) ?_
        repeat ((with_reducible refine treeIs ?_); first
          | (refine treeTakeX (a' := ?_) ⟨_, (HS5.out _ (Ext.refl Z).drew)⟩ (by rfl) rfl (by kernel_rfl) rfl ?_ ?_; rotate_left; (focus (intro V Q' hV hq; obtain ⟨hV1, hV2, hV3, ⟨hV4, hV5, hV6⟩, hV7, hV8, hV9⟩ := hV; (repeat (first | go_guarded | go_skip | go_step)); (first | exact hq | exact wpList_nil hq)))))
        refine treeRun (by rfl) (fun K hK => ?_)
        go_simp
        refine (HEq.out _).mono ?_
        rintro e we ⟨rfl, hEq⟩
        have hEe : Ext Z we := ((Ext.refl Z).drew).trans hEq
        clear hEq
        refine hK.out _ _ ?_ ?_
        · exact (HS5.out _ hEe)
        clear hK K
        (try simp only [Act.put, List.setIfInBounds_toArray, List.set_cons_zero, List.set_cons_succ])
        repeat ((with_reducible refine treeIs ?_); first
          | (refine treeTakeX (a' := ?_) ⟨_, (HS5.out _ (Ext.refl Z).drew)⟩ (by rfl) rfl (by kernel_rfl) rfl ?_ ?_; rotate_left; (focus (intro V Q' hV hq; obtain ⟨hV1, hV2, hV3, ⟨hV4, hV5, hV6⟩, hV7, hV8, hV9⟩ := hV; (repeat (first | go_guarded | go_skip | go_step)); (first | exact hq | exact wpList_nil hq)))))
        refine treeDone ?_
        refine NoPanic.normal ?_
        (try go_wp2_with fail)
        go_meet
        exact ⟨by rw [HIt.out]; try rfl, hEe⟩
      · have HIt := Lib.hid (show itsB m n ty cls = false from by unfold itsB; rw [asks_not hl]; cases m.hd.qr <;> cases decide (m.hd.op = 0) <;> rfl)
        have hl1 : ((m.qs.length : Int) == 1) = false := by rw [beq_eq_false_iff_ne]; omega
        have hl2 : ¬ (m.qs.length : Int) = 1 := by omega
        have HS5 := Lib.hid (fun V (hV : Ext Z V) => (show V.cell? ⟨g7, 1, none⟩ = some (.bool true) ∧ V.cell? ⟨g7, 2, none⟩ = some (.int .u8 0) ∧ V.cell? ⟨g7, 11, none⟩ = some (.slice qA m.qs.length qc) from by
          have rV := (hV.block _ (Array.getElem?_eq_some_iff.1 r7).1).trans r7
          exact ⟨by rw [← hqr]; exact box_cell rV rfl, by rw [← hop]; exact box_cell rV rfl, box_cell rV rfl⟩))
        refine wp_region_noPanic ?_
        refine wp_region_tree (S := (fun V => V.cell? ⟨g7, 1, none⟩ = some (.bool true) ∧ V.cell? ⟨g7, 2, none⟩ = some (.int .u8 0) ∧ V.cell? ⟨g7, 11, none⟩ = some (.slice qA m.qs.length qc))) (.take 0 (.take 1 (.take 2 (.take 3 (.take 4 (.take 5 (.take 6 (.take 7 (.take 8 (.take 9 (.take 10 (.take 11 (.take 12 (.take 13 (.take 14 (.take 15 (.take 16 (.take 17 (.take 18 (.take 19 (.take 20 (.take 21 (.take 22 (.take 23 (.take 24 (.take 25 (.take 26 (.take 27 (.done))))))))))))))))))))))))))))) (by kernel_rfl) (by kernel_rfl) (fun _ _ _ _ _ h => h) ((HS5.out _ (Ext.refl Z).drew)) ?_
        repeat ((with_reducible refine treeIs ?_); first
          | (refine treeTakeX (a' := ?_) ⟨_, (HS5.out _ (Ext.refl Z).drew)⟩ (by rfl) rfl (by kernel_rfl) rfl ?_ ?_; rotate_left; (focus (intro V Q' hV hq; obtain ⟨hV1, hV2, hV3⟩ := hV; (repeat (first | go_guarded | go_skip | go_step)); (first | exact hq | exact wpList_nil hq))))
          | (refine treeSkip (by rfl) (by rfl) ?_; (try simp only [Act.put, List.setIfInBounds_toArray, List.set_cons_zero, List.set_cons_succ])))
        refine treeDone ?_
        refine NoPanic.normal ?_
        (try go_wp2_with fail)
        go_meet
        exact ⟨by rw [HIt.out]; try rfl, (Ext.refl Z).drew⟩
    · have HIt := Lib.hid (show itsB m n ty cls = false from by unfold itsB; rw [decide_eq_false hop]; cases m.hd.qr <;> rfl)
      have hop1 : (m.hd.op == 0) = false := by rw [beq_eq_false_iff_ne]; exact hop
      have hop2 : decide (m.hd.op = 0) = false := decide_eq_false hop
      have HS5 := Lib.hid (fun V (hV : Ext Z V) => (show V.cell? ⟨g7, 1, none⟩ = some (.bool true) ∧ V.cell? ⟨g7, 2, none⟩ = some (.int .u8 m.hd.op) ∧ V.cell? ⟨g7, 11, none⟩ = some (.slice qA m.qs.length qc) from by
        have rV := (hV.block _ (Array.getElem?_eq_some_iff.1 r7).1).trans r7
        exact ⟨by rw [← hqr]; exact box_cell rV rfl, by exact box_cell rV rfl, box_cell rV rfl⟩))
      refine wp_region_noPanic ?_
      refine wp_region_tree (S := (fun V => V.cell? ⟨g7, 1, none⟩ = some (.bool true) ∧ V.cell? ⟨g7, 2, none⟩ = some (.int .u8 m.hd.op) ∧ V.cell? ⟨g7, 11, none⟩ = some (.slice qA m.qs.length qc))) (.take 0 (.take 1 (.take 2 (.take 3 (.take 4 (.take 5 (.take 6 (.take 7 (.take 8 (.take 9 (.take 10 (.take 11 (.take 12 (.take 13 (.take 14 (.take 15 (.take 16 (.take 17 (.take 18 (.take 19 (.take 20 (.take 21 (.take 22 (.take 23 (.take 24 (.take 25 (.take 26 (.take 27 (.done))))))))))))))))))))))))))))) (by kernel_rfl) (by kernel_rfl) (fun _ _ _ _ _ h => h) ((HS5.out _ (Ext.refl Z).drew)) ?_
      repeat ((with_reducible refine treeIs ?_); first
        | (refine treeTakeX (a' := ?_) ⟨_, (HS5.out _ (Ext.refl Z).drew)⟩ (by rfl) rfl (by kernel_rfl) rfl ?_ ?_; rotate_left; (focus (intro V Q' hV hq; obtain ⟨hV1, hV2, hV3⟩ := hV; (repeat (first | go_guarded | go_skip | go_step)); (first | exact hq | exact wpList_nil hq))))
        | (refine treeSkip (by rfl) (by rfl) ?_; (try simp only [Act.put, List.setIfInBounds_toArray, List.set_cons_zero, List.set_cons_succ])))
      refine treeDone ?_
      refine NoPanic.normal ?_
      (try go_wp2_with fail)
      go_meet
      exact ⟨by rw [HIt.out]; try rfl, (Ext.refl Z).drew⟩
  case rest =>
    obtain ⟨rfl, hE5⟩ := hcut
    obtain ⟨W5, rfl⟩ : ∃ W5 : World, W5 = wc := ⟨_, rfl⟩
    rw [Hits.out]
    have r76 := (hE5.block _ (Array.getElem?_eq_some_iff.1 r7).1).trans r7
    have rX6 := (hE5.block _ (Array.getElem?_eq_some_iff.1 rX).1).trans rX
    obtain ⟨k0, k1, k2⟩ := keepQ hE5 rq
    have c10 := box_cell (j := 10) r76 rfl
    have c17 := box_cell (j := 17) r76 rfl
    change W5.cell? ⟨g7, 10, none⟩ = some (.int .u8 m.hd.code) at c10
    change W5.cell? ⟨g7, 17, none⟩ = some (.int .u8 m.ed.ext) at c17
    obtain ⟨cn, hcn⟩ : ∃ cn : Nat, m.hd.code = (cn : Int) := ⟨m.hd.code.toNat, by have := d1.out.code; omega⟩
    obtain ⟨xn, hxn⟩ : ∃ xn : Nat, m.ed.ext = (xn : Int) := ⟨m.ed.ext.toNat, by have := d1.out.ext; omega⟩
    have hce : ((xn * 16 + cn % 16 : Nat) : Int) = code12 m := by
      unfold code12
      rw [hcn]
      rcases hhe : m.he with _ | _
      · have h0 : m.ed.ext = 0 := by rw [d4.out hhe]; rfl
        rw [h0] at hxn
        simp only [Bool.false_eq_true, if_false]
        omega
      · simp only [if_true]
        rw [hxn]
        omega
    have HCd := Lib.hid (fun V => edns_code7 cn xn V (by have := d1.out.code; have := hcl; omega) (by have := d1.out.ext; omega))
    rw [hce] at HCd
    rw [hcn] at c10
    rw [hxn] at c17
    clear hce
    clear hcn hxn
    go_wp2_with fail
    refine (HCd.out _).mono ?_
    rintro e w6 ⟨rfl, hq6⟩
    rw [← hq6]
    clear hq6 c10 c17
    go_upto_region 8 with (first | (refine wpList_load_part (by rfl) 56 (.tmp 6) rfl g7 0 rfl [.int .u16 m.hd.id, .bool m.hd.qr, .int .u8 m.hd.op, .bool m.hd.aa, .bool m.hd.tc, .bool m.hd.rd, .bool m.hd.ra, .bool m.hd.z, .bool m.hd.ad, .bool m.hd.cd, .int .u8 m.hd.code, .slice qA m.qs.length qc, .slice aA m.ans.length ac, .slice uA m.auth.length uc, .slice xA m.extra.length xc, .bool m.he, .int .u16 m.ed.size, .int .u8 m.ed.ext, .int .u8 m.ed.ver, .int .u16 m.ed.flags, .slice oA m.ed.opts.length oc] (row_all r76) _ Tryz.underlying56 rfl (by kernel_rfl) ?_) | (go_at_call 22; refine (HVo.out _ hE5).mono ?_; rintro e W7 ⟨us, uo, rfl, hus, huo, _, hE7⟩; have Hus := Lib.hid hus; have Huo := Lib.hid huo; obtain ⟨qs, yA, yc, hqs, rfl, _, _⟩ := hus; obtain ⟨qo', zA, zc, hqo, rfl, _, _⟩ := huo) | fail)
    obtain ⟨R, hRv⟩ : ∃ R, R = verOf n ty cls m.hd.code m.ans m.auth := ⟨_, rfl⟩
    rw [← hRv] at Hus Huo hqs hqo ⊢
    have HRv := Lib.hid hRv
    obtain ⟨W8, hW8⟩ : ∃ W8, W8 = W7.alloc (.cells #[.int .u8 R.code, .slice yA qs.length yc, .slice zA qo'.length zc] 32) := ⟨_, rfl⟩
    obtain ⟨gv, hgv⟩ : ∃ gv, gv = W7.heap.size := ⟨_, rfl⟩
    have rv : W8.heap[gv]? = some (.cells #[.int .u8 R.code, .slice yA qs.length yc, .slice zA qo'.length zc] 32) := by rw [hW8, hgv]; exact heap_alloc_new _ _
    have hE78 : Ext W7 W8 := by rw [hW8]; exact (Ext.refl _).alloc _
    rw [← hW8, ← hgv]
    clear hW8 hgv hRv k0 k1 k2
    have hE58 := hE7.trans hE78
    have hEw8 : Ext w W8 := (hEZ.trans hE5).trans hE58
    have rX8 := (hE58.block _ (Array.getElem?_eq_some_iff.1 rX6).1).trans rX6
    have r78 := (hE58.block _ (Array.getElem?_eq_some_iff.1 r76).1).trans r76
    have x0 := box_cell (j := 0) rX8 rfl
    have x1 := box_cell (j := 1) rX8 rfl
    have x2 := box_cell (j := 2) rX8 rfl
    have x3 := box_cell (j := 3) rX8 rfl
    have x4 := box_cell (j := 4) rX8 rfl
    have hX8 : Ext w3 W8 := hX3.trans (hE5.trans hE58)
    go_wp2_with fail
    refine (ref24_same 1 0 0 [] [] _ _ _ _ _ _ _ _ _ _ _ _ _ ((Hs.out.sets.lower24 (Nat.zero_le _)).ext hX8) (sets_nil24 _) ((Ho.out.sets.lower24 (Nat.zero_le _)).ext hX8) (sets_nil24 _)).mono ?_
    rintro e wS ⟨rfl, hES⟩
    go_wp2_with fail
    go_ret
    exact ⟨rfl, hEw8.trans hES⟩
set_option maxHeartbeats 16000000 in
theorem law24_votes_pass (n d : List UInt8) (ty cls : Int) (a b : Addr) (w : World) (hg : Laid w) (hb : BitsAt w) (he : ErrsAt w a b) (hn : n.length ≤ 3000) (hd : d.length ≤ 3000) {m : MsgD} (hdec : decR d = .ok m) (hits : itsB m n ty cls = true) (hpass : m.hd.tc = true ∨ (code12 m ≠ 0 ∧ code12 m ≠ 3)) :
    Calls Tryz.prog 6 #[.agg #[S n, .int .u16 ty, .int .u16 cls], S d] w fun e w' => e = .returned (.bool true) ∧ Ext w w' := by
  have HAw := Lib.hid (fun V (hV : Ext w V) => law24_awake a b V (hg.ext hV) (hb.ext hV) (he.ext hV))
  obtain ⟨X0, hX0⟩ : ∃ X0, X0 = w.alloc (.cells #[S n, .int .u16 ty, .int .u16 cls] 24) := ⟨_, rfl⟩
  obtain ⟨g3, hg3⟩ : ∃ g3, g3 = w.heap.size := ⟨_, rfl⟩
  have r0 : X0.heap[g3]? = some (.cells #[S n, .int .u16 ty, .int .u16 cls] 24) := by rw [hX0, hg3]; exact heap_alloc_new _ _
  have hE0 : Ext w X0 := by rw [hX0]; exact (Ext.refl _).alloc _
  go_enter Tryz.func6, Tryz.ntmps6
  go_upto_region 1 with fail
  rw [← hX0, ← hg3]
  clear hX0 hg3
  have k0 := box_cell (j := 0) r0 rfl
  have k1 := box_cell (j := 1) r0 rfl
  have k2 := box_cell (j := 2) r0 rfl
  have hni : ¬ (3000 : Int) < (n.length : Int) := by omega
  have hdi : ¬ (3000 : Int) < (d.length : Int) := by omega
  have Hdec := Lib.hid hdec
  have hRm : replyOf d n ty cls = replyM m n ty cls := by unfold replyOf; rw [hdec]
  have d1 := Lib.hid (decR_ok hdec).1
  have d4 := Lib.hid (decR_ok hdec).2.2.2.1
  have hcl := dec_code hdec
  have hfew := dec_few hdec
  obtain ⟨hsh1, hsh2⟩ := dec_short hdec
  clear hdec
  have Hits := Lib.hid hits
  have hIt := its_iff.1 hits
  clear hits
  have Hpass := Lib.hid hpass
  have HR := Lib.hid (hRm.trans (replyM_pass hIt hpass))
  clear hpass hRm hIt
  go_wp2_with fail
  refine (HAw.out _ hE0).mono ?_
  rintro e w1 ⟨rfl, hE1⟩
  have rq := (hE1.block _ (Array.getElem?_eq_some_iff.1 r0).1).trans r0
  have hw1 : Ext w w1 := hE0.trans hE1
  clear k0 k1 k2
  have k0 := box_cell (j := 0) rq rfl
  have k1 := box_cell (j := 1) rq rfl
  have k2 := box_cell (j := 2) rq rfl
  have HLk := Lib.hid (heard_look d n ty cls a b w1 (hg.ext hw1) (hb.ext hw1) (he.ext hw1) (by omega) (by omega))
  rw [HR.out] at HLk
  unfold LookH at HLk
  go_upto_region 4 with (first | (go_at_call 14; refine HLk.out.mono ?_; rintro e w3 ⟨vs, vo, rfl, hs, ho, _, hE3⟩; have Hs := Lib.hid hs; have Ho := Lib.hid ho; obtain ⟨ps, pA, pc, hps, rfl, _, _⟩ := hs; obtain ⟨po, tA, tc, hpo, rfl, _, _⟩ := ho) | fail)
  obtain rfl : ps = [] := List.map_eq_nil_iff.1 hps
  obtain rfl : po = [] := List.map_eq_nil_iff.1 hpo
  dsimp only [ReplyD.bad, ReplyD.pass, VerR.bad, List.length_nil] at Hs Ho ⊢
  obtain ⟨W3, hW3⟩ : ∃ W3, W3 = w3.alloc (.cells #[.int .u8 2, .int .u8 0, .slice pA 0 pc, .slice tA 0 tc, .int .u32 0] 37) := ⟨_, rfl⟩
  obtain ⟨b5, hb5⟩ : ∃ b5, b5 = w3.heap.size := ⟨_, rfl⟩
  have rX : W3.heap[b5]? = some (.cells #[.int .u8 2, .int .u8 0, .slice pA 0 pc, .slice tA 0 tc, .int .u32 0] 37) := by rw [hW3, hb5]; exact heap_alloc_new _ _
  have hE34 : Ext w3 W3 := by rw [hW3]; exact (Ext.refl _).alloc _
  rw [← hW3, ← hb5]
  clear hW3 hb5 hps hpo k0 k1 k2
  have hw3 : Ext w W3 := (hw1.trans hE3).trans hE34
  have rq := ((hE3.trans hE34).block _ (Array.getElem?_eq_some_iff.1 rq).1).trans rq
  have HD := Lib.hid (wire_decode d W3 (hg.ext hw3) (hb.ext hw3) (by omega))
  go_wp2_with fail
  refine HD.out.mono ?_
  rintro e Y ⟨hor, hEd⟩
  rcases hor with ⟨k, hk, hx, rfl⟩ | ⟨m', q, a', u, x, o, hm', rfl, hMO, hBd⟩
  case inl => rw [Hdec.out] at hx; cases hx
  obtain rfl : m = m' := by have := Hdec.out; rw [hm'] at this; injection this with this; exact this.symm
  clear hm'
  have HMO := Lib.hid hMO
  have HBd := Lib.hid hBd
  obtain ⟨⟨qA, qc, rfl, _⟩, ⟨aA, ac, rfl, _⟩, ⟨uA, uc, rfl, _⟩, ⟨xA, xc, rfl, _⟩, ⟨oA, oc, rfl, _⟩⟩ := hMO
  dsimp only
  iterate 10 go_step
  obtain ⟨g7, hg7⟩ : ∃ g7, g7 = Y.heap.size := ⟨_, rfl⟩
  have hz : (Y.alloc (.cells msgZ 56)).heap[g7]? = some (.cells msgZ 56) := by rw [hg7]; exact heap_alloc_new _ _
  refine Go.Great.wpList_allocTo rfl (some 6) rfl (.pointer (some ⟨Y.heap.size, 0, none⟩)) (.cells msgZ 56) (by kernel_rfl) ?_
  rw [← hg7]
  refine Go.wpList_store_rowTo rfl 56 (.tmp 6) (.tmp 33) rfl rfl g7 #[.int .u16 m.hd.id, .bool m.hd.qr, .int .u8 m.hd.op, .bool m.hd.aa, .bool m.hd.tc, .bool m.hd.rd, .bool m.hd.ra, .bool m.hd.z, .bool m.hd.ad, .bool m.hd.cd, .int .u8 m.hd.code, .slice qA m.qs.length qc, .slice aA m.ans.length ac, .slice uA m.auth.length uc, .slice xA m.extra.length xc, .bool m.he, .int .u16 m.ed.size, .int .u8 m.ed.ext, .int .u8 m.ed.ver, .int .u16 m.ed.flags, .slice oA m.ed.opts.length oc] rfl rfl 56 _ hz (by kernel_rfl) rfl (by kernel_rfl) ?_
  rw [alloc_setRowH Y msgZ #[.int .u16 m.hd.id, .bool m.hd.qr, .int .u8 m.hd.op, .bool m.hd.aa, .bool m.hd.tc, .bool m.hd.rd, .bool m.hd.ra, .bool m.hd.z, .bool m.hd.ad, .bool m.hd.cd, .int .u8 m.hd.code, .slice qA m.qs.length qc, .slice aA m.ans.length ac, .slice uA m.auth.length uc, .slice xA m.extra.length xc, .bool m.he, .int .u16 m.ed.size, .int .u8 m.ed.ext, .int .u8 m.ed.ver, .int .u16 m.ed.flags, .slice oA m.ed.opts.length oc] 56 g7 hg7]
  iterate 3 go_step
  refine wpList_nil ?_
  rw [← hg7]
  have r7 : (Y.alloc (.cells #[.int .u16 m.hd.id, .bool m.hd.qr, .int .u8 m.hd.op, .bool m.hd.aa, .bool m.hd.tc, .bool m.hd.rd, .bool m.hd.ra, .bool m.hd.z, .bool m.hd.ad, .bool m.hd.cd, .int .u8 m.hd.code, .slice qA m.qs.length qc, .slice aA m.ans.length ac, .slice uA m.auth.length uc, .slice xA m.extra.length xc, .bool m.he, .int .u16 m.ed.size, .int .u8 m.ed.ext, .int .u8 m.ed.ver, .int .u16 m.ed.flags, .slice oA m.ed.opts.length oc] 56)).heap[g7]? = some (.cells #[.int .u16 m.hd.id, .bool m.hd.qr, .int .u8 m.hd.op, .bool m.hd.aa, .bool m.hd.tc, .bool m.hd.rd, .bool m.hd.ra, .bool m.hd.z, .bool m.hd.ad, .bool m.hd.cd, .int .u8 m.hd.code, .slice qA m.qs.length qc, .slice aA m.ans.length ac, .slice uA m.auth.length uc, .slice xA m.extra.length xc, .bool m.he, .int .u16 m.ed.size, .int .u8 m.ed.ext, .int .u8 m.ed.ver, .int .u16 m.ed.flags, .slice oA m.ed.opts.length oc] 56) := by rw [hg7]; exact heap_alloc_new _ _
  have hEY : Ext Y (Y.alloc (.cells #[.int .u16 m.hd.id, .bool m.hd.qr, .int .u8 m.hd.op, .bool m.hd.aa, .bool m.hd.tc, .bool m.hd.rd, .bool m.hd.ra, .bool m.hd.z, .bool m.hd.ad, .bool m.hd.cd, .int .u8 m.hd.code, .slice qA m.qs.length qc, .slice aA m.ans.length ac, .slice uA m.auth.length uc, .slice xA m.extra.length xc, .bool m.he, .int .u16 m.ed.size, .int .u8 m.ed.ext, .int .u8 m.ed.ver, .int .u16 m.ed.flags, .slice oA m.ed.opts.length oc] 56)) := (Ext.refl _).alloc _
  obtain ⟨Z, hZ⟩ : ∃ Z, Z = Y.alloc (.cells #[.int .u16 m.hd.id, .bool m.hd.qr, .int .u8 m.hd.op, .bool m.hd.aa, .bool m.hd.tc, .bool m.hd.rd, .bool m.hd.ra, .bool m.hd.z, .bool m.hd.ad, .bool m.hd.cd, .int .u8 m.hd.code, .slice qA m.qs.length qc, .slice aA m.ans.length ac, .slice uA m.auth.length uc, .slice xA m.extra.length xc, .bool m.he, .int .u16 m.ed.size, .int .u8 m.ed.ext, .int .u8 m.ed.ver, .int .u16 m.ed.flags, .slice oA m.ed.opts.length oc] 56) := ⟨_, rfl⟩
  rw [← hZ] at r7 hEY ⊢
  have hEZ : Ext w Z := hw3.trans (hEd.trans hEY)
  clear hZ hz hg7
  have rq := ((hEd.trans hEY).block _ (Array.getElem?_eq_some_iff.1 rq).1).trans rq
  have rX := ((hEd.trans hEY).block _ (Array.getElem?_eq_some_iff.1 rX).1).trans rX
  have hX3 : Ext w3 Z := hE34.trans (hEd.trans hEY)
  have HVo := Lib.hid (fun V (hV : Ext Z V) => ver_of (xOf m qA xA oA qc xc oc) n ty cls m.hd.code 0 aA ac uA uc m.ans m.auth V (hg.ext (hEZ.trans hV)) ((HMO.out.ans.recs.lower (Nat.zero_le _)).ext (hEY.trans hV)) ((HMO.out.auth.recs.lower (Nat.zero_le _)).ext (hEY.trans hV)) ⟨by have := hfew; omega, hsh1⟩ ⟨by have := hfew; omega, hsh2⟩ (fun r hr => ⟨(d1.out.ans r hr).1, (d1.out.ans r hr).2.1⟩) (fun r hr => ⟨(d1.out.auth r hr).1, (d1.out.auth r hr).2.1⟩) (by omega))
  skip
  go_upto_region 5 with fail
  go_cut [8] (fun s8 wx => s8 = .bool (itsB m n ty cls) ∧ Ext Z wx)
  case first =>
    rcases hqr : m.hd.qr with _ | _
    · have HIt := Lib.hid (show itsB m n ty cls = false from by unfold itsB; rw [hqr]; rfl)
      have HS5 := Lib.hid (fun V (hV : Ext Z V) => (show V.cell? ⟨g7, 1, none⟩ = some (.bool false) ∧ V.cell? ⟨g7, 2, none⟩ = some (.int .u8 m.hd.op) ∧ V.cell? ⟨g7, 11, none⟩ = some (.slice qA m.qs.length qc) from by
        have rV := (hV.block _ (Array.getElem?_eq_some_iff.1 r7).1).trans r7
        exact ⟨by rw [← hqr]; exact box_cell rV rfl, by exact box_cell rV rfl, box_cell rV rfl⟩))
      refine wp_region_noPanic ?_
      refine wp_region_tree (S := (fun V => V.cell? ⟨g7, 1, none⟩ = some (.bool false) ∧ V.cell? ⟨g7, 2, none⟩ = some (.int .u8 m.hd.op) ∧ V.cell? ⟨g7, 11, none⟩ = some (.slice qA m.qs.length qc))) (.take 0 (.take 1 (.take 2 (.take 3 (.take 4 (.take 5 (.take 6 (.take 7 (.take 8 (.take 9 (.take 10 (.take 11 (.take 12 (.take 13 (.take 14 (.take 15 (.take 16 (.take 17 (.take 18 (.take 19 (.take 20 (.take 21 (.take 22 (.take 23 (.take 24 (.take 25 (.take 26 (.take 27 (.done))))))))))))))))))))))))))))) (by kernel_rfl) (by kernel_rfl) (fun _ _ _ _ _ h => h) ((HS5.out _ (Ext.refl Z).drew)) ?_
      repeat ((with_reducible refine treeIs ?_); first
        | (refine treeTakeX (a' := ?_) ⟨_, (HS5.out _ (Ext.refl Z).drew)⟩ (by rfl) rfl (by kernel_rfl) rfl ?_ ?_; rotate_left; (focus (intro V Q' hV hq; obtain ⟨hV1, hV2, hV3⟩ := hV; (repeat (first | go_guarded | go_skip | go_step)); (first | exact hq | exact wpList_nil hq))))
        | (refine treeSkip (by rfl) (by rfl) ?_; (try simp only [Act.put, List.setIfInBounds_toArray, List.set_cons_zero, List.set_cons_succ])))
      refine treeDone ?_
      refine NoPanic.normal ?_
      (try go_wp2_with fail)
      go_meet
      exact ⟨by rw [HIt.out]; try rfl, (Ext.refl Z).drew⟩
    by_cases hop : m.hd.op = 0
    · by_cases hl : m.qs.length = 1
      · obtain ⟨x0, hx0⟩ := List.length_eq_one_iff.1 hl
        have HIt := Lib.hid (show itsB m n ty cls = (sameN x0.name n && (decide (x0.typ = ty) && decide (x0.cls = cls))) from by unfold itsB; rw [asks_one hx0, hqr, hop]; rfl)
        obtain ⟨A5, c5, e5, ho5⟩ := HMO.out.qs
        injection e5 with e51 _ e53
        subst e51 e53
        have hrd5 := (ho5.rd.lower (Nat.zero_le _)).ext (show Ext Y Z from hEY)
        obtain ⟨qb, qo, rfl, _, hbz, hbc⟩ := hrd5.2 (by omega)
        obtain ⟨q0, q1, q2⟩ := qus_cells hbc 0 x0 (by rw [hx0]; rfl)
        rw [Nat.zero_mul, Nat.add_zero] at q0 q1 q2
        have HEq := Lib.hid (fun V => ref16_equal x0.name x0.typ x0.cls n ty cls V (HBd.out.qok x0 (by rw [hx0]; simp)) (by omega))
        generalize (sameN x0.name n && (decide (x0.typ = ty) && decide (x0.cls = cls))) = B at *
        obtain ⟨xn, xt, xc⟩ := x0
        dsimp only at q0 q1 q2 HEq
        have HS5 := Lib.hid (fun V (hV : Ext Z V) => (show V.cell? ⟨g7, 1, none⟩ = some (.bool true) ∧ V.cell? ⟨g7, 2, none⟩ = some (.int .u8 0) ∧ V.cell? ⟨g7, 11, none⟩ = some (.slice (some ⟨qb, qo, none⟩) 1 qc) ∧ (V.cell? ⟨qb, qo, none⟩ = some (S xn) ∧ V.cell? ⟨qb, qo + 1, none⟩ = some (.int .u16 xt) ∧ V.cell? ⟨qb, qo + 2, none⟩ = some (.int .u16 xc)) ∧ V.cell? ⟨g3, 0, none⟩ = some (S n) ∧ V.cell? ⟨g3, 1, none⟩ = some (.int .u16 ty) ∧ V.cell? ⟨g3, 2, none⟩ = some (.int .u16 cls) from by
          have rV := (hV.block _ (Array.getElem?_eq_some_iff.1 r7).1).trans r7
          exact ⟨by rw [← hqr]; exact box_cell rV rfl, by rw [← hop]; exact box_cell rV rfl, by rw [← hl]; exact box_cell rV rfl, ⟨(hV.cell (cell_lt q0)).trans q0, (hV.cell (cell_lt q1)).trans q1, (hV.cell (cell_lt q2)).trans q2⟩, keepQ hV rq⟩))
        clear hqr hop hl q0 q1 q2 hbc hbz hrd5 hx0
        refine wp_region_noPanic ?_
        refine wp_region_tree (S := (fun V => V.cell? ⟨g7, 1, none⟩ = some (.bool true) ∧ V.cell? ⟨g7, 2, none⟩ = some (.int .u8 0) ∧ V.cell? ⟨g7, 11, none⟩ = some (.slice (some ⟨qb, qo, none⟩) 1 qc) ∧ (V.cell? ⟨qb, qo, none⟩ = some (S xn) ∧ V.cell? ⟨qb, qo + 1, none⟩ = some (.int .u16 xt) ∧ V.cell? ⟨qb, qo + 2, none⟩ = some (.int .u16 xc)) ∧ V.cell? ⟨g3, 0, none⟩ = some (S n) ∧ V.cell? ⟨g3, 1, none⟩ = some (.int .u16 ty) ∧ V.cell? ⟨g3, 2, none⟩ = some (.int .u16 cls))) (.take 0 (.take 1 (.take 2 (.take 3 (.take 4 (.take 5 (.take 6 (.take 7 (.take 8 (.take 9 (.take 10 (.take 11 (.take 12 (.take 13 (.take 14 (.take 15 (.take 16 (.take 17 (.take 18 (.take 19 (.take 20 (.take 21 (.take 22 (.take 23 (.take 24 (.run 25 (.take 26 (.take 27 (.done))))))))))))))))))))))))))))) (by kernel_rfl) (by kernel_rfl) (fun _ _ _ _ _ h => h) ((HS5.out _ (Ext.refl Z).drew)) ?_
        repeat ((with_reducible refine treeIs ?_); first
          | (refine treeTakeX (a' := ?_) ⟨_, (HS5.out _ (Ext.refl Z).drew)⟩ (by rfl) rfl (by kernel_rfl) rfl ?_ ?_; rotate_left; (focus (intro V Q' hV hq; obtain ⟨hV1, hV2, hV3, ⟨hV4, hV5, hV6⟩, hV7, hV8, hV9⟩ := hV; (repeat (first | go_guarded | go_skip | go_step)); (first | exact hq | exact wpList_nil hq)))))
        refine treeRun (by rfl) (fun K hK => ?_)
        go_simp
        refine (HEq.out _).mono ?_
        rintro e we ⟨rfl, hEq⟩
        have hEe : Ext Z we := ((Ext.refl Z).drew).trans hEq
        clear hEq
        refine hK.out _ _ ?_ ?_
        · exact (HS5.out _ hEe)
        clear hK K
        (try simp only [Act.put, List.setIfInBounds_toArray, List.set_cons_zero, List.set_cons_succ])
        repeat ((with_reducible refine treeIs ?_); first
          | (refine treeTakeX (a' := ?_) ⟨_, (HS5.out _ (Ext.refl Z).drew)⟩ (by rfl) rfl (by kernel_rfl) rfl ?_ ?_; rotate_left; (focus (intro V Q' hV hq; obtain ⟨hV1, hV2, hV3, ⟨hV4, hV5, hV6⟩, hV7, hV8, hV9⟩ := hV; (repeat (first | go_guarded | go_skip | go_step)); (first | exact hq | exact wpList_nil hq)))))
        refine treeDone ?_
        refine NoPanic.normal ?_
        (try go_wp2_with fail)
        go_meet
        exact ⟨by rw [HIt.out]; try rfl, hEe⟩
      · have HIt := Lib.hid (show itsB m n ty cls = false from by unfold itsB; rw [asks_not hl]; cases m.hd.qr <;> cases decide (m.hd.op = 0) <;> rfl)
        have hl1 : ((m.qs.length : Int) == 1) = false := by rw [beq_eq_false_iff_ne]; omega
        have hl2 : ¬ (m.qs.length : Int) = 1 := by omega
        have HS5 := Lib.hid (fun V (hV : Ext Z V) => (show V.cell? ⟨g7, 1, none⟩ = some (.bool true) ∧ V.cell? ⟨g7, 2, none⟩ = some (.int .u8 0) ∧ V.cell? ⟨g7, 11, none⟩ = some (.slice qA m.qs.length qc) from by
          have rV := (hV.block _ (Array.getElem?_eq_some_iff.1 r7).1).trans r7
          exact ⟨by rw [← hqr]; exact box_cell rV rfl, by rw [← hop]; exact box_cell rV rfl, box_cell rV rfl⟩))
        refine wp_region_noPanic ?_
        refine wp_region_tree (S := (fun V => V.cell? ⟨g7, 1, none⟩ = some (.bool true) ∧ V.cell? ⟨g7, 2, none⟩ = some (.int .u8 0) ∧ V.cell? ⟨g7, 11, none⟩ = some (.slice qA m.qs.length qc))) (.take 0 (.take 1 (.take 2 (.take 3 (.take 4 (.take 5 (.take 6 (.take 7 (.take 8 (.take 9 (.take 10 (.take 11 (.take 12 (.take 13 (.take 14 (.take 15 (.take 16 (.take 17 (.take 18 (.take 19 (.take 20 (.take 21 (.take 22 (.take 23 (.take 24 (.take 25 (.take 26 (.take 27 (.done))))))))))))))))))))))))))))) (by kernel_rfl) (by kernel_rfl) (fun _ _ _ _ _ h => h) ((HS5.out _ (Ext.refl Z).drew)) ?_
        repeat ((with_reducible refine treeIs ?_); first
          | (refine treeTakeX (a' := ?_) ⟨_, (HS5.out _ (Ext.refl Z).drew)⟩ (by rfl) rfl (by kernel_rfl) rfl ?_ ?_; rotate_left; (focus (intro V Q' hV hq; obtain ⟨hV1, hV2, hV3⟩ := hV; (repeat (first | go_guarded | go_skip | go_step)); (first | exact hq | exact wpList_nil hq))))
          | (refine treeSkip (by rfl) (by rfl) ?_; (try simp only [Act.put, List.setIfInBounds_toArray, List.set_cons_zero, List.set_cons_succ])))
        refine treeDone ?_
        refine NoPanic.normal ?_
        (try go_wp2_with fail)
        go_meet
        exact ⟨by rw [HIt.out]; try rfl, (Ext.refl Z).drew⟩
    · have HIt := Lib.hid (show itsB m n ty cls = false from by unfold itsB; rw [decide_eq_false hop]; cases m.hd.qr <;> rfl)
      have hop1 : (m.hd.op == 0) = false := by rw [beq_eq_false_iff_ne]; exact hop
      have hop2 : decide (m.hd.op = 0) = false := decide_eq_false hop
      have HS5 := Lib.hid (fun V (hV : Ext Z V) => (show V.cell? ⟨g7, 1, none⟩ = some (.bool true) ∧ V.cell? ⟨g7, 2, none⟩ = some (.int .u8 m.hd.op) ∧ V.cell? ⟨g7, 11, none⟩ = some (.slice qA m.qs.length qc) from by
        have rV := (hV.block _ (Array.getElem?_eq_some_iff.1 r7).1).trans r7
        exact ⟨by rw [← hqr]; exact box_cell rV rfl, by exact box_cell rV rfl, box_cell rV rfl⟩))
      refine wp_region_noPanic ?_
      refine wp_region_tree (S := (fun V => V.cell? ⟨g7, 1, none⟩ = some (.bool true) ∧ V.cell? ⟨g7, 2, none⟩ = some (.int .u8 m.hd.op) ∧ V.cell? ⟨g7, 11, none⟩ = some (.slice qA m.qs.length qc))) (.take 0 (.take 1 (.take 2 (.take 3 (.take 4 (.take 5 (.take 6 (.take 7 (.take 8 (.take 9 (.take 10 (.take 11 (.take 12 (.take 13 (.take 14 (.take 15 (.take 16 (.take 17 (.take 18 (.take 19 (.take 20 (.take 21 (.take 22 (.take 23 (.take 24 (.take 25 (.take 26 (.take 27 (.done))))))))))))))))))))))))))))) (by kernel_rfl) (by kernel_rfl) (fun _ _ _ _ _ h => h) ((HS5.out _ (Ext.refl Z).drew)) ?_
      repeat ((with_reducible refine treeIs ?_); first
        | (refine treeTakeX (a' := ?_) ⟨_, (HS5.out _ (Ext.refl Z).drew)⟩ (by rfl) rfl (by kernel_rfl) rfl ?_ ?_; rotate_left; (focus (intro V Q' hV hq; obtain ⟨hV1, hV2, hV3⟩ := hV; (repeat (first | go_guarded | go_skip | go_step)); (first | exact hq | exact wpList_nil hq))))
        | (refine treeSkip (by rfl) (by rfl) ?_; (try simp only [Act.put, List.setIfInBounds_toArray, List.set_cons_zero, List.set_cons_succ])))
      refine treeDone ?_
      refine NoPanic.normal ?_
      (try go_wp2_with fail)
      go_meet
      exact ⟨by rw [HIt.out]; try rfl, (Ext.refl Z).drew⟩
  case rest =>
    obtain ⟨rfl, hE5⟩ := hcut
    obtain ⟨W5, rfl⟩ : ∃ W5 : World, W5 = wc := ⟨_, rfl⟩
    rw [Hits.out]
    have r76 := (hE5.block _ (Array.getElem?_eq_some_iff.1 r7).1).trans r7
    have rX6 := (hE5.block _ (Array.getElem?_eq_some_iff.1 rX).1).trans rX
    obtain ⟨k0, k1, k2⟩ := keepQ hE5 rq
    have c10 := box_cell (j := 10) r76 rfl
    have c17 := box_cell (j := 17) r76 rfl
    change W5.cell? ⟨g7, 10, none⟩ = some (.int .u8 m.hd.code) at c10
    change W5.cell? ⟨g7, 17, none⟩ = some (.int .u8 m.ed.ext) at c17
    obtain ⟨cn, hcn⟩ : ∃ cn : Nat, m.hd.code = (cn : Int) := ⟨m.hd.code.toNat, by have := d1.out.code; omega⟩
    obtain ⟨xn, hxn⟩ : ∃ xn : Nat, m.ed.ext = (xn : Int) := ⟨m.ed.ext.toNat, by have := d1.out.ext; omega⟩
    have hce : ((xn * 16 + cn % 16 : Nat) : Int) = code12 m := by
      unfold code12
      rw [hcn]
      rcases hhe : m.he with _ | _
      · have h0 : m.ed.ext = 0 := by rw [d4.out hhe]; rfl
        rw [h0] at hxn
        simp only [Bool.false_eq_true, if_false]
        omega
      · simp only [if_true]
        rw [hxn]
        omega
    have HCd := Lib.hid (fun V => edns_code7 cn xn V (by have := d1.out.code; have := hcl; omega) (by have := d1.out.ext; omega))
    rw [hce] at HCd
    rw [hcn] at c10
    rw [hxn] at c17
    clear hce
    clear hcn hxn
    go_wp2_with fail
    refine (HCd.out _).mono ?_
    rintro e w6 ⟨rfl, hq6⟩
    rw [← hq6]
    clear hq6 c10 c17
    go_upto_region 8 with (first | (refine wpList_load_part (by rfl) 56 (.tmp 6) rfl g7 0 rfl [.int .u16 m.hd.id, .bool m.hd.qr, .int .u8 m.hd.op, .bool m.hd.aa, .bool m.hd.tc, .bool m.hd.rd, .bool m.hd.ra, .bool m.hd.z, .bool m.hd.ad, .bool m.hd.cd, .int .u8 m.hd.code, .slice qA m.qs.length qc, .slice aA m.ans.length ac, .slice uA m.auth.length uc, .slice xA m.extra.length xc, .bool m.he, .int .u16 m.ed.size, .int .u8 m.ed.ext, .int .u8 m.ed.ver, .int .u16 m.ed.flags, .slice oA m.ed.opts.length oc] (row_all r76) _ Tryz.underlying56 rfl (by kernel_rfl) ?_) | (go_at_call 22; refine (HVo.out _ hE5).mono ?_; rintro e W7 ⟨us, uo, rfl, hus, huo, _, hE7⟩; have Hus := Lib.hid hus; have Huo := Lib.hid huo; obtain ⟨qs, yA, yc, hqs, rfl, _, _⟩ := hus; obtain ⟨qo', zA, zc, hqo, rfl, _, _⟩ := huo) | fail)
    obtain ⟨R, hRv⟩ : ∃ R, R = verOf n ty cls m.hd.code m.ans m.auth := ⟨_, rfl⟩
    rw [← hRv] at Hus Huo hqs hqo ⊢
    have HRv := Lib.hid hRv
    obtain ⟨W8, hW8⟩ : ∃ W8, W8 = W7.alloc (.cells #[.int .u8 R.code, .slice yA qs.length yc, .slice zA qo'.length zc] 32) := ⟨_, rfl⟩
    obtain ⟨gv, hgv⟩ : ∃ gv, gv = W7.heap.size := ⟨_, rfl⟩
    have rv : W8.heap[gv]? = some (.cells #[.int .u8 R.code, .slice yA qs.length yc, .slice zA qo'.length zc] 32) := by rw [hW8, hgv]; exact heap_alloc_new _ _
    have hE78 : Ext W7 W8 := by rw [hW8]; exact (Ext.refl _).alloc _
    rw [← hW8, ← hgv]
    clear hW8 hgv hRv k0 k1 k2
    have hE58 := hE7.trans hE78
    have hEw8 : Ext w W8 := (hEZ.trans hE5).trans hE58
    have rX8 := (hE58.block _ (Array.getElem?_eq_some_iff.1 rX6).1).trans rX6
    have r78 := (hE58.block _ (Array.getElem?_eq_some_iff.1 r76).1).trans r76
    have x0 := box_cell (j := 0) rX8 rfl
    have x1 := box_cell (j := 1) rX8 rfl
    have x2 := box_cell (j := 2) rX8 rfl
    have x3 := box_cell (j := 3) rX8 rfl
    have x4 := box_cell (j := 4) rX8 rfl
    have hX8 : Ext w3 W8 := hX3.trans (hE5.trans hE58)
    have t4 := box_cell (j := 4) r78 rfl
    change W8.cell? ⟨g7, 4, none⟩ = some (.bool m.hd.tc) at t4
    rcases htc : m.hd.tc with _ | _
    · rw [htc] at t4
      have hpc := Hpass.out.resolve_left (by rw [htc]; simp)
      obtain ⟨hc0, hc3⟩ := hpc
      generalize code12 m = cd at *
      have n0 : (cd != 0) = true := by rw [bne_iff_ne]; exact hc0
      have n3 : (cd != 3) = true := by rw [bne_iff_ne]; exact hc3
      have n4 : ¬ ((cd != 0) = false ∨ (cd != 3) = false) := by rw [n0, n3]; simp
      have q0 : decide (cd = 0) = false := decide_eq_false hc0
      have q3 : decide (cd = 3) = false := decide_eq_false hc3
      clear htc
      go_wp2_with fail
      refine (ref24_same 2 0 0 [] [] _ _ _ _ _ _ _ _ _ _ _ _ _ ((Hs.out.sets.lower24 (Nat.zero_le _)).ext hX8) (sets_nil24 _) ((Ho.out.sets.lower24 (Nat.zero_le _)).ext hX8) (sets_nil24 _)).mono ?_
      rintro e wS ⟨rfl, hES⟩
      go_wp2_with fail
      go_ret
      exact ⟨rfl, hEw8.trans hES⟩
    · rw [htc] at t4
      clear htc
      go_wp2_with fail
      refine (ref24_same 2 0 0 [] [] _ _ _ _ _ _ _ _ _ _ _ _ _ ((Hs.out.sets.lower24 (Nat.zero_le _)).ext hX8) (sets_nil24 _) ((Ho.out.sets.lower24 (Nat.zero_le _)).ext hX8) (sets_nil24 _)).mono ?_
      rintro e wS ⟨rfl, hES⟩
      go_wp2_with fail
      go_ret
      exact ⟨rfl, hEw8.trans hES⟩
set_option maxHeartbeats 16000000 in
theorem law24_votes_vote (n d : List UInt8) (ty cls : Int) (a b : Addr) (w : World) (hg : Laid w) (hb : BitsAt w) (he : ErrsAt w a b) (hn : n.length ≤ 3000) (hd : d.length ≤ 3000) {m : MsgD} (hdec : decR d = .ok m) (hits : itsB m n ty cls = true) (htc : m.hd.tc = false) (hcode : code12 m = 0 ∨ code12 m = 3) (herr : (verOf n ty cls m.hd.code m.ans m.auth).err = 0) :
    Calls Tryz.prog 6 #[.agg #[S n, .int .u16 ty, .int .u16 cls], S d] w fun e w' => e = .returned (.bool true) ∧ Ext w w' := by
  have HAw := Lib.hid (fun V (hV : Ext w V) => law24_awake a b V (hg.ext hV) (hb.ext hV) (he.ext hV))
  obtain ⟨X0, hX0⟩ : ∃ X0, X0 = w.alloc (.cells #[S n, .int .u16 ty, .int .u16 cls] 24) := ⟨_, rfl⟩
  obtain ⟨g3, hg3⟩ : ∃ g3, g3 = w.heap.size := ⟨_, rfl⟩
  have r0 : X0.heap[g3]? = some (.cells #[S n, .int .u16 ty, .int .u16 cls] 24) := by rw [hX0, hg3]; exact heap_alloc_new _ _
  have hE0 : Ext w X0 := by rw [hX0]; exact (Ext.refl _).alloc _
  go_enter Tryz.func6, Tryz.ntmps6
  go_upto_region 1 with fail
  rw [← hX0, ← hg3]
  clear hX0 hg3
  have k0 := box_cell (j := 0) r0 rfl
  have k1 := box_cell (j := 1) r0 rfl
  have k2 := box_cell (j := 2) r0 rfl
  have hni : ¬ (3000 : Int) < (n.length : Int) := by omega
  have hdi : ¬ (3000 : Int) < (d.length : Int) := by omega
  have Hdec := Lib.hid hdec
  have hRm : replyOf d n ty cls = replyM m n ty cls := by unfold replyOf; rw [hdec]
  have d1 := Lib.hid (decR_ok hdec).1
  have d4 := Lib.hid (decR_ok hdec).2.2.2.1
  have hcl := dec_code hdec
  have hfew := dec_few hdec
  obtain ⟨hsh1, hsh2⟩ := dec_short hdec
  clear hdec
  have Hits := Lib.hid hits
  have hIt := its_iff.1 hits
  have Htc := Lib.hid htc
  have Hcode := Lib.hid hcode
  have hRv := hRm.trans (replyM_vote hIt Htc.out Hcode.out)
  clear hits htc hcode hRm hIt
  have Herr := Lib.hid herr
  have HR := Lib.hid (hRv.trans (if_pos herr))
  clear herr hRv
  obtain ⟨R, hRV⟩ : ∃ R, R = verOf n ty cls m.hd.code m.ans m.auth := ⟨_, rfl⟩
  rw [← hRV] at HR Herr
  have HRV := Lib.hid hRV
  clear hRV
  go_wp2_with fail
  refine (HAw.out _ hE0).mono ?_
  rintro e w1 ⟨rfl, hE1⟩
  have rq := (hE1.block _ (Array.getElem?_eq_some_iff.1 r0).1).trans r0
  have hw1 : Ext w w1 := hE0.trans hE1
  clear k0 k1 k2
  have k0 := box_cell (j := 0) rq rfl
  have k1 := box_cell (j := 1) rq rfl
  have k2 := box_cell (j := 2) rq rfl
  have HLk := Lib.hid (heard_look d n ty cls a b w1 (hg.ext hw1) (hb.ext hw1) (he.ext hw1) (by omega) (by omega))
  rw [HR.out] at HLk
  unfold LookH at HLk
  go_upto_region 4 with (first | (go_at_call 14; refine HLk.out.mono ?_; rintro e w3 ⟨vs, vo, rfl, hs, ho, _, hE3⟩; have Hs := Lib.hid hs; have Ho := Lib.hid ho; obtain ⟨ps, pA, pc, hps, rfl, _, _⟩ := hs; obtain ⟨po, tA, tc, hpo, rfl, _, _⟩ := ho) | fail)
  (try dsimp only at Hs Ho ⊢)
  obtain ⟨W3, hW3⟩ : ∃ W3, W3 = w3.alloc (.cells #[.int .u8 3, .int .u8 R.code, .slice pA ps.length pc, .slice tA po.length tc, .int .u32 R.time] 37) := ⟨_, rfl⟩
  obtain ⟨b5, hb5⟩ : ∃ b5, b5 = w3.heap.size := ⟨_, rfl⟩
  have rX : W3.heap[b5]? = some (.cells #[.int .u8 3, .int .u8 R.code, .slice pA ps.length pc, .slice tA po.length tc, .int .u32 R.time] 37) := by rw [hW3, hb5]; exact heap_alloc_new _ _
  have hE34 : Ext w3 W3 := by rw [hW3]; exact (Ext.refl _).alloc _
  rw [← hW3, ← hb5]
  clear hW3 hb5 hps hpo k0 k1 k2
  have hw3 : Ext w W3 := (hw1.trans hE3).trans hE34
  have rq := ((hE3.trans hE34).block _ (Array.getElem?_eq_some_iff.1 rq).1).trans rq
  have HD := Lib.hid (wire_decode d W3 (hg.ext hw3) (hb.ext hw3) (by omega))
  go_wp2_with fail
  refine HD.out.mono ?_
  rintro e Y ⟨hor, hEd⟩
  rcases hor with ⟨k, hk, hx, rfl⟩ | ⟨m', q, a', u, x, o, hm', rfl, hMO, hBd⟩
  case inl => rw [Hdec.out] at hx; cases hx
  obtain rfl : m = m' := by have := Hdec.out; rw [hm'] at this; injection this with this; exact this.symm
  clear hm'
  have HMO := Lib.hid hMO
  have HBd := Lib.hid hBd
  obtain ⟨⟨qA, qc, rfl, _⟩, ⟨aA, ac, rfl, _⟩, ⟨uA, uc, rfl, _⟩, ⟨xA, xc, rfl, _⟩, ⟨oA, oc, rfl, _⟩⟩ := hMO
  dsimp only
  iterate 10 go_step
  obtain ⟨g7, hg7⟩ : ∃ g7, g7 = Y.heap.size := ⟨_, rfl⟩
  have hz : (Y.alloc (.cells msgZ 56)).heap[g7]? = some (.cells msgZ 56) := by rw [hg7]; exact heap_alloc_new _ _
  refine Go.Great.wpList_allocTo rfl (some 6) rfl (.pointer (some ⟨Y.heap.size, 0, none⟩)) (.cells msgZ 56) (by kernel_rfl) ?_
  rw [← hg7]
  refine Go.wpList_store_rowTo rfl 56 (.tmp 6) (.tmp 33) rfl rfl g7 #[.int .u16 m.hd.id, .bool m.hd.qr, .int .u8 m.hd.op, .bool m.hd.aa, .bool m.hd.tc, .bool m.hd.rd, .bool m.hd.ra, .bool m.hd.z, .bool m.hd.ad, .bool m.hd.cd, .int .u8 m.hd.code, .slice qA m.qs.length qc, .slice aA m.ans.length ac, .slice uA m.auth.length uc, .slice xA m.extra.length xc, .bool m.he, .int .u16 m.ed.size, .int .u8 m.ed.ext, .int .u8 m.ed.ver, .int .u16 m.ed.flags, .slice oA m.ed.opts.length oc] rfl rfl 56 _ hz (by kernel_rfl) rfl (by kernel_rfl) ?_
  rw [alloc_setRowH Y msgZ #[.int .u16 m.hd.id, .bool m.hd.qr, .int .u8 m.hd.op, .bool m.hd.aa, .bool m.hd.tc, .bool m.hd.rd, .bool m.hd.ra, .bool m.hd.z, .bool m.hd.ad, .bool m.hd.cd, .int .u8 m.hd.code, .slice qA m.qs.length qc, .slice aA m.ans.length ac, .slice uA m.auth.length uc, .slice xA m.extra.length xc, .bool m.he, .int .u16 m.ed.size, .int .u8 m.ed.ext, .int .u8 m.ed.ver, .int .u16 m.ed.flags, .slice oA m.ed.opts.length oc] 56 g7 hg7]
  iterate 3 go_step
  refine wpList_nil ?_
  rw [← hg7]
  have r7 : (Y.alloc (.cells #[.int .u16 m.hd.id, .bool m.hd.qr, .int .u8 m.hd.op, .bool m.hd.aa, .bool m.hd.tc, .bool m.hd.rd, .bool m.hd.ra, .bool m.hd.z, .bool m.hd.ad, .bool m.hd.cd, .int .u8 m.hd.code, .slice qA m.qs.length qc, .slice aA m.ans.length ac, .slice uA m.auth.length uc, .slice xA m.extra.length xc, .bool m.he, .int .u16 m.ed.size, .int .u8 m.ed.ext, .int .u8 m.ed.ver, .int .u16 m.ed.flags, .slice oA m.ed.opts.length oc] 56)).heap[g7]? = some (.cells #[.int .u16 m.hd.id, .bool m.hd.qr, .int .u8 m.hd.op, .bool m.hd.aa, .bool m.hd.tc, .bool m.hd.rd, .bool m.hd.ra, .bool m.hd.z, .bool m.hd.ad, .bool m.hd.cd, .int .u8 m.hd.code, .slice qA m.qs.length qc, .slice aA m.ans.length ac, .slice uA m.auth.length uc, .slice xA m.extra.length xc, .bool m.he, .int .u16 m.ed.size, .int .u8 m.ed.ext, .int .u8 m.ed.ver, .int .u16 m.ed.flags, .slice oA m.ed.opts.length oc] 56) := by rw [hg7]; exact heap_alloc_new _ _
  have hEY : Ext Y (Y.alloc (.cells #[.int .u16 m.hd.id, .bool m.hd.qr, .int .u8 m.hd.op, .bool m.hd.aa, .bool m.hd.tc, .bool m.hd.rd, .bool m.hd.ra, .bool m.hd.z, .bool m.hd.ad, .bool m.hd.cd, .int .u8 m.hd.code, .slice qA m.qs.length qc, .slice aA m.ans.length ac, .slice uA m.auth.length uc, .slice xA m.extra.length xc, .bool m.he, .int .u16 m.ed.size, .int .u8 m.ed.ext, .int .u8 m.ed.ver, .int .u16 m.ed.flags, .slice oA m.ed.opts.length oc] 56)) := (Ext.refl _).alloc _
  obtain ⟨Z, hZ⟩ : ∃ Z, Z = Y.alloc (.cells #[.int .u16 m.hd.id, .bool m.hd.qr, .int .u8 m.hd.op, .bool m.hd.aa, .bool m.hd.tc, .bool m.hd.rd, .bool m.hd.ra, .bool m.hd.z, .bool m.hd.ad, .bool m.hd.cd, .int .u8 m.hd.code, .slice qA m.qs.length qc, .slice aA m.ans.length ac, .slice uA m.auth.length uc, .slice xA m.extra.length xc, .bool m.he, .int .u16 m.ed.size, .int .u8 m.ed.ext, .int .u8 m.ed.ver, .int .u16 m.ed.flags, .slice oA m.ed.opts.length oc] 56) := ⟨_, rfl⟩
  rw [← hZ] at r7 hEY ⊢
  have hEZ : Ext w Z := hw3.trans (hEd.trans hEY)
  clear hZ hz hg7
  have rq := ((hEd.trans hEY).block _ (Array.getElem?_eq_some_iff.1 rq).1).trans rq
  have rX := ((hEd.trans hEY).block _ (Array.getElem?_eq_some_iff.1 rX).1).trans rX
  have hX3 : Ext w3 Z := hE34.trans (hEd.trans hEY)
  have HVo := Lib.hid (fun V (hV : Ext Z V) => ver_of (xOf m qA xA oA qc xc oc) n ty cls m.hd.code 0 aA ac uA uc m.ans m.auth V (hg.ext (hEZ.trans hV)) ((HMO.out.ans.recs.lower (Nat.zero_le _)).ext (hEY.trans hV)) ((HMO.out.auth.recs.lower (Nat.zero_le _)).ext (hEY.trans hV)) ⟨by have := hfew; omega, hsh1⟩ ⟨by have := hfew; omega, hsh2⟩ (fun r hr => ⟨(d1.out.ans r hr).1, (d1.out.ans r hr).2.1⟩) (fun r hr => ⟨(d1.out.auth r hr).1, (d1.out.auth r hr).2.1⟩) (by omega))
  rw [← HRV.out] at HVo
  go_upto_region 5 with fail
  go_cut [8] (fun s8 wx => s8 = .bool (itsB m n ty cls) ∧ Ext Z wx)
  case first =>
    rcases hqr : m.hd.qr with _ | _
    · have HIt := Lib.hid (show itsB m n ty cls = false from by unfold itsB; rw [hqr]; rfl)
      have HS5 := Lib.hid (fun V (hV : Ext Z V) => (show V.cell? ⟨g7, 1, none⟩ = some (.bool false) ∧ V.cell? ⟨g7, 2, none⟩ = some (.int .u8 m.hd.op) ∧ V.cell? ⟨g7, 11, none⟩ = some (.slice qA m.qs.length qc) from by
        have rV := (hV.block _ (Array.getElem?_eq_some_iff.1 r7).1).trans r7
        exact ⟨by rw [← hqr]; exact box_cell rV rfl, by exact box_cell rV rfl, box_cell rV rfl⟩))
      refine wp_region_noPanic ?_
      refine wp_region_tree (S := (fun V => V.cell? ⟨g7, 1, none⟩ = some (.bool false) ∧ V.cell? ⟨g7, 2, none⟩ = some (.int .u8 m.hd.op) ∧ V.cell? ⟨g7, 11, none⟩ = some (.slice qA m.qs.length qc))) (.take 0 (.take 1 (.take 2 (.take 3 (.take 4 (.take 5 (.take 6 (.take 7 (.take 8 (.take 9 (.take 10 (.take 11 (.take 12 (.take 13 (.take 14 (.take 15 (.take 16 (.take 17 (.take 18 (.take 19 (.take 20 (.take 21 (.take 22 (.take 23 (.take 24 (.take 25 (.take 26 (.take 27 (.done))))))))))))))))))))))))))))) (by kernel_rfl) (by kernel_rfl) (fun _ _ _ _ _ h => h) ((HS5.out _ (Ext.refl Z).drew)) ?_
      repeat ((with_reducible refine treeIs ?_); first
        | (refine treeTakeX (a' := ?_) ⟨_, (HS5.out _ (Ext.refl Z).drew)⟩ (by rfl) rfl (by kernel_rfl) rfl ?_ ?_; rotate_left; (focus (intro V Q' hV hq; obtain ⟨hV1, hV2, hV3⟩ := hV; (repeat (first | go_guarded | go_skip | go_step)); (first | exact hq | exact wpList_nil hq))))
        | (refine treeSkip (by rfl) (by rfl) ?_; (try simp only [Act.put, List.setIfInBounds_toArray, List.set_cons_zero, List.set_cons_succ])))
      refine treeDone ?_
      refine NoPanic.normal ?_
      (try go_wp2_with fail)
      go_meet
      exact ⟨by rw [HIt.out]; try rfl, (Ext.refl Z).drew⟩
    by_cases hop : m.hd.op = 0
    · by_cases hl : m.qs.length = 1
      · obtain ⟨x0, hx0⟩ := List.length_eq_one_iff.1 hl
        have HIt := Lib.hid (show itsB m n ty cls = (sameN x0.name n && (decide (x0.typ = ty) && decide (x0.cls = cls))) from by unfold itsB; rw [asks_one hx0, hqr, hop]; rfl)
        obtain ⟨A5, c5, e5, ho5⟩ := HMO.out.qs
        injection e5 with e51 _ e53
        subst e51 e53
        have hrd5 := (ho5.rd.lower (Nat.zero_le _)).ext (show Ext Y Z from hEY)
        obtain ⟨qb, qo, rfl, _, hbz, hbc⟩ := hrd5.2 (by omega)
        obtain ⟨q0, q1, q2⟩ := qus_cells hbc 0 x0 (by rw [hx0]; rfl)
        rw [Nat.zero_mul, Nat.add_zero] at q0 q1 q2
        have HEq := Lib.hid (fun V => ref16_equal x0.name x0.typ x0.cls n ty cls V (HBd.out.qok x0 (by rw [hx0]; simp)) (by omega))
        generalize (sameN x0.name n && (decide (x0.typ = ty) && decide (x0.cls = cls))) = B at *
        obtain ⟨xn, xt, xc⟩ := x0
        dsimp only at q0 q1 q2 HEq
        have HS5 := Lib.hid (fun V (hV : Ext Z V) => (show V.cell? ⟨g7, 1, none⟩ = some (.bool true) ∧ V.cell? ⟨g7, 2, none⟩ = some (.int .u8 0) ∧ V.cell? ⟨g7, 11, none⟩ = some (.slice (some ⟨qb, qo, none⟩) 1 qc) ∧ (V.cell? ⟨qb, qo, none⟩ = some (S xn) ∧ V.cell? ⟨qb, qo + 1, none⟩ = some (.int .u16 xt) ∧ V.cell? ⟨qb, qo + 2, none⟩ = some (.int .u16 xc)) ∧ V.cell? ⟨g3, 0, none⟩ = some (S n) ∧ V.cell? ⟨g3, 1, none⟩ = some (.int .u16 ty) ∧ V.cell? ⟨g3, 2, none⟩ = some (.int .u16 cls) from by
          have rV := (hV.block _ (Array.getElem?_eq_some_iff.1 r7).1).trans r7
          exact ⟨by rw [← hqr]; exact box_cell rV rfl, by rw [← hop]; exact box_cell rV rfl, by rw [← hl]; exact box_cell rV rfl, ⟨(hV.cell (cell_lt q0)).trans q0, (hV.cell (cell_lt q1)).trans q1, (hV.cell (cell_lt q2)).trans q2⟩, keepQ hV rq⟩))
        clear hqr hop hl q0 q1 q2 hbc hbz hrd5 hx0
        refine wp_region_noPanic ?_
        refine wp_region_tree (S := (fun V => V.cell? ⟨g7, 1, none⟩ = some (.bool true) ∧ V.cell? ⟨g7, 2, none⟩ = some (.int .u8 0) ∧ V.cell? ⟨g7, 11, none⟩ = some (.slice (some ⟨qb, qo, none⟩) 1 qc) ∧ (V.cell? ⟨qb, qo, none⟩ = some (S xn) ∧ V.cell? ⟨qb, qo + 1, none⟩ = some (.int .u16 xt) ∧ V.cell? ⟨qb, qo + 2, none⟩ = some (.int .u16 xc)) ∧ V.cell? ⟨g3, 0, none⟩ = some (S n) ∧ V.cell? ⟨g3, 1, none⟩ = some (.int .u16 ty) ∧ V.cell? ⟨g3, 2, none⟩ = some (.int .u16 cls))) (.take 0 (.take 1 (.take 2 (.take 3 (.take 4 (.take 5 (.take 6 (.take 7 (.take 8 (.take 9 (.take 10 (.take 11 (.take 12 (.take 13 (.take 14 (.take 15 (.take 16 (.take 17 (.take 18 (.take 19 (.take 20 (.take 21 (.take 22 (.take 23 (.take 24 (.run 25 (.take 26 (.take 27 (.done))))))))))))))))))))))))))))) (by kernel_rfl) (by kernel_rfl) (fun _ _ _ _ _ h => h) ((HS5.out _ (Ext.refl Z).drew)) ?_
        repeat ((with_reducible refine treeIs ?_); first
          | (refine treeTakeX (a' := ?_) ⟨_, (HS5.out _ (Ext.refl Z).drew)⟩ (by rfl) rfl (by kernel_rfl) rfl ?_ ?_; rotate_left; (focus (intro V Q' hV hq; obtain ⟨hV1, hV2, hV3, ⟨hV4, hV5, hV6⟩, hV7, hV8, hV9⟩ := hV; (repeat (first | go_guarded | go_skip | go_step)); (first | exact hq | exact wpList_nil hq)))))
        refine treeRun (by rfl) (fun K hK => ?_)
        go_simp
        refine (HEq.out _).mono ?_
        rintro e we ⟨rfl, hEq⟩
        have hEe : Ext Z we := ((Ext.refl Z).drew).trans hEq
        clear hEq
        refine hK.out _ _ ?_ ?_
        · exact (HS5.out _ hEe)
        clear hK K
        (try simp only [Act.put, List.setIfInBounds_toArray, List.set_cons_zero, List.set_cons_succ])
        repeat ((with_reducible refine treeIs ?_); first
          | (refine treeTakeX (a' := ?_) ⟨_, (HS5.out _ (Ext.refl Z).drew)⟩ (by rfl) rfl (by kernel_rfl) rfl ?_ ?_; rotate_left; (focus (intro V Q' hV hq; obtain ⟨hV1, hV2, hV3, ⟨hV4, hV5, hV6⟩, hV7, hV8, hV9⟩ := hV; (repeat (first | go_guarded | go_skip | go_step)); (first | exact hq | exact wpList_nil hq)))))
        refine treeDone ?_
        refine NoPanic.normal ?_
        (try go_wp2_with fail)
        go_meet
        exact ⟨by rw [HIt.out]; try rfl, hEe⟩
      · have HIt := Lib.hid (show itsB m n ty cls = false from by unfold itsB; rw [asks_not hl]; cases m.hd.qr <;> cases decide (m.hd.op = 0) <;> rfl)
        have hl1 : ((m.qs.length : Int) == 1) = false := by rw [beq_eq_false_iff_ne]; omega
        have hl2 : ¬ (m.qs.length : Int) = 1 := by omega
        have HS5 := Lib.hid (fun V (hV : Ext Z V) => (show V.cell? ⟨g7, 1, none⟩ = some (.bool true) ∧ V.cell? ⟨g7, 2, none⟩ = some (.int .u8 0) ∧ V.cell? ⟨g7, 11, none⟩ = some (.slice qA m.qs.length qc) from by
          have rV := (hV.block _ (Array.getElem?_eq_some_iff.1 r7).1).trans r7
          exact ⟨by rw [← hqr]; exact box_cell rV rfl, by rw [← hop]; exact box_cell rV rfl, box_cell rV rfl⟩))
        refine wp_region_noPanic ?_
        refine wp_region_tree (S := (fun V => V.cell? ⟨g7, 1, none⟩ = some (.bool true) ∧ V.cell? ⟨g7, 2, none⟩ = some (.int .u8 0) ∧ V.cell? ⟨g7, 11, none⟩ = some (.slice qA m.qs.length qc))) (.take 0 (.take 1 (.take 2 (.take 3 (.take 4 (.take 5 (.take 6 (.take 7 (.take 8 (.take 9 (.take 10 (.take 11 (.take 12 (.take 13 (.take 14 (.take 15 (.take 16 (.take 17 (.take 18 (.take 19 (.take 20 (.take 21 (.take 22 (.take 23 (.take 24 (.take 25 (.take 26 (.take 27 (.done))))))))))))))))))))))))))))) (by kernel_rfl) (by kernel_rfl) (fun _ _ _ _ _ h => h) ((HS5.out _ (Ext.refl Z).drew)) ?_
        repeat ((with_reducible refine treeIs ?_); first
          | (refine treeTakeX (a' := ?_) ⟨_, (HS5.out _ (Ext.refl Z).drew)⟩ (by rfl) rfl (by kernel_rfl) rfl ?_ ?_; rotate_left; (focus (intro V Q' hV hq; obtain ⟨hV1, hV2, hV3⟩ := hV; (repeat (first | go_guarded | go_skip | go_step)); (first | exact hq | exact wpList_nil hq))))
          | (refine treeSkip (by rfl) (by rfl) ?_; (try simp only [Act.put, List.setIfInBounds_toArray, List.set_cons_zero, List.set_cons_succ])))
        refine treeDone ?_
        refine NoPanic.normal ?_
        (try go_wp2_with fail)
        go_meet
        exact ⟨by rw [HIt.out]; try rfl, (Ext.refl Z).drew⟩
    · have HIt := Lib.hid (show itsB m n ty cls = false from by unfold itsB; rw [decide_eq_false hop]; cases m.hd.qr <;> rfl)
      have hop1 : (m.hd.op == 0) = false := by rw [beq_eq_false_iff_ne]; exact hop
      have hop2 : decide (m.hd.op = 0) = false := decide_eq_false hop
      have HS5 := Lib.hid (fun V (hV : Ext Z V) => (show V.cell? ⟨g7, 1, none⟩ = some (.bool true) ∧ V.cell? ⟨g7, 2, none⟩ = some (.int .u8 m.hd.op) ∧ V.cell? ⟨g7, 11, none⟩ = some (.slice qA m.qs.length qc) from by
        have rV := (hV.block _ (Array.getElem?_eq_some_iff.1 r7).1).trans r7
        exact ⟨by rw [← hqr]; exact box_cell rV rfl, by exact box_cell rV rfl, box_cell rV rfl⟩))
      refine wp_region_noPanic ?_
      refine wp_region_tree (S := (fun V => V.cell? ⟨g7, 1, none⟩ = some (.bool true) ∧ V.cell? ⟨g7, 2, none⟩ = some (.int .u8 m.hd.op) ∧ V.cell? ⟨g7, 11, none⟩ = some (.slice qA m.qs.length qc))) (.take 0 (.take 1 (.take 2 (.take 3 (.take 4 (.take 5 (.take 6 (.take 7 (.take 8 (.take 9 (.take 10 (.take 11 (.take 12 (.take 13 (.take 14 (.take 15 (.take 16 (.take 17 (.take 18 (.take 19 (.take 20 (.take 21 (.take 22 (.take 23 (.take 24 (.take 25 (.take 26 (.take 27 (.done))))))))))))))))))))))))))))) (by kernel_rfl) (by kernel_rfl) (fun _ _ _ _ _ h => h) ((HS5.out _ (Ext.refl Z).drew)) ?_
      repeat ((with_reducible refine treeIs ?_); first
        | (refine treeTakeX (a' := ?_) ⟨_, (HS5.out _ (Ext.refl Z).drew)⟩ (by rfl) rfl (by kernel_rfl) rfl ?_ ?_; rotate_left; (focus (intro V Q' hV hq; obtain ⟨hV1, hV2, hV3⟩ := hV; (repeat (first | go_guarded | go_skip | go_step)); (first | exact hq | exact wpList_nil hq))))
        | (refine treeSkip (by rfl) (by rfl) ?_; (try simp only [Act.put, List.setIfInBounds_toArray, List.set_cons_zero, List.set_cons_succ])))
      refine treeDone ?_
      refine NoPanic.normal ?_
      (try go_wp2_with fail)
      go_meet
      exact ⟨by rw [HIt.out]; try rfl, (Ext.refl Z).drew⟩
  case rest =>
    obtain ⟨rfl, hE5⟩ := hcut
    obtain ⟨W5, rfl⟩ : ∃ W5 : World, W5 = wc := ⟨_, rfl⟩
    rw [Hits.out]
    have r76 := (hE5.block _ (Array.getElem?_eq_some_iff.1 r7).1).trans r7
    have rX6 := (hE5.block _ (Array.getElem?_eq_some_iff.1 rX).1).trans rX
    obtain ⟨k0, k1, k2⟩ := keepQ hE5 rq
    have c10 := box_cell (j := 10) r76 rfl
    have c17 := box_cell (j := 17) r76 rfl
    change W5.cell? ⟨g7, 10, none⟩ = some (.int .u8 m.hd.code) at c10
    change W5.cell? ⟨g7, 17, none⟩ = some (.int .u8 m.ed.ext) at c17
    obtain ⟨cn, hcn⟩ : ∃ cn : Nat, m.hd.code = (cn : Int) := ⟨m.hd.code.toNat, by have := d1.out.code; omega⟩
    obtain ⟨xn, hxn⟩ : ∃ xn : Nat, m.ed.ext = (xn : Int) := ⟨m.ed.ext.toNat, by have := d1.out.ext; omega⟩
    have hce : ((xn * 16 + cn % 16 : Nat) : Int) = code12 m := by
      unfold code12
      rw [hcn]
      rcases hhe : m.he with _ | _
      · have h0 : m.ed.ext = 0 := by rw [d4.out hhe]; rfl
        rw [h0] at hxn
        simp only [Bool.false_eq_true, if_false]
        omega
      · simp only [if_true]
        rw [hxn]
        omega
    have HCd := Lib.hid (fun V => edns_code7 cn xn V (by have := d1.out.code; have := hcl; omega) (by have := d1.out.ext; omega))
    rw [hce] at HCd
    rw [hcn] at c10
    rw [hxn] at c17
    clear hce
    clear hcn hxn
    go_wp2_with fail
    refine (HCd.out _).mono ?_
    rintro e w6 ⟨rfl, hq6⟩
    rw [← hq6]
    clear hq6 c10 c17
    go_upto_region 8 with (first | (refine wpList_load_part (by rfl) 56 (.tmp 6) rfl g7 0 rfl [.int .u16 m.hd.id, .bool m.hd.qr, .int .u8 m.hd.op, .bool m.hd.aa, .bool m.hd.tc, .bool m.hd.rd, .bool m.hd.ra, .bool m.hd.z, .bool m.hd.ad, .bool m.hd.cd, .int .u8 m.hd.code, .slice qA m.qs.length qc, .slice aA m.ans.length ac, .slice uA m.auth.length uc, .slice xA m.extra.length xc, .bool m.he, .int .u16 m.ed.size, .int .u8 m.ed.ext, .int .u8 m.ed.ver, .int .u16 m.ed.flags, .slice oA m.ed.opts.length oc] (row_all r76) _ Tryz.underlying56 rfl (by kernel_rfl) ?_) | (go_at_call 22; refine (HVo.out _ hE5).mono ?_; rintro e W7 ⟨us, uo, rfl, hus, huo, _, hE7⟩; have Hus := Lib.hid hus; have Huo := Lib.hid huo; obtain ⟨qs, yA, yc, hqs, rfl, _, _⟩ := hus; obtain ⟨qo', zA, zc, hqo, rfl, _, _⟩ := huo) | fail)
    obtain ⟨W8, hW8⟩ : ∃ W8, W8 = W7.alloc (.cells #[.int .u8 R.code, .slice yA qs.length yc, .slice zA qo'.length zc] 32) := ⟨_, rfl⟩
    obtain ⟨gv, hgv⟩ : ∃ gv, gv = W7.heap.size := ⟨_, rfl⟩
    have rv : W8.heap[gv]? = some (.cells #[.int .u8 R.code, .slice yA qs.length yc, .slice zA qo'.length zc] 32) := by rw [hW8, hgv]; exact heap_alloc_new _ _
    have hE78 : Ext W7 W8 := by rw [hW8]; exact (Ext.refl _).alloc _
    rw [← hW8, ← hgv]
    clear hW8 hgv  k0 k1 k2
    have hE58 := hE7.trans hE78
    have hEw8 : Ext w W8 := (hEZ.trans hE5).trans hE58
    have rX8 := (hE58.block _ (Array.getElem?_eq_some_iff.1 rX6).1).trans rX6
    have r78 := (hE58.block _ (Array.getElem?_eq_some_iff.1 r76).1).trans r76
    have x0 := box_cell (j := 0) rX8 rfl
    have x1 := box_cell (j := 1) rX8 rfl
    have x2 := box_cell (j := 2) rX8 rfl
    have x3 := box_cell (j := 3) rX8 rfl
    have x4 := box_cell (j := 4) rX8 rfl
    have hX8 : Ext w3 W8 := hX3.trans (hE5.trans hE58)
    have t4 := box_cell (j := 4) r78 rfl
    change W8.cell? ⟨g7, 4, none⟩ = some (.bool m.hd.tc) at t4
    rw [Htc.out] at t4
    rcases Hcode.out with hc0 | hc0
    · rw [hc0]
      clear hc0
      have herr : R.err = 0 := Herr.out
      rw [herr]
      clear herr
      have v0 := box_cell (j := 0) rv rfl
      have v1 := box_cell (j := 1) rv rfl
      have v2 := box_cell (j := 2) rv rfl
      go_wp2_with fail
      refine (ref24_same 3 R.code R.time R.sets R.soa _ _ _ _ _ _ _ _ _ _ _ _ _ ((Hs.out.sets.lower24 (Nat.zero_le _)).ext hX8) ((Hus.out.sets.lower24 (Nat.zero_le _)).ext hE78) ((Ho.out.sets.lower24 (Nat.zero_le _)).ext hX8) ((Huo.out.sets.lower24 (Nat.zero_le _)).ext hE78)).mono ?_
      rintro e wS ⟨rfl, hES⟩
      go_wp2_with fail
      go_ret
      exact ⟨rfl, hEw8.trans hES⟩
    · rw [hc0]
      clear hc0
      have herr : R.err = 0 := Herr.out
      rw [herr]
      clear herr
      have v0 := box_cell (j := 0) rv rfl
      have v1 := box_cell (j := 1) rv rfl
      have v2 := box_cell (j := 2) rv rfl
      go_wp2_with fail
      refine (ref24_same 3 R.code R.time R.sets R.soa _ _ _ _ _ _ _ _ _ _ _ _ _ ((Hs.out.sets.lower24 (Nat.zero_le _)).ext hX8) ((Hus.out.sets.lower24 (Nat.zero_le _)).ext hE78) ((Ho.out.sets.lower24 (Nat.zero_le _)).ext hX8) ((Huo.out.sets.lower24 (Nat.zero_le _)).ext hE78)).mono ?_
      rintro e wS ⟨rfl, hES⟩
      go_wp2_with fail
      go_ret
      exact ⟨rfl, hEw8.trans hES⟩
set_option maxHeartbeats 16000000 in
theorem law24_votes_bad (n d : List UInt8) (ty cls : Int) (a b : Addr) (w : World) (hg : Laid w) (hb : BitsAt w) (he : ErrsAt w a b) (hn : n.length ≤ 3000) (hd : d.length ≤ 3000) {m : MsgD} (hdec : decR d = .ok m) (hits : itsB m n ty cls = true) (htc : m.hd.tc = false) (hcode : code12 m = 0 ∨ code12 m = 3) (herr : (verOf n ty cls m.hd.code m.ans m.auth).err ≠ 0) :
    Calls Tryz.prog 6 #[.agg #[S n, .int .u16 ty, .int .u16 cls], S d] w fun e w' => e = .returned (.bool true) ∧ Ext w w' := by
  have HAw := Lib.hid (fun V (hV : Ext w V) => law24_awake a b V (hg.ext hV) (hb.ext hV) (he.ext hV))
  obtain ⟨X0, hX0⟩ : ∃ X0, X0 = w.alloc (.cells #[S n, .int .u16 ty, .int .u16 cls] 24) := ⟨_, rfl⟩
  obtain ⟨g3, hg3⟩ : ∃ g3, g3 = w.heap.size := ⟨_, rfl⟩
  have r0 : X0.heap[g3]? = some (.cells #[S n, .int .u16 ty, .int .u16 cls] 24) := by rw [hX0, hg3]; exact heap_alloc_new _ _
  have hE0 : Ext w X0 := by rw [hX0]; exact (Ext.refl _).alloc _
  go_enter Tryz.func6, Tryz.ntmps6
  go_upto_region 1 with fail
  rw [← hX0, ← hg3]
  clear hX0 hg3
  have k0 := box_cell (j := 0) r0 rfl
  have k1 := box_cell (j := 1) r0 rfl
  have k2 := box_cell (j := 2) r0 rfl
  have hni : ¬ (3000 : Int) < (n.length : Int) := by omega
  have hdi : ¬ (3000 : Int) < (d.length : Int) := by omega
  have Hdec := Lib.hid hdec
  have hRm : replyOf d n ty cls = replyM m n ty cls := by unfold replyOf; rw [hdec]
  have d1 := Lib.hid (decR_ok hdec).1
  have d4 := Lib.hid (decR_ok hdec).2.2.2.1
  have hcl := dec_code hdec
  have hfew := dec_few hdec
  obtain ⟨hsh1, hsh2⟩ := dec_short hdec
  clear hdec
  have Hits := Lib.hid hits
  have hIt := its_iff.1 hits
  have Htc := Lib.hid htc
  have Hcode := Lib.hid hcode
  have hRv := hRm.trans (replyM_vote hIt Htc.out Hcode.out)
  clear hits htc hcode hRm hIt
  have Herr := Lib.hid herr
  have HR := Lib.hid (hRv.trans (if_neg herr))
  clear herr hRv
  go_wp2_with fail
  refine (HAw.out _ hE0).mono ?_
  rintro e w1 ⟨rfl, hE1⟩
  have rq := (hE1.block _ (Array.getElem?_eq_some_iff.1 r0).1).trans r0
  have hw1 : Ext w w1 := hE0.trans hE1
  clear k0 k1 k2
  have k0 := box_cell (j := 0) rq rfl
  have k1 := box_cell (j := 1) rq rfl
  have k2 := box_cell (j := 2) rq rfl
  have HLk := Lib.hid (heard_look d n ty cls a b w1 (hg.ext hw1) (hb.ext hw1) (he.ext hw1) (by omega) (by omega))
  rw [HR.out] at HLk
  unfold LookH at HLk
  go_upto_region 4 with (first | (go_at_call 14; refine HLk.out.mono ?_; rintro e w3 ⟨vs, vo, rfl, hs, ho, _, hE3⟩; have Hs := Lib.hid hs; have Ho := Lib.hid ho; obtain ⟨ps, pA, pc, hps, rfl, _, _⟩ := hs; obtain ⟨po, tA, tc, hpo, rfl, _, _⟩ := ho) | fail)
  obtain rfl : ps = [] := List.map_eq_nil_iff.1 hps
  obtain rfl : po = [] := List.map_eq_nil_iff.1 hpo
  dsimp only [ReplyD.bad, ReplyD.pass, VerR.bad, List.length_nil] at Hs Ho ⊢
  obtain ⟨W3, hW3⟩ : ∃ W3, W3 = w3.alloc (.cells #[.int .u8 1, .int .u8 0, .slice pA 0 pc, .slice tA 0 tc, .int .u32 0] 37) := ⟨_, rfl⟩
  obtain ⟨b5, hb5⟩ : ∃ b5, b5 = w3.heap.size := ⟨_, rfl⟩
  have rX : W3.heap[b5]? = some (.cells #[.int .u8 1, .int .u8 0, .slice pA 0 pc, .slice tA 0 tc, .int .u32 0] 37) := by rw [hW3, hb5]; exact heap_alloc_new _ _
  have hE34 : Ext w3 W3 := by rw [hW3]; exact (Ext.refl _).alloc _
  rw [← hW3, ← hb5]
  clear hW3 hb5 hps hpo k0 k1 k2
  have hw3 : Ext w W3 := (hw1.trans hE3).trans hE34
  have rq := ((hE3.trans hE34).block _ (Array.getElem?_eq_some_iff.1 rq).1).trans rq
  have HD := Lib.hid (wire_decode d W3 (hg.ext hw3) (hb.ext hw3) (by omega))
  go_wp2_with fail
  refine HD.out.mono ?_
  rintro e Y ⟨hor, hEd⟩
  rcases hor with ⟨k, hk, hx, rfl⟩ | ⟨m', q, a', u, x, o, hm', rfl, hMO, hBd⟩
  case inl => rw [Hdec.out] at hx; cases hx
  obtain rfl : m = m' := by have := Hdec.out; rw [hm'] at this; injection this with this; exact this.symm
  clear hm'
  have HMO := Lib.hid hMO
  have HBd := Lib.hid hBd
  obtain ⟨⟨qA, qc, rfl, _⟩, ⟨aA, ac, rfl, _⟩, ⟨uA, uc, rfl, _⟩, ⟨xA, xc, rfl, _⟩, ⟨oA, oc, rfl, _⟩⟩ := hMO
  dsimp only
  iterate 10 go_step
  obtain ⟨g7, hg7⟩ : ∃ g7, g7 = Y.heap.size := ⟨_, rfl⟩
  have hz : (Y.alloc (.cells msgZ 56)).heap[g7]? = some (.cells msgZ 56) := by rw [hg7]; exact heap_alloc_new _ _
  refine Go.Great.wpList_allocTo rfl (some 6) rfl (.pointer (some ⟨Y.heap.size, 0, none⟩)) (.cells msgZ 56) (by kernel_rfl) ?_
  rw [← hg7]
  refine Go.wpList_store_rowTo rfl 56 (.tmp 6) (.tmp 33) rfl rfl g7 #[.int .u16 m.hd.id, .bool m.hd.qr, .int .u8 m.hd.op, .bool m.hd.aa, .bool m.hd.tc, .bool m.hd.rd, .bool m.hd.ra, .bool m.hd.z, .bool m.hd.ad, .bool m.hd.cd, .int .u8 m.hd.code, .slice qA m.qs.length qc, .slice aA m.ans.length ac, .slice uA m.auth.length uc, .slice xA m.extra.length xc, .bool m.he, .int .u16 m.ed.size, .int .u8 m.ed.ext, .int .u8 m.ed.ver, .int .u16 m.ed.flags, .slice oA m.ed.opts.length oc] rfl rfl 56 _ hz (by kernel_rfl) rfl (by kernel_rfl) ?_
  rw [alloc_setRowH Y msgZ #[.int .u16 m.hd.id, .bool m.hd.qr, .int .u8 m.hd.op, .bool m.hd.aa, .bool m.hd.tc, .bool m.hd.rd, .bool m.hd.ra, .bool m.hd.z, .bool m.hd.ad, .bool m.hd.cd, .int .u8 m.hd.code, .slice qA m.qs.length qc, .slice aA m.ans.length ac, .slice uA m.auth.length uc, .slice xA m.extra.length xc, .bool m.he, .int .u16 m.ed.size, .int .u8 m.ed.ext, .int .u8 m.ed.ver, .int .u16 m.ed.flags, .slice oA m.ed.opts.length oc] 56 g7 hg7]
  iterate 3 go_step
  refine wpList_nil ?_
  rw [← hg7]
  have r7 : (Y.alloc (.cells #[.int .u16 m.hd.id, .bool m.hd.qr, .int .u8 m.hd.op, .bool m.hd.aa, .bool m.hd.tc, .bool m.hd.rd, .bool m.hd.ra, .bool m.hd.z, .bool m.hd.ad, .bool m.hd.cd, .int .u8 m.hd.code, .slice qA m.qs.length qc, .slice aA m.ans.length ac, .slice uA m.auth.length uc, .slice xA m.extra.length xc, .bool m.he, .int .u16 m.ed.size, .int .u8 m.ed.ext, .int .u8 m.ed.ver, .int .u16 m.ed.flags, .slice oA m.ed.opts.length oc] 56)).heap[g7]? = some (.cells #[.int .u16 m.hd.id, .bool m.hd.qr, .int .u8 m.hd.op, .bool m.hd.aa, .bool m.hd.tc, .bool m.hd.rd, .bool m.hd.ra, .bool m.hd.z, .bool m.hd.ad, .bool m.hd.cd, .int .u8 m.hd.code, .slice qA m.qs.length qc, .slice aA m.ans.length ac, .slice uA m.auth.length uc, .slice xA m.extra.length xc, .bool m.he, .int .u16 m.ed.size, .int .u8 m.ed.ext, .int .u8 m.ed.ver, .int .u16 m.ed.flags, .slice oA m.ed.opts.length oc] 56) := by rw [hg7]; exact heap_alloc_new _ _
  have hEY : Ext Y (Y.alloc (.cells #[.int .u16 m.hd.id, .bool m.hd.qr, .int .u8 m.hd.op, .bool m.hd.aa, .bool m.hd.tc, .bool m.hd.rd, .bool m.hd.ra, .bool m.hd.z, .bool m.hd.ad, .bool m.hd.cd, .int .u8 m.hd.code, .slice qA m.qs.length qc, .slice aA m.ans.length ac, .slice uA m.auth.length uc, .slice xA m.extra.length xc, .bool m.he, .int .u16 m.ed.size, .int .u8 m.ed.ext, .int .u8 m.ed.ver, .int .u16 m.ed.flags, .slice oA m.ed.opts.length oc] 56)) := (Ext.refl _).alloc _
  obtain ⟨Z, hZ⟩ : ∃ Z, Z = Y.alloc (.cells #[.int .u16 m.hd.id, .bool m.hd.qr, .int .u8 m.hd.op, .bool m.hd.aa, .bool m.hd.tc, .bool m.hd.rd, .bool m.hd.ra, .bool m.hd.z, .bool m.hd.ad, .bool m.hd.cd, .int .u8 m.hd.code, .slice qA m.qs.length qc, .slice aA m.ans.length ac, .slice uA m.auth.length uc, .slice xA m.extra.length xc, .bool m.he, .int .u16 m.ed.size, .int .u8 m.ed.ext, .int .u8 m.ed.ver, .int .u16 m.ed.flags, .slice oA m.ed.opts.length oc] 56) := ⟨_, rfl⟩
  rw [← hZ] at r7 hEY ⊢
  have hEZ : Ext w Z := hw3.trans (hEd.trans hEY)
  clear hZ hz hg7
  have rq := ((hEd.trans hEY).block _ (Array.getElem?_eq_some_iff.1 rq).1).trans rq
  have rX := ((hEd.trans hEY).block _ (Array.getElem?_eq_some_iff.1 rX).1).trans rX
  have hX3 : Ext w3 Z := hE34.trans (hEd.trans hEY)
  have HVo := Lib.hid (fun V (hV : Ext Z V) => ver_of (xOf m qA xA oA qc xc oc) n ty cls m.hd.code 0 aA ac uA uc m.ans m.auth V (hg.ext (hEZ.trans hV)) ((HMO.out.ans.recs.lower (Nat.zero_le _)).ext (hEY.trans hV)) ((HMO.out.auth.recs.lower (Nat.zero_le _)).ext (hEY.trans hV)) ⟨by have := hfew; omega, hsh1⟩ ⟨by have := hfew; omega, hsh2⟩ (fun r hr => ⟨(d1.out.ans r hr).1, (d1.out.ans r hr).2.1⟩) (fun r hr => ⟨(d1.out.auth r hr).1, (d1.out.auth r hr).2.1⟩) (by omega))
  skip
  go_upto_region 5 with fail
  go_cut [8] (fun s8 wx => s8 = .bool (itsB m n ty cls) ∧ Ext Z wx)
  case first =>
    rcases hqr : m.hd.qr with _ | _
    · have HIt := Lib.hid (show itsB m n ty cls = false from by unfold itsB; rw [hqr]; rfl)
      have HS5 := Lib.hid (fun V (hV : Ext Z V) => (show V.cell? ⟨g7, 1, none⟩ = some (.bool false) ∧ V.cell? ⟨g7, 2, none⟩ = some (.int .u8 m.hd.op) ∧ V.cell? ⟨g7, 11, none⟩ = some (.slice qA m.qs.length qc) from by
        have rV := (hV.block _ (Array.getElem?_eq_some_iff.1 r7).1).trans r7
        exact ⟨by rw [← hqr]; exact box_cell rV rfl, by exact box_cell rV rfl, box_cell rV rfl⟩))
      refine wp_region_noPanic ?_
      refine wp_region_tree (S := (fun V => V.cell? ⟨g7, 1, none⟩ = some (.bool false) ∧ V.cell? ⟨g7, 2, none⟩ = some (.int .u8 m.hd.op) ∧ V.cell? ⟨g7, 11, none⟩ = some (.slice qA m.qs.length qc))) (.take 0 (.take 1 (.take 2 (.take 3 (.take 4 (.take 5 (.take 6 (.take 7 (.take 8 (.take 9 (.take 10 (.take 11 (.take 12 (.take 13 (.take 14 (.take 15 (.take 16 (.take 17 (.take 18 (.take 19 (.take 20 (.take 21 (.take 22 (.take 23 (.take 24 (.take 25 (.take 26 (.take 27 (.done))))))))))))))))))))))))))))) (by kernel_rfl) (by kernel_rfl) (fun _ _ _ _ _ h => h) ((HS5.out _ (Ext.refl Z).drew)) ?_
      repeat ((with_reducible refine treeIs ?_); first
        | (refine treeTakeX (a' := ?_) ⟨_, (HS5.out _ (Ext.refl Z).drew)⟩ (by rfl) rfl (by kernel_rfl) rfl ?_ ?_; rotate_left; (focus (intro V Q' hV hq; obtain ⟨hV1, hV2, hV3⟩ := hV; (repeat (first | go_guarded | go_skip | go_step)); (first | exact hq | exact wpList_nil hq))))
        | (refine treeSkip (by rfl) (by rfl) ?_; (try simp only [Act.put, List.setIfInBounds_toArray, List.set_cons_zero, List.set_cons_succ])))
      refine treeDone ?_
      refine NoPanic.normal ?_
      (try go_wp2_with fail)
      go_meet
      exact ⟨by rw [HIt.out]; try rfl, (Ext.refl Z).drew⟩
    by_cases hop : m.hd.op = 0
    · by_cases hl : m.qs.length = 1
      · obtain ⟨x0, hx0⟩ := List.length_eq_one_iff.1 hl
        have HIt := Lib.hid (show itsB m n ty cls = (sameN x0.name n && (decide (x0.typ = ty) && decide (x0.cls = cls))) from by unfold itsB; rw [asks_one hx0, hqr, hop]; rfl)
        obtain ⟨A5, c5, e5, ho5⟩ := HMO.out.qs
        injection e5 with e51 _ e53
        subst e51 e53
        have hrd5 := (ho5.rd.lower (Nat.zero_le _)).ext (show Ext Y Z from hEY)
        obtain ⟨qb, qo, rfl, _, hbz, hbc⟩ := hrd5.2 (by omega)
        obtain ⟨q0, q1, q2⟩ := qus_cells hbc 0 x0 (by rw [hx0]; rfl)
        rw [Nat.zero_mul, Nat.add_zero] at q0 q1 q2
        have HEq := Lib.hid (fun V => ref16_equal x0.name x0.typ x0.cls n ty cls V (HBd.out.qok x0 (by rw [hx0]; simp)) (by omega))
        generalize (sameN x0.name n && (decide (x0.typ = ty) && decide (x0.cls = cls))) = B at *
        obtain ⟨xn, xt, xc⟩ := x0
        dsimp only at q0 q1 q2 HEq
        have HS5 := Lib.hid (fun V (hV : Ext Z V) => (show V.cell? ⟨g7, 1, none⟩ = some (.bool true) ∧ V.cell? ⟨g7, 2, none⟩ = some (.int .u8 0) ∧ V.cell? ⟨g7, 11, none⟩ = some (.slice (some ⟨qb, qo, none⟩) 1 qc) ∧ (V.cell? ⟨qb, qo, none⟩ = some (S xn) ∧ V.cell? ⟨qb, qo + 1, none⟩ = some (.int .u16 xt) ∧ V.cell? ⟨qb, qo + 2, none⟩ = some (.int .u16 xc)) ∧ V.cell? ⟨g3, 0, none⟩ = some (S n) ∧ V.cell? ⟨g3, 1, none⟩ = some (.int .u16 ty) ∧ V.cell? ⟨g3, 2, none⟩ = some (.int .u16 cls) from by
          have rV := (hV.block _ (Array.getElem?_eq_some_iff.1 r7).1).trans r7
          exact ⟨by rw [← hqr]; exact box_cell rV rfl, by rw [← hop]; exact box_cell rV rfl, by rw [← hl]; exact box_cell rV rfl, ⟨(hV.cell (cell_lt q0)).trans q0, (hV.cell (cell_lt q1)).trans q1, (hV.cell (cell_lt q2)).trans q2⟩, keepQ hV rq⟩))
        clear hqr hop hl q0 q1 q2 hbc hbz hrd5 hx0
        refine wp_region_noPanic ?_
        refine wp_region_tree (S := (fun V => V.cell? ⟨g7, 1, none⟩ = some (.bool true) ∧ V.cell? ⟨g7, 2, none⟩ = some (.int .u8 0) ∧ V.cell? ⟨g7, 11, none⟩ = some (.slice (some ⟨qb, qo, none⟩) 1 qc) ∧ (V.cell? ⟨qb, qo, none⟩ = some (S xn) ∧ V.cell? ⟨qb, qo + 1, none⟩ = some (.int .u16 xt) ∧ V.cell? ⟨qb, qo + 2, none⟩ = some (.int .u16 xc)) ∧ V.cell? ⟨g3, 0, none⟩ = some (S n) ∧ V.cell? ⟨g3, 1, none⟩ = some (.int .u16 ty) ∧ V.cell? ⟨g3, 2, none⟩ = some (.int .u16 cls))) (.take 0 (.take 1 (.take 2 (.take 3 (.take 4 (.take 5 (.take 6 (.take 7 (.take 8 (.take 9 (.take 10 (.take 11 (.take 12 (.take 13 (.take 14 (.take 15 (.take 16 (.take 17 (.take 18 (.take 19 (.take 20 (.take 21 (.take 22 (.take 23 (.take 24 (.run 25 (.take 26 (.take 27 (.done))))))))))))))))))))))))))))) (by kernel_rfl) (by kernel_rfl) (fun _ _ _ _ _ h => h) ((HS5.out _ (Ext.refl Z).drew)) ?_
        repeat ((with_reducible refine treeIs ?_); first
          | (refine treeTakeX (a' := ?_) ⟨_, (HS5.out _ (Ext.refl Z).drew)⟩ (by rfl) rfl (by kernel_rfl) rfl ?_ ?_; rotate_left; (focus (intro V Q' hV hq; obtain ⟨hV1, hV2, hV3, ⟨hV4, hV5, hV6⟩, hV7, hV8, hV9⟩ := hV; (repeat (first | go_guarded | go_skip | go_step)); (first | exact hq | exact wpList_nil hq)))))
        refine treeRun (by rfl) (fun K hK => ?_)
        go_simp
        refine (HEq.out _).mono ?_
        rintro e we ⟨rfl, hEq⟩
        have hEe : Ext Z we := ((Ext.refl Z).drew).trans hEq
        clear hEq
        refine hK.out _ _ ?_ ?_
        · exact (HS5.out _ hEe)
        clear hK K
        (try simp only [Act.put, List.setIfInBounds_toArray, List.set_cons_zero, List.set_cons_succ])
        repeat ((with_reducible refine treeIs ?_); first
          | (refine treeTakeX (a' := ?_) ⟨_, (HS5.out _ (Ext.refl Z).drew)⟩ (by rfl) rfl (by kernel_rfl) rfl ?_ ?_; rotate_left; (focus (intro V Q' hV hq; obtain ⟨hV1, hV2, hV3, ⟨hV4, hV5, hV6⟩, hV7, hV8, hV9⟩ := hV; (repeat (first | go_guarded | go_skip | go_step)); (first | exact hq | exact wpList_nil hq)))))
        refine treeDone ?_
        refine NoPanic.normal ?_
        (try go_wp2_with fail)
        go_meet
        exact ⟨by rw [HIt.out]; try rfl, hEe⟩
      · have HIt := Lib.hid (show itsB m n ty cls = false from by unfold itsB; rw [asks_not hl]; cases m.hd.qr <;> cases decide (m.hd.op = 0) <;> rfl)
        have hl1 : ((m.qs.length : Int) == 1) = false := by rw [beq_eq_false_iff_ne]; omega
        have hl2 : ¬ (m.qs.length : Int) = 1 := by omega
        have HS5 := Lib.hid (fun V (hV : Ext Z V) => (show V.cell? ⟨g7, 1, none⟩ = some (.bool true) ∧ V.cell? ⟨g7, 2, none⟩ = some (.int .u8 0) ∧ V.cell? ⟨g7, 11, none⟩ = some (.slice qA m.qs.length qc) from by
          have rV := (hV.block _ (Array.getElem?_eq_some_iff.1 r7).1).trans r7
          exact ⟨by rw [← hqr]; exact box_cell rV rfl, by rw [← hop]; exact box_cell rV rfl, box_cell rV rfl⟩))
        refine wp_region_noPanic ?_
        refine wp_region_tree (S := (fun V => V.cell? ⟨g7, 1, none⟩ = some (.bool true) ∧ V.cell? ⟨g7, 2, none⟩ = some (.int .u8 0) ∧ V.cell? ⟨g7, 11, none⟩ = some (.slice qA m.qs.length qc))) (.take 0 (.take 1 (.take 2 (.take 3 (.take 4 (.take 5 (.take 6 (.take 7 (.take 8 (.take 9 (.take 10 (.take 11 (.take 12 (.take 13 (.take 14 (.take 15 (.take 16 (.take 17 (.take 18 (.take 19 (.take 20 (.take 21 (.take 22 (.take 23 (.take 24 (.take 25 (.take 26 (.take 27 (.done))))))))))))))))))))))))))))) (by kernel_rfl) (by kernel_rfl) (fun _ _ _ _ _ h => h) ((HS5.out _ (Ext.refl Z).drew)) ?_
        repeat ((with_reducible refine treeIs ?_); first
          | (refine treeTakeX (a' := ?_) ⟨_, (HS5.out _ (Ext.refl Z).drew)⟩ (by rfl) rfl (by kernel_rfl) rfl ?_ ?_; rotate_left; (focus (intro V Q' hV hq; obtain ⟨hV1, hV2, hV3⟩ := hV; (repeat (first | go_guarded | go_skip | go_step)); (first | exact hq | exact wpList_nil hq))))
          | (refine treeSkip (by rfl) (by rfl) ?_; (try simp only [Act.put, List.setIfInBounds_toArray, List.set_cons_zero, List.set_cons_succ])))
        refine treeDone ?_
        refine NoPanic.normal ?_
        (try go_wp2_with fail)
        go_meet
        exact ⟨by rw [HIt.out]; try rfl, (Ext.refl Z).drew⟩
    · have HIt := Lib.hid (show itsB m n ty cls = false from by unfold itsB; rw [decide_eq_false hop]; cases m.hd.qr <;> rfl)
      have hop1 : (m.hd.op == 0) = false := by rw [beq_eq_false_iff_ne]; exact hop
      have hop2 : decide (m.hd.op = 0) = false := decide_eq_false hop
      have HS5 := Lib.hid (fun V (hV : Ext Z V) => (show V.cell? ⟨g7, 1, none⟩ = some (.bool true) ∧ V.cell? ⟨g7, 2, none⟩ = some (.int .u8 m.hd.op) ∧ V.cell? ⟨g7, 11, none⟩ = some (.slice qA m.qs.length qc) from by
        have rV := (hV.block _ (Array.getElem?_eq_some_iff.1 r7).1).trans r7
        exact ⟨by rw [← hqr]; exact box_cell rV rfl, by exact box_cell rV rfl, box_cell rV rfl⟩))
      refine wp_region_noPanic ?_
      refine wp_region_tree (S := (fun V => V.cell? ⟨g7, 1, none⟩ = some (.bool true) ∧ V.cell? ⟨g7, 2, none⟩ = some (.int .u8 m.hd.op) ∧ V.cell? ⟨g7, 11, none⟩ = some (.slice qA m.qs.length qc))) (.take 0 (.take 1 (.take 2 (.take 3 (.take 4 (.take 5 (.take 6 (.take 7 (.take 8 (.take 9 (.take 10 (.take 11 (.take 12 (.take 13 (.take 14 (.take 15 (.take 16 (.take 17 (.take 18 (.take 19 (.take 20 (.take 21 (.take 22 (.take 23 (.take 24 (.take 25 (.take 26 (.take 27 (.done))))))))))))))))))))))))))))) (by kernel_rfl) (by kernel_rfl) (fun _ _ _ _ _ h => h) ((HS5.out _ (Ext.refl Z).drew)) ?_
      repeat ((with_reducible refine treeIs ?_); first
        | (refine treeTakeX (a' := ?_) ⟨_, (HS5.out _ (Ext.refl Z).drew)⟩ (by rfl) rfl (by kernel_rfl) rfl ?_ ?_; rotate_left; (focus (intro V Q' hV hq; obtain ⟨hV1, hV2, hV3⟩ := hV; (repeat (first | go_guarded | go_skip | go_step)); (first | exact hq | exact wpList_nil hq))))
        | (refine treeSkip (by rfl) (by rfl) ?_; (try simp only [Act.put, List.setIfInBounds_toArray, List.set_cons_zero, List.set_cons_succ])))
      refine treeDone ?_
      refine NoPanic.normal ?_
      (try go_wp2_with fail)
      go_meet
      exact ⟨by rw [HIt.out]; try rfl, (Ext.refl Z).drew⟩
  case rest =>
    obtain ⟨rfl, hE5⟩ := hcut
    obtain ⟨W5, rfl⟩ : ∃ W5 : World, W5 = wc := ⟨_, rfl⟩
    rw [Hits.out]
    have r76 := (hE5.block _ (Array.getElem?_eq_some_iff.1 r7).1).trans r7
    have rX6 := (hE5.block _ (Array.getElem?_eq_some_iff.1 rX).1).trans rX
    obtain ⟨k0, k1, k2⟩ := keepQ hE5 rq
    have c10 := box_cell (j := 10) r76 rfl
    have c17 := box_cell (j := 17) r76 rfl
    change W5.cell? ⟨g7, 10, none⟩ = some (.int .u8 m.hd.code) at c10
    change W5.cell? ⟨g7, 17, none⟩ = some (.int .u8 m.ed.ext) at c17
    obtain ⟨cn, hcn⟩ : ∃ cn : Nat, m.hd.code = (cn : Int) := ⟨m.hd.code.toNat, by have := d1.out.code; omega⟩
    obtain ⟨xn, hxn⟩ : ∃ xn : Nat, m.ed.ext = (xn : Int) := ⟨m.ed.ext.toNat, by have := d1.out.ext; omega⟩
    have hce : ((xn * 16 + cn % 16 : Nat) : Int) = code12 m := by
      unfold code12
      rw [hcn]
      rcases hhe : m.he with _ | _
      · have h0 : m.ed.ext = 0 := by rw [d4.out hhe]; rfl
        rw [h0] at hxn
        simp only [Bool.false_eq_true, if_false]
        omega
      · simp only [if_true]
        rw [hxn]
        omega
    have HCd := Lib.hid (fun V => edns_code7 cn xn V (by have := d1.out.code; have := hcl; omega) (by have := d1.out.ext; omega))
    rw [hce] at HCd
    rw [hcn] at c10
    rw [hxn] at c17
    clear hce
    clear hcn hxn
    go_wp2_with fail
    refine (HCd.out _).mono ?_
    rintro e w6 ⟨rfl, hq6⟩
    rw [← hq6]
    clear hq6 c10 c17
    go_upto_region 8 with (first | (refine wpList_load_part (by rfl) 56 (.tmp 6) rfl g7 0 rfl [.int .u16 m.hd.id, .bool m.hd.qr, .int .u8 m.hd.op, .bool m.hd.aa, .bool m.hd.tc, .bool m.hd.rd, .bool m.hd.ra, .bool m.hd.z, .bool m.hd.ad, .bool m.hd.cd, .int .u8 m.hd.code, .slice qA m.qs.length qc, .slice aA m.ans.length ac, .slice uA m.auth.length uc, .slice xA m.extra.length xc, .bool m.he, .int .u16 m.ed.size, .int .u8 m.ed.ext, .int .u8 m.ed.ver, .int .u16 m.ed.flags, .slice oA m.ed.opts.length oc] (row_all r76) _ Tryz.underlying56 rfl (by kernel_rfl) ?_) | (go_at_call 22; refine (HVo.out _ hE5).mono ?_; rintro e W7 ⟨us, uo, rfl, hus, huo, _, hE7⟩; have Hus := Lib.hid hus; have Huo := Lib.hid huo; obtain ⟨qs, yA, yc, hqs, rfl, _, _⟩ := hus; obtain ⟨qo', zA, zc, hqo, rfl, _, _⟩ := huo) | fail)
    obtain ⟨R, hRv⟩ : ∃ R, R = verOf n ty cls m.hd.code m.ans m.auth := ⟨_, rfl⟩
    rw [← hRv] at Hus Huo hqs hqo ⊢
    have HRv := Lib.hid hRv
    obtain ⟨W8, hW8⟩ : ∃ W8, W8 = W7.alloc (.cells #[.int .u8 R.code, .slice yA qs.length yc, .slice zA qo'.length zc] 32) := ⟨_, rfl⟩
    obtain ⟨gv, hgv⟩ : ∃ gv, gv = W7.heap.size := ⟨_, rfl⟩
    have rv : W8.heap[gv]? = some (.cells #[.int .u8 R.code, .slice yA qs.length yc, .slice zA qo'.length zc] 32) := by rw [hW8, hgv]; exact heap_alloc_new _ _
    have hE78 : Ext W7 W8 := by rw [hW8]; exact (Ext.refl _).alloc _
    rw [← hW8, ← hgv]
    clear hW8 hgv hRv k0 k1 k2
    have hE58 := hE7.trans hE78
    have hEw8 : Ext w W8 := (hEZ.trans hE5).trans hE58
    have rX8 := (hE58.block _ (Array.getElem?_eq_some_iff.1 rX6).1).trans rX6
    have r78 := (hE58.block _ (Array.getElem?_eq_some_iff.1 r76).1).trans r76
    have x0 := box_cell (j := 0) rX8 rfl
    have x1 := box_cell (j := 1) rX8 rfl
    have x2 := box_cell (j := 2) rX8 rfl
    have x3 := box_cell (j := 3) rX8 rfl
    have x4 := box_cell (j := 4) rX8 rfl
    have hX8 : Ext w3 W8 := hX3.trans (hE5.trans hE58)
    have t4 := box_cell (j := 4) r78 rfl
    change W8.cell? ⟨g7, 4, none⟩ = some (.bool m.hd.tc) at t4
    rw [Htc.out] at t4
    rcases Hcode.out with hc0 | hc0
    · rw [hc0]
      clear hc0
      have herr : ¬ R.err = 0 := by rw [HRv.out]; exact Herr.out
      have her : ((R.err : Int) == 0) = false := by rw [beq_eq_false_iff_ne]; omega
      generalize (R.err : Int) = z at *
      have hz2 : ¬ z = 0 := by rw [beq_eq_false_iff_ne] at her; exact her
      have hz3 : decide (z = 0) = false := decide_eq_false hz2
      go_wp2_with fail
      refine (ref24_same 1 0 0 [] [] _ _ _ _ _ _ _ _ _ _ _ _ _ ((Hs.out.sets.lower24 (Nat.zero_le _)).ext hX8) (sets_nil24 _) ((Ho.out.sets.lower24 (Nat.zero_le _)).ext hX8) (sets_nil24 _)).mono ?_
      rintro e wS ⟨rfl, hES⟩
      go_wp2_with fail
      go_ret
      exact ⟨rfl, hEw8.trans hES⟩
    · rw [hc0]
      clear hc0
      have herr : ¬ R.err = 0 := by rw [HRv.out]; exact Herr.out
      have her : ((R.err : Int) == 0) = false := by rw [beq_eq_false_iff_ne]; omega
      generalize (R.err : Int) = z at *
      have hz2 : ¬ z = 0 := by rw [beq_eq_false_iff_ne] at her; exact her
      have hz3 : decide (z = 0) = false := decide_eq_false hz2
      go_wp2_with fail
      refine (ref24_same 1 0 0 [] [] _ _ _ _ _ _ _ _ _ _ _ _ _ ((Hs.out.sets.lower24 (Nat.zero_le _)).ext hX8) (sets_nil24 _) ((Ho.out.sets.lower24 (Nat.zero_le _)).ext hX8) (sets_nil24 _)).mono ?_
      rintro e wS ⟨rfl, hES⟩
      go_wp2_with fail
      go_ret
      exact ⟨rfl, hEw8.trans hES⟩
set_option maxHeartbeats 4000000 in
theorem law24_votes (n d : List UInt8) (ty cls : Int) (a b : Addr) (w : World) (hg : Laid w) (hb : BitsAt w) (he : ErrsAt w a b) (hn : n.length ≤ maxLen) (hd : d.length ≤ maxLen) :
    Calls Tryz.prog 6 #[.agg #[S n, .int .u16 ty, .int .u16 cls], S d] w fun e w' => e = .returned (.bool true) ∧ Ext w w' := by
  unfold maxLen at hn hd
  by_cases hlong : 3000 < n.length ∨ 3000 < d.length
  · have HAw := Lib.hid (fun V (hV : Ext w V) => law24_awake a b V (hg.ext hV) (hb.ext hV) (he.ext hV))
    obtain ⟨X0, hX0⟩ : ∃ X0, X0 = w.alloc (.cells #[S n, .int .u16 ty, .int .u16 cls] 24) := ⟨_, rfl⟩
    obtain ⟨g3, hg3⟩ : ∃ g3, g3 = w.heap.size := ⟨_, rfl⟩
    have r0 : X0.heap[g3]? = some (.cells #[S n, .int .u16 ty, .int .u16 cls] 24) := by rw [hX0, hg3]; exact heap_alloc_new _ _
    have hE0 : Ext w X0 := by rw [hX0]; exact (Ext.refl _).alloc _
    go_enter Tryz.func6, Tryz.ntmps6
    go_upto_region 1 with fail
    rw [← hX0, ← hg3]
    clear hX0 hg3
    have k0 := box_cell (j := 0) r0 rfl
    have k1 := box_cell (j := 1) r0 rfl
    have k2 := box_cell (j := 2) r0 rfl
    by_cases hn3 : 3000 < n.length
    · have hni : (3000 : Int) < (n.length : Int) := by omega
      go_wp2_with fail
      refine (HAw.out _ hE0).mono ?_
      rintro e w1 ⟨rfl, hE1⟩
      go_wp2_with fail
      go_ret
      exact ⟨rfl, hE0.trans hE1⟩
    · have hni : ¬ (3000 : Int) < (n.length : Int) := by omega
      have hdi : (3000 : Int) < (d.length : Int) := by omega
      go_wp2_with fail
      refine (HAw.out _ hE0).mono ?_
      rintro e w1 ⟨rfl, hE1⟩
      go_wp2_with fail
      go_ret
      exact ⟨rfl, hE0.trans hE1⟩
  have h1 : n.length ≤ 3000 := by omega
  have h2 : d.length ≤ 3000 := by omega
  rcases hdec : decR d with k | m
  · exact law24_votes_err n d ty cls a b w hg hb he h1 h2 hdec
  rcases hits : itsB m n ty cls with _ | _
  · exact law24_votes_not n d ty cls a b w hg hb he h1 h2 hdec hits
  by_cases hpass : m.hd.tc = true ∨ (code12 m ≠ 0 ∧ code12 m ≠ 3)
  · exact law24_votes_pass n d ty cls a b w hg hb he h1 h2 hdec hits hpass
  have htc : m.hd.tc = false := by cases h : m.hd.tc; rfl; exact absurd (.inl h) hpass
  have hcode : code12 m = 0 ∨ code12 m = 3 := by
    by_cases h0 : code12 m = 0
    · exact .inl h0
    by_cases h3 : code12 m = 3
    · exact .inr h3
    · exact absurd (.inr ⟨h0, h3⟩) hpass
  by_cases herr : (verOf n ty cls m.hd.code m.ans m.auth).err = 0
  · exact law24_votes_vote n d ty cls a b w hg hb he h1 h2 hdec hits htc hcode herr
  · exact law24_votes_bad n d ty cls a b w hg hb he h1 h2 hdec hits htc hcode herr
end Go.Proofs.YtfjfmnnjempdaaaGreatDoor
namespace Go.Proofs.YtfjfmnnjempdaaaGreatDoor
set_option linter.unusedSimpArgs false
set_option linter.unusedVariables false
open Go.ChangeShapes Go.WideShapes Go.RowKit Go.Deep Go.Joins
set_option maxRecDepth 100000
theorem open_str24 {H : Type} {enc : TypeId × Value → H} {W : World} {r : Reach} {b0 : Nat} {v : Value} {d : DataW H} {p : List MemPlace}
    (hv : Value.okWide Tryz.prog W r b0 9 v) (h : DataW.Trod enc Tryz.prog W 0 (fun _ => true) true 9 v d p) : ∃ n : List UInt8, v = S n ∧ n.length ≤ maxLen := by
  obtain ⟨s, rfl⟩ := okWide_string Tryz.underlying9 hv
  obtain ⟨fuel, hf⟩ := h
  obtain ⟨s', e, _, hs⟩ := DataW.trod_string Tryz.underlying9 hf
  simp only [Value.cells, List.cons.injEq, and_true] at e
  injection e with e
  subst e
  exact ⟨s.data.toList, S_of s, len_of hs⟩
end Go.Proofs.YtfjfmnnjempdaaaGreatDoor
namespace Go.Proofs.YtfjfmnnjempdaaaGreatDoor
set_option linter.unusedSimpArgs false
set_option linter.unusedVariables false
open Go.ChangeShapes Go.WideShapes Go.ChangeAt Go.RowKit
set_option maxRecDepth 100000

theorem heardVotes_contract (H : Type) (enc : TypeId × Value → H) (W : World) (base : Nat) (args : Array Value) (ds gs : List (DataW H)) (before : List MemPlace)
    (hval : ∀ (j : Nat) t v, Tryz.f6.params[j]? = some t → args[j]? = some v → Value.okWide Tryz.prog W .any base t v)
    (hW : DataW.Whole enc Tryz.prog Tryz.f6.params.toList Rows.heardVotesSpec.vars false W args.toList ds gs before)
    (hsz : (DataW.weightsEach Tryz.prog (Tryz.f6.params.toList ++ (OpenSpec.ofChange Rows.heardVotesSpec).bare.plain.varTypes Tryz.prog) (ds ++ gs)).all (· ≤ reachBytes) = true)
    (hL : laidMetH Tryz.prog laidL W) :
    Calls Tryz.prog 6 args W fun e W' => ∃ v, e = .returned v ∧ Rows.heardVotesSpec.post enc Tryz.prog Tryz.f6 false true false false W args v W' := by
  have hW' := hW
  have hp : ∀ t ∈ Tryz.f6.params.toList, Tryz.prog.readableRec t = true ∧ t < Tryz.prog.types.size := by
    have h : (Tryz.f6.params.toList.all fun t => Tryz.prog.readableRec t && decide (t < Tryz.prog.types.size)) = true := by kernel_rfl
    simpa only [List.all_eq_true, Bool.and_eq_true, decide_eq_true_eq] using h
  have hg := laid_of hL
  have hb := laidbits_of hL
  obtain ⟨p, q, hA0, hV, rfl, _, _⟩ := hW
  have hA : DataW.TrodAll enc Tryz.prog W 0 (fun _ => true) true Tryz.f6.params.toList args.toList ds p := hA0
  clear hA0
  rw [Tryz.params6] at hA hval hsz
  obtain ⟨rfl, rfl⟩ := trodVars_none hV
  obtain ⟨ea, eb, he⟩ := errs_of hL
  obtain ⟨v0, v1, d0, d1, p0, p1, rfl, rfl, rfl, h0, h1⟩ := trodAll_two hA
  obtain ⟨n, ty, cl, rfl, hn, hq1, hq2⟩ := open_question (hval 0 _ _ rfl rfl) h0
  obtain ⟨da, rfl, hd⟩ := open_str24 (hval 1 _ _ rfl rfl) h1
  refine (law24_votes n da ty cl ea eb W hg hb he hn hd).mono ?_
  rintro e W' ⟨rfl, hE⟩
  exact ⟨_, rfl, post_true laid_out rfl (by kernel_rfl) Tryz.underlying4 hp hW' rfl hE⟩

theorem heardVotes_reads (os : Os) {H : Type} (enc : TypeId × Value → H) : ∃ places, DataW.whole enc Tryz.prog ((laidWorld os).forCall (fun _ _ => 0) ⟨#[], #[.agg #[.string ⟨#[]⟩, .int .u16 0, .int .u16 0], .string ⟨#[]⟩], []⟩).memory Tryz.f6.params.toList Rows.heardVotesSpec.vars false (#[.agg #[.string ⟨#[]⟩, .int .u16 0, .int .u16 0], .string ⟨#[]⟩] : Array Value).toList 8 = some ([.agg [.lit (.string []), .lit (.int .u16 0), .lit (.int .u16 0)], .lit (.string [])], [], places) :=
  ⟨[], by kernel_rfl⟩
theorem heardVotes_lifted (os : Os) (started : os.Started) (H : Type) (enc : TypeId × Value → H) (F : Stop.Interp) :
    ReturnsInHanded {} Tryz.checked os 6 .any ((OpenSpec.ofChange Rows.heardVotesSpec).preRow enc Tryz.prog Tryz.f6 Rows.heardVotesRow.domain false Rows.heardVotesRow.laid) (((OpenSpec.ofChange Rows.heardVotesSpec).at F).post enc Tryz.prog Tryz.f6 false true false false) := by
  obtain ⟨places, hx⟩ := heardVotes_reads os enc
  refine returnsInHanded_of_row (C := Tryz.checked) (s := OpenSpec.ofChange Rows.heardVotesSpec) own_knob started (by kernel_rfl) Tryz.func6
    (witness_row_at (enc := enc) (C := Tryz.checked) false (laidWorld os) #[.agg #[.string ⟨#[]⟩, .int .u16 0, .int .u16 0], .string ⟨#[]⟩] rfl (by kernel_rfl) (by kernel_rfl) (by kernel_rfl)
      (OpenSpec.preRow_of_cond 8 hx (by kernel_rfl) (fun k hk => by cases hk) (by kernel_rfl) (laid_met os _))) ?_
  intro W base args ds gs before hval hW _ _ hsz hL _ _
  exact heardVotes_contract H enc W base args ds gs before hval hW hsz hL
theorem heardVotes_said : Rows.HeardVotesSaid :=
  OpenClaim.holds_of_cond 6 Tryz.f6 rfl rfl rfl rfl rfl rfl rfl ⟨rfl, rfl, rfl, rfl, rfl⟩ rfl rfl rfl rfl rfl (by kernel_rfl) Tryz.func6 (by kernel_rfl)
    (of_decide_eq_true (by kernel_rfl)) (by unfold Func.isWrapper; first | (rw [if_pos (by decide +kernel)]; kernel_rfl) | (rw [if_neg (by decide +kernel)]; exact ⟨rfl, rfl⟩))
    (fun os started H enc _ F => by rw [OpenClaim.pre_eq_preRow]; exact heardVotes_lifted os started H enc F)
/-- THE CARD. -/
theorem heardVotes_card : Rows.HeardVotesCardSaid :=
  Claim7.holds_tied_plain_at .later [] _ _ _ _ heardVotes_said (fun _ h => by cases h) (by kernel_rfl) (fun _ h => by cases h) heardVotes_row_tie rfl ⟨rfl, rfl⟩ (by kernel_rfl) rfl
    (fun f fn hf hfn => by
      obtain rfl : f = 6 := Option.some.inj ((show Tryz.prog.funcNamed Rows.heardVotesRow.func = some 6 by kernel_rfl).symm.trans hf) |>.symm
      obtain rfl : fn = Tryz.f6 := (Option.some.inj (Tryz.func6.symm.trans hfn)).symm
      refine ⟨by kernel_rfl, fun j t ht => ?_⟩
      have h : (Tryz.f6.params.toList.all fun t => !Tryz.prog.wantsStandIn t) = true := by kernel_rfl
      have h2 := List.all_eq_true.1 h t (by simpa using Array.mem_of_getElem? ht)
      exact (by simpa using h2 : Tryz.prog.wantsStandIn t = false))
    (by kernel_rfl)
#print axioms heardVotes_card
end Go.Proofs.YtfjfmnnjempdaaaGreatDoor
