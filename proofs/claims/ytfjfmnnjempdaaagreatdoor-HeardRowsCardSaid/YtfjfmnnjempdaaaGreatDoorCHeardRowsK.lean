/- hustingslaw24.HeardRows returns true for every input, and every argument reads behind the call as it read before; the listed variables are tied to the program's text. No condition of ours. -/
import Derived.Test.YtfjfmnnjempdaaaGreatDoorKXHeardRows
import Derived.Test.YtfjfmnnjempdaaaGreatDoorCards
import Derived.Test.YtfjfmnnjempdaaaGreatDoorTie
import Derived.Test.YtfjfmnnjempdaaaGreatDoorKb
import Derived.ProofKit
import Derived.OpenShut
import Derived.LaidHandle
import Derived.LaidLaws
import Derived.Test.YtfjfmnnjempdaaaGreatDoorKwy
import Derived.Deep.DeepHandedRow
import Derived.Stop.LaidTwo
import Derived.LaidSub
import Derived.Test.YtfjfmnnjempdaaaGreatDoorKhd
import Derived.Test.YtfjfmnnjempdaaaGreatDoorKhq
import Derived.Test.YtfjfmnnjempdaaaGreatDoorKe
import Derived.Test.YtfjfmnnjempdaaaGreatDoorKf
import Derived.Test.YtfjfmnnjempdaaaGreatDoorKj
import Derived.Test.YtfjfmnnjempdaaaGreatDoorKwp
import Derived.Test.YtfjfmnnjempdaaaGreatDoorKg
namespace Go.Proofs.YtfjfmnnjempdaaaGreatDoor
set_option linter.unusedSimpArgs false
set_option linter.unusedVariables false
open Go.ChangeShapes Go.WideShapes Go.ChangeAt Go.RowKit
set_option maxRecDepth 100000

theorem own_knob : ownKnob Tryz.prog.godebug = none := by kernel_rfl
theorem et_at : Tryz.prog.globalNamed "errors.errorType" = some 3 := by kernel_rfl
theorem one_row : ((List.range Tryz.prog.types.size).filter fun t => Tryz.prog.rowNamed t [101, 114, 114, 111, 114]) = [76] := by kernel_rfl
def laidL : List (String × DataW Unit) := [("errors.errorType", Rows.laid_errors_errorType), ("hustings/head.bits", Rows.laid_hustings_head_bits), ("hustings/heard.errBad", Rows.laid_hustings_heard_errBad), ("hustings/heard.errPass", Rows.laid_hustings_heard_errPass)]

theorem laid_of {W : World} (h : laidMetH Tryz.prog laidL W) : Laid W := by
  have h' : laidMet Tryz.prog [("hustings/head.bits", Rows.laid_hustings_head_bits), ("hustings/heard.errBad", Rows.laid_hustings_heard_errBad), ("hustings/heard.errPass", Rows.laid_hustings_heard_errPass)] W ∧ handlesMet Tryz.prog [("errors.errorType", Rows.laid_errors_errorType)] W := h
  obtain ⟨name, u, ty, e1, e2, e3, e4, e5⟩ := h'.2 _ (List.mem_singleton.2 rfl)
  have en : name = [101, 114, 114, 111, 114] := (Option.some.inj e1).symm
  subst en
  obtain rfl : u = 198 := Option.some.inj (e2.symm.trans (by kernel_rfl))
  have hm : ty ∈ (List.range Tryz.prog.types.size).filter fun t => Tryz.prog.rowNamed t [101, 114, 114, 111, 114] := List.mem_filter.2 ⟨List.mem_range.2 e3, e4⟩
  rw [one_row] at hm
  obtain rfl := List.mem_singleton.1 hm
  have hh : typeHandle Tryz.prog 76 = hdl 76 := by kernel_rfl
  rw [hh] at e5
  show W.cell? ⟨3, 0, none⟩ = _
  simpa using World.var?_cell et_at e5 0

theorem bits_at : Tryz.prog.globalNamed "hustings/head.bits" = some 2 := by kernel_rfl
theorem one_cell {l : List Value} {i : Nat} {v : Value} (h : (l.drop i).take 1 = [v]) : l[i]? = some v := by
  have h1 := congrArg (fun x : List Value => x[0]?) h
  simpa using h1
def bitsL : List Int := [32768, 1024, 512, 256, 128, 64, 32, 16]
theorem laidbits_of {W : World} (h : laidMetH Tryz.prog laidL W) : BitsAt W := by
  have h' : laidMet Tryz.prog [("hustings/head.bits", Rows.laid_hustings_head_bits), ("hustings/heard.errBad", Rows.laid_hustings_heard_errBad), ("hustings/heard.errPass", Rows.laid_hustings_heard_errPass)] W ∧ handlesMet Tryz.prog [("errors.errorType", Rows.laid_errors_errorType)] W := h
  obtain ⟨ps, hlv, _, _⟩ := h'.1
  obtain ⟨g, t, cs, fuel, p, q, e1, e2, e3, e4, _, _⟩ := hlv
  obtain rfl : 2 = g := Option.some.inj (bits_at.symm.trans e1)
  obtain rfl : 258 = t := Option.some.inj ((show (Tryz.prog.globals[2]?).map (·.type) = some 258 by kernel_rfl).symm.trans e2)
  obtain ⟨xs, n, _, hd, _, hlen, hf⟩ := DataW.trod_array Tryz.underlying258 e4
  have hd1 := (Prod.mk.inj hd).1
  have key : ∀ i, i < 8 → cs.toList[i]? = some (.int .u16 (bitsL.getD i 0)) := fun i hi => by
    have hx : (xs.map (·.1))[i]? = some (.lit (.int .u16 (bitsL.getD i 0))) := by
      have h1 : xs.map (·.1) = bitsL.map fun k => (.lit (.int .u16 k) : DataW Unit) := by
        injection hd1 with h1
        exact h1.symm
      rw [h1, List.getElem?_map, List.getElem?_eq_getElem (show i < bitsL.length from hi)]
      simp [List.getD, List.getElem?_eq_getElem (show i < bitsL.length from hi)]
    rw [List.getElem?_map] at hx
    obtain ⟨y, hy1, hy2⟩ := Option.map_eq_some_iff.1 hx
    have h2 := (hf i hi).trans hy1
    rw [show Tryz.prog.cellsOf 22 = 1 by kernel_rfl, Nat.mul_one] at h2
    obtain ⟨m, g1, g2, _⟩ := DataW.trod_int Tryz.underlying22 h2
    rw [g2] at hy2
    have hm : m = bitsL.getD i 0 := by
      injection hy2 with hy2
      injection hy2
    rw [← hm]
    exact one_cell g1
  have key2 : ∀ i, i < 8 → W.cell? ⟨2, i, none⟩ = some (.int .u16 (bitsL.getD i 0)) := fun i hi => by
    rw [World.var?_cell bits_at e3 i]
    simpa using key i hi
  exact ⟨key2 0 (by omega), key2 1 (by omega), key2 2 (by omega), key2 3 (by omega), key2 4 (by omega), key2 5 (by omega), key2 6 (by omega), key2 7 (by omega)⟩
theorem bad_at : Tryz.prog.globalNamed "hustings/heard.errBad" = some 0 := by kernel_rfl
theorem pass_at : Tryz.prog.globalNamed "hustings/heard.errPass" = some 1 := by kernel_rfl
theorem bad_type : (Tryz.prog.globals[0]?).map (·.type) = some 76 := by kernel_rfl
theorem pass_type : (Tryz.prog.globals[1]?).map (·.type) = some 76 := by kernel_rfl
theorem es_cells : Tryz.prog.cellsOf 341 = 1 := by kernel_rfl
theorem str_cells : Tryz.prog.cellsOf 9 = 1 := by kernel_rfl
theorem es_star : "*" ++ "errors.errorString" = "*errors.errorString" := by decide
theorem es_row (u : TypeId) (h : Tryz.prog.typeName? 3 u = some "*errors.errorString") : u = 322 :=
  typeName_ptr_named (nm := "errors.errorString") (by rw [es_star]; kernel_rfl) (by kernel_rfl) (by decide) u (by rw [es_star]; exact h)
theorem errs_of {W : World} (h : laidMetH Tryz.prog laidL W) : ∃ a b, ErrsAt W a b := by
  have h' : laidMet Tryz.prog [("hustings/head.bits", Rows.laid_hustings_head_bits), ("hustings/heard.errBad", Rows.laid_hustings_heard_errBad), ("hustings/heard.errPass", Rows.laid_hustings_heard_errPass)] W ∧ handlesMet Tryz.prog [("errors.errorType", Rows.laid_errors_errorType)] W := h
  have h2 : laidMet Tryz.prog [("hustings/heard.errBad", Rows.laid_hustings_heard_errBad), ("hustings/heard.errPass", Rows.laid_hustings_heard_errPass)] W := h'.1.filter (fun x => x.1 != "hustings/head.bits")
  obtain ⟨a0, a1, s0, s1, c0, c1, t0, t1, hv0, hv1, _, _, _, _, _, _, hne, hb0, hb1⟩ := laid_sentinels2 h2 bad_at bad_type pass_at pass_type Tryz.underlying76 es_row Tryz.underlying322 Tryz.underlying341 rfl rfl Tryz.underlying9 es_cells str_cells
  exact ⟨a0, a1, by simpa using World.var?_cell bad_at hv0 0, by simpa using World.var?_cell pass_at hv1 0, ⟨_, _, hb0⟩, ⟨_, _, hb1⟩, hne⟩
abbrev badS : ByteArray := { data := #[116, 104, 101, 32, 114, 101, 112, 108, 121, 32, 105, 115, 32, 98, 97, 100] }
abbrev passS : ByteArray := { data := #[116, 104, 101, 32, 114, 101, 112, 108, 121, 32, 105, 115, 32, 97, 32, 112, 97, 115, 115] }
noncomputable def low24 : Nat := (World.holding Tryz.prog default ⟨#[], #[], []⟩).heap.size
noncomputable def laidWorld (os : Os) : World :=
  let w0 := World.holding Tryz.prog os ⟨#[.cells #[.string badS] 341, .cells #[.string passS] 341], #[], []⟩
  { w0 with heap := (((w0.heap.modify 3 fun
      | .cells _ t frozen => .cells #[errTy] t frozen
      | o => o).modify 2 fun
      | .cells _ t frozen => .cells #[.int .u16 32768, .int .u16 1024, .int .u16 512, .int .u16 256, .int .u16 128, .int .u16 64, .int .u16 32, .int .u16 16] t frozen
      | o => o).modify 0 fun
      | .cells _ t frozen => .cells #[.iface 322 (.pointer (some ⟨low24, 0, none⟩))] t frozen
      | o => o).modify 1 fun
      | .cells _ t frozen => .cells #[.iface 322 (.pointer (some ⟨low24 + 1, 0, none⟩))] t frozen
      | o => o }
theorem laid_met (os : Os) (args : Array Value) : laidMetH Tryz.prog laidL ((laidWorld os).forCall (fun _ _ => 0) ⟨#[], args, []⟩).memory :=
  laidMetH_of_parts (laidMet_of_run' 8 (by kernel_rfl) (by kernel_rfl)) (by kernel_rfl)

section
variable {H : Type} {enc : TypeId × Value → H} {P : Program}
theorem trodAll_stays (hl : laidOutB P = true) {W W' : World} (hb : Below W.heap.size W W') {sp : Nat → Bool} : ∀ {ts : List TypeId} {vs : List Value} {ds : List (DataW H)} {ps : List MemPlace},
    (∀ t ∈ ts, P.readableRec t = true ∧ t < P.types.size) → DataW.TrodAll enc P W 0 (fun _ => true) true ts vs ds ps → (∀ x ∈ ps, x.block < W.heap.size) → (∀ x ∈ ps, sp x.block = true) → DataW.TrodAll enc P W' 0 sp true ts vs ds ps
  | [], _, _, _, _, h, _, _ => by obtain ⟨rfl, rfl, rfl⟩ := trodAll_nil h; exact trodAll_mk0
  | t :: ts, _, _, _, ht, h, hlt, hs => by
    obtain ⟨v, vs, d, ds, p, q, rfl, rfl, rfl, h0, h1⟩ := trodAll_cons h
    have h2 := ht t (by simp)
    exact trodAll_cons_mk (WideElems.Trod_stays hl h2.1 h2.2 h0 (fun x hx => hb.same (hlt x (by simp [hx]))) (fun x hx => hs x (by simp [hx])))
      (trodAll_stays hl hb (fun t ht' => ht t (by simp [ht'])) h1 (fun x hx => hlt x (by simp [hx])) (fun x hx => hs x (by simp [hx])))
theorem post_of_below {f : Func} {s : ChangeSpec} {apart fresh handsOn again : Bool} {W W' : World} {args : Array Value} {v : Value} {ds gs : List (DataW H)} {before pa pv : List MemPlace}
    (hW : DataW.Whole enc P f.params.toList s.vars apart W args.toList ds gs before)
    (hres : ∀ (b : Nat) (sp : Nat → Bool) (hd : Bool), DataW.TrodAll enc P W' b sp hd f.resultTypes.toList (v.resultList f.resultTypes.size) (s.fn H (ds ++ gs)).results [])
    (hargs : ∀ sp : Nat → Bool, (∀ p ∈ before, sp p.block = true) → DataW.TrodAll enc P W' 0 sp true f.params.toList args.toList (s.fn H (ds ++ gs)).args pa)
    (hvars : ∀ sp : Nat → Bool, (∀ p ∈ before, sp p.block = true) → DataW.TrodVars enc P W' sp s.vars (s.fn H (ds ++ gs)).vars pv)
    (hps : before = pa ++ pv) (hb : Below W.heap.size W W')
    (hok : ∀ (j : Nat) (t : TypeId) (r : Value), f.resultTypes[j]? = some t → (v.resultList f.resultTypes.size)[j]? = some r → Value.okWide P W' .any 0 t r) :
    s.post enc P f apart fresh handsOn again W args v W' := by
  have hlt : ∀ p ∈ before, p.block < W.heap.size := fun p hp => hW.lt p hp
  have hold : ∀ p ∈ before, (fun b => decide (b < W.heap.size)) p.block = true := fun p hp => by simpa using hlt p hp
  refine ⟨ds, gs, before, [], pa, pv, hW, hres _ _ _, hargs _ hold, hvars _ hold, World.keptBut_mono (fun p hp => ⟨hp, ?_⟩) (hb.frame (· ∈ before)), fun _ => ?_⟩
  · rw [hps, List.mem_append] at hp
    exact Or.inr hp
  · obtain ⟨_, _, _, _, _, hz, hn⟩ := hW
    refine ⟨hok, _, _, ([] ++ pa) ++ pv, ⟨[] ++ pa, pv, trodAll_append (hargs _ (fun _ _ => rfl)) (hres _ _ _), hvars _ (fun _ _ => rfl), rfl, ?_, ?_⟩, ?_⟩
    · intro b off hp
      have hin : MemPlace.cell b off ∈ before := by rw [hps]; simpa using hp
      rw [hb.frozen (hlt _ hin)]
      exact hz b off hin
    · intro ha
      have := hn ha
      rw [hps] at this
      simpa using this
    · intro p hp _
      rw [hps]
      simpa using hp
/-- A law that returns true and only makes memory: its post. -/
theorem post_true {f : Func} {s : ChangeSpec} {apart fresh handsOn again : Bool} {W W' : World} {args : Array Value} {ds gs : List (DataW H)} {before : List MemPlace} {t : TypeId}
    (hl : laidOutB P = true) (hvn : s.vars = []) (hr : f.resultTypes = #[t]) (ht : P.underlying t = some .bool)
    (hp : ∀ t ∈ f.params.toList, P.readableRec t = true ∧ t < P.types.size)
    (hW : DataW.Whole enc P f.params.toList s.vars apart W args.toList ds gs before)
    (hfn : s.fn H ds = { results := [.lit (.bool true)], args := ds }) (hb : Ext W W') :
    s.post enc P f apart fresh handsOn again W args (.bool true) W' := by
  have hW' := hW
  obtain ⟨p, q, hA, hV, rfl, _, _⟩ := hW
  rw [hvn] at hV
  obtain ⟨rfl, rfl⟩ := trodVars_none hV
  have hlt : ∀ x ∈ p, x.block < W.heap.size := fun x hx => by simpa using hW'.lt x (by simp [hx])
  refine post_of_below (pa := p) (pv := []) hW' (fun _ _ _ => ?_) (fun sp hs => ?_) (fun _ _ => ?_) rfl hb (ok_one hr rfl (okWide_bool_mk ht _))
  · rw [List.append_nil, hfn, hr]; exact trodAll_mk1 (shut_bool ht true)
  · rw [List.append_nil, hfn]; exact trodAll_stays hl hb hp hA hlt (fun x hx => hs x (by simp [hx]))
  · rw [List.append_nil, hfn, hvn]; rfl
end
theorem laid_out : laidOutB Tryz.prog = true := by kernel_rfl
end Go.Proofs.YtfjfmnnjempdaaaGreatDoor
namespace Go.Proofs.YtfjfmnnjempdaaaGreatDoor
set_option linter.unusedSimpArgs false
set_option linter.unusedVariables false
open Go.RowKit
set_option maxRecDepth 100000
set_option maxHeartbeats 4000000 in
theorem ref16_equal (xn : List UInt8) (xt xc : Int) (n : List UInt8) (ty cls : Int) (w : World) (hx : xn.length ≤ 1048576) (hn : n.length ≤ 1048576) :
    Calls Tryz.prog 20 #[.agg #[S xn, .int .u16 xt, .int .u16 xc], .agg #[S n, .int .u16 ty, .int .u16 cls]] w fun e w' => e = .returned (.bool (sameN xn n && (decide (xt = ty) && decide (xc = cls)))) ∧ Ext w w' := by
  obtain ⟨X1, hX1⟩ : ∃ X1, X1 = w.alloc (.cells #[S xn, .int .u16 xt, .int .u16 xc] 24) := ⟨_, rfl⟩
  obtain ⟨X0, hX0⟩ : ∃ X0, X0 = X1.alloc (.cells #[S n, .int .u16 ty, .int .u16 cls] 24) := ⟨_, rfl⟩
  obtain ⟨g1, hg1⟩ : ∃ g1, g1 = X1.heap.size := ⟨_, rfl⟩
  have r1 : X1.heap[w.heap.size]? = some (.cells #[S xn, .int .u16 xt, .int .u16 xc] 24) := by rw [hX1]; exact heap_alloc_new _ _
  have r0 : X0.heap[g1]? = some (.cells #[S n, .int .u16 ty, .int .u16 cls] 24) := by rw [hX0, hg1]; exact heap_alloc_new _ _
  have hE01 : Ext X1 X0 := by rw [hX0]; exact (Ext.refl _).alloc _
  have hE0 : Ext w X0 := Ext.trans (by rw [hX1]; exact (Ext.refl _).alloc _) hE01
  have r10 := (hE01.block _ (Array.getElem?_eq_some_iff.1 r1).1).trans r1
  have hsz : w.heap.size + 1 = g1 := by rw [hg1, hX1]; simp
  have HSz := Lib.hid hsz
  have HNs := Lib.hid (fun V => ref_same xn n V hx hn)
  clear hsz
  go_enter Tryz.func20, Tryz.ntmps20
  go_upto_region 1 with fail
  rw [← hX1, ← hX0]
  have e1 : (w.heap.size + 1) = g1 := HSz.out
  try rw [e1]
  try rw [← hg1]
  clear e1 hX1 hX0 hg1 hE01
  have p0 := box_cell (j := 0) r10 rfl
  have y0 := box_cell (j := 0) r0 rfl
  obtain ⟨sm, hsm⟩ : ∃ sm, sm = sameN xn n := ⟨_, rfl⟩
  have HSm := Lib.hid hsm
  rw [← hsm] at HNs
  clear hsm
  go_wp2_with fail
  refine (HNs.out _).mono ?_
  rintro e w1 ⟨rfl, hE1⟩
  clear y0 p0
  have r03 := (hE1.block _ (Array.getElem?_eq_some_iff.1 r0).1).trans r0
  have r3 := (hE1.block _ (Array.getElem?_eq_some_iff.1 r10).1).trans r10
  have y1 := box_cell (j := 1) r03 rfl
  have y2 := box_cell (j := 2) r03 rfl
  have p1 := box_cell (j := 1) r3 rfl
  have p2 := box_cell (j := 2) r3 rfl
  have hEw : Ext w w1 := hE0.trans hE1
  rcases sm with _ | _
  · go_wp2_with fail
    go_ret
    exact ⟨by rw [← HSm.out]; rfl, hEw⟩
  by_cases ht : xt = ty
  · have ht1 : (xt == ty) = true := by rw [ht]; exact beq_self_eq_true _
    by_cases hc : xc = cls
    · have hc1 : (xc == cls) = true := by rw [hc]; exact beq_self_eq_true _
      have hBv := Lib.hid (show (sameN xn n && (decide (xt = ty) && decide (xc = cls))) = true from by rw [← HSm.out, decide_eq_true ht, decide_eq_true hc]; rfl)
      clear ht hc
      go_wp2_with fail
      go_ret
      exact ⟨by rw [hBv.out]; rfl, hEw⟩
    · have hc1 : (xc == cls) = false := by rw [beq_eq_false_iff_ne]; exact hc
      have hBv := Lib.hid (show (sameN xn n && (decide (xt = ty) && decide (xc = cls))) = false from by rw [← HSm.out, decide_eq_false hc]; cases decide (xt = ty) <;> rfl)
      clear ht hc
      go_wp2_with fail
      go_ret
      exact ⟨by rw [hBv.out]; rfl, hEw⟩
  · have ht1 : (xt == ty) = false := by rw [beq_eq_false_iff_ne]; exact ht
    have hBv := Lib.hid (show (sameN xn n && (decide (xt = ty) && decide (xc = cls))) = false from by rw [← HSm.out, decide_eq_false ht]; rfl)
    clear ht
    go_wp2_with fail
    go_ret
    exact ⟨by rw [hBv.out]; rfl, hEw⟩
set_option maxHeartbeats 4000000 in
theorem ref16_sameV (c : Int) (sets soa : List SetD) (sA sB oA oB : Option Addr) (sn sm on om sc sd oc od : Nat) (w : World) (h1 : Sets w 0 (.slice sA sn sc) sets) (h2 : Sets w 0 (.slice sB sm sd) sets) (h3 : Sets w 0 (.slice oA on oc) soa) (h4 : Sets w 0 (.slice oB om od) soa) :
    Calls Tryz.prog 36 #[.agg #[.int .u8 c, .slice sA sn sc, .slice oA on oc], .agg #[.int .u8 c, .slice sB sm sd, .slice oB om od]] w fun e w' => e = .returned (.bool true) ∧ Ext w w' := by
  obtain ⟨X1, hX1⟩ : ∃ X1, X1 = w.alloc (.cells #[.int .u8 c, .slice sA sn sc, .slice oA on oc] 32) := ⟨_, rfl⟩
  obtain ⟨X0, hX0⟩ : ∃ X0, X0 = X1.alloc (.cells #[.int .u8 c, .slice sB sm sd, .slice oB om od] 32) := ⟨_, rfl⟩
  obtain ⟨g1, hg1⟩ : ∃ g1, g1 = X1.heap.size := ⟨_, rfl⟩
  have r1 : X1.heap[w.heap.size]? = some (.cells #[.int .u8 c, .slice sA sn sc, .slice oA on oc] 32) := by rw [hX1]; exact heap_alloc_new _ _
  have r0 : X0.heap[g1]? = some (.cells #[.int .u8 c, .slice sB sm sd, .slice oB om od] 32) := by rw [hX0, hg1]; exact heap_alloc_new _ _
  have hE01 : Ext X1 X0 := by rw [hX0]; exact (Ext.refl _).alloc _
  have hE0 : Ext w X0 := Ext.trans (by rw [hX1]; exact (Ext.refl _).alloc _) hE01
  have r10 := (hE01.block _ (Array.getElem?_eq_some_iff.1 r1).1).trans r1
  have hsz : w.heap.size + 1 = g1 := by rw [hg1, hX1]; simp
  have HSz := Lib.hid hsz
  have HS1 := Lib.hid (fun V (hV : Ext w V) => ref_sameAll sets sets _ _ 0 0 V (h1.ext hV) (h2.ext hV))
  have HS2 := Lib.hid (fun V (hV : Ext w V) => ref_sameAll soa soa _ _ 0 0 V (h3.ext hV) (h4.ext hV))
  rw [decide_eq_true (show sets = sets from rfl)] at HS1
  rw [decide_eq_true (show soa = soa from rfl)] at HS2
  clear hsz
  go_enter Tryz.func36, Tryz.ntmps36
  go_upto_region 1 with fail
  rw [← hX1, ← hX0]
  have e1 : (w.heap.size + 1) = g1 := HSz.out
  try rw [e1]
  try rw [← hg1]
  clear e1 hX1 hX0 hg1 hE01
  have p0 := box_cell (j := 0) r10 rfl
  have p1 := box_cell (j := 1) r10 rfl
  have y0 := box_cell (j := 0) r0 rfl
  have y1 := box_cell (j := 1) r0 rfl
  go_wp2_with fail
  refine (HS1.out _ hE0).mono ?_
  rintro e w1 ⟨rfl, hE1⟩
  clear y0 p0 y1 p1
  have r03 := (hE1.block _ (Array.getElem?_eq_some_iff.1 r0).1).trans r0
  have r3 := (hE1.block _ (Array.getElem?_eq_some_iff.1 r10).1).trans r10
  have y2 := box_cell (j := 2) r03 rfl
  have p2 := box_cell (j := 2) r3 rfl
  go_wp2_with fail
  refine (HS2.out _ (hE0.trans hE1)).mono ?_
  rintro e w2 ⟨rfl, hE2⟩
  go_wp2_with fail
  go_ret
  exact ⟨rfl, (hE0.trans hE1).trans hE2⟩
set_option maxHeartbeats 4000000 in
theorem ref24_same (k c t : Int) (sets soa : List SetD) (sA sB oA oB : Option Addr) (sn sm on om sc sd oc od : Nat) (w : World) (h1 : Sets w 0 (.slice sA sn sc) sets) (h2 : Sets w 0 (.slice sB sm sd) sets) (h3 : Sets w 0 (.slice oA on oc) soa) (h4 : Sets w 0 (.slice oB om od) soa) :
    Calls Tryz.prog 15 #[.agg #[.int .u8 k, .int .u8 c, .slice sA sn sc, .slice oA on oc, .int .u32 t], .agg #[.int .u8 k, .int .u8 c, .slice sB sm sd, .slice oB om od, .int .u32 t]] w fun e w' => e = .returned (.bool true) ∧ Ext w w' := by
  obtain ⟨X1, hX1⟩ : ∃ X1, X1 = w.alloc (.cells #[.int .u8 k, .int .u8 c, .slice sA sn sc, .slice oA on oc, .int .u32 t] 35) := ⟨_, rfl⟩
  obtain ⟨X0, hX0⟩ : ∃ X0, X0 = X1.alloc (.cells #[.int .u8 k, .int .u8 c, .slice sB sm sd, .slice oB om od, .int .u32 t] 35) := ⟨_, rfl⟩
  obtain ⟨g1, hg1⟩ : ∃ g1, g1 = X1.heap.size := ⟨_, rfl⟩
  have r1 : X1.heap[w.heap.size]? = some (.cells #[.int .u8 k, .int .u8 c, .slice sA sn sc, .slice oA on oc, .int .u32 t] 35) := by rw [hX1]; exact heap_alloc_new _ _
  have r0 : X0.heap[g1]? = some (.cells #[.int .u8 k, .int .u8 c, .slice sB sm sd, .slice oB om od, .int .u32 t] 35) := by rw [hX0, hg1]; exact heap_alloc_new _ _
  have hE01 : Ext X1 X0 := by rw [hX0]; exact (Ext.refl _).alloc _
  have hE0 : Ext w X0 := Ext.trans (by rw [hX1]; exact (Ext.refl _).alloc _) hE01
  have r10 := (hE01.block _ (Array.getElem?_eq_some_iff.1 r1).1).trans r1
  have hsz : w.heap.size + 1 = g1 := by rw [hg1, hX1]; simp
  have HSz := Lib.hid hsz
  have HS1 := Lib.hid (ref16_sameV c sets soa sA sB oA oB sn sm on om sc sd oc od X0 (h1.ext hE0) (h2.ext hE0) (h3.ext hE0) (h4.ext hE0))
  clear hsz
  go_enter Tryz.func15, Tryz.ntmps15
  go_upto_region 1 with fail
  rw [← hX1, ← hX0]
  have e1 : (w.heap.size + 1) = g1 := HSz.out
  try rw [e1]
  try rw [← hg1]
  clear e1 hX1 hX0 hg1 hE01
  have p0 := box_cell (j := 0) r10 rfl
  have p1 := box_cell (j := 1) r10 rfl
  have p2 := box_cell (j := 2) r10 rfl
  have p3 := box_cell (j := 3) r10 rfl
  have p4 := box_cell (j := 4) r10 rfl
  have y0 := box_cell (j := 0) r0 rfl
  have y1 := box_cell (j := 1) r0 rfl
  have y2 := box_cell (j := 2) r0 rfl
  have y3 := box_cell (j := 3) r0 rfl
  have y4 := box_cell (j := 4) r0 rfl
  go_wp2_with fail
  refine HS1.out.mono ?_
  rintro e w1 ⟨rfl, hE1⟩
  go_wp2_with fail
  go_ret
  exact ⟨rfl, hE0.trans hE1⟩
end Go.Proofs.YtfjfmnnjempdaaaGreatDoor
namespace Go.Proofs.YtfjfmnnjempdaaaGreatDoor
set_option linter.unusedSimpArgs false
set_option linter.unusedVariables false
open Go.RowKit
set_option maxRecDepth 100000

set_option maxHeartbeats 8000000 in
theorem heard_read_g (d n : List UInt8) (ty cls : Int) (a b : Addr) (w : World) (hg : Laid w) (hb : BitsAt w) (he : ErrsAt w a b) (hd : d.length ≤ 1048576) (hfw : ∀ m, decR d = .ok m → m.ans.length ≤ 4096 ∧ m.auth.length ≤ 4096) (hn : n.length ≤ 1048576) :
    Calls Tryz.prog 34 #[.agg #[S n, .int .u16 ty, .int .u16 cls], S d] w (ReadH (replyOf d n ty cls) a b w) := by
  obtain ⟨X1, hX1⟩ : ∃ X1, X1 = w.alloc (.cells #[S n, .int .u16 ty, .int .u16 cls] 24) := ⟨_, rfl⟩
  obtain ⟨X0, hX0⟩ : ∃ X0, X0 = X1.alloc (.cells #[.int .u8 0, .slice none 0 0, .slice none 0 0] 32) := ⟨_, rfl⟩
  obtain ⟨g1, hg1⟩ : ∃ g1, g1 = X1.heap.size := ⟨_, rfl⟩
  have r1 : X1.heap[w.heap.size]? = some (.cells #[S n, .int .u16 ty, .int .u16 cls] 24) := by rw [hX1]; exact heap_alloc_new _ _
  have r0 : X0.heap[g1]? = some (.cells #[.int .u8 0, .slice none 0 0, .slice none 0 0] 32) := by rw [hX0, hg1]; exact heap_alloc_new _ _
  have hE01 : Ext X1 X0 := by rw [hX0]; exact (Ext.refl _).alloc _
  have hE0 : Ext w X0 := Ext.trans (by rw [hX1]; exact (Ext.refl _).alloc _) hE01
  have r10 := (hE01.block _ (Array.getElem?_eq_some_iff.1 r1).1).trans r1
  have hsz : w.heap.size + 1 = g1 := by rw [hg1, hX1]; simp
  have hgw : w.heap.size ≤ g1 := by omega
  have HSz := Lib.hid hsz
  have HD := Lib.hid (wire_decode d X0 (hg.ext hE0) (hb.ext hE0) (by omega))
  clear hsz
  go_enter Tryz.func34, Tryz.ntmps34
  go_upto_region 1 with fail
  rw [← hX1, ← hX0]
  have e1 : (w.heap.size + 1) = g1 := HSz.out
  try rw [e1]
  try rw [← hg1]
  clear e1 hX1 hX0 hg1 hE01
  have HEr := Lib.hid (fun V (hV : Ext w V) => he.ext hV)
  go_wp2_with fail
  refine HD.out.mono ?_
  rintro e Y ⟨hor, hEd⟩
  rcases hor with ⟨k, hk, hx, rfl⟩ | ⟨m, q, a', u, x, o, hm, rfl, hMO, hBd⟩
  · have hR := Lib.hid (show replyOf d n ty cls = .bad from by unfold replyOf; rw [hx])
    have hk1 : ((k : Int) == 0) = false := by rw [beq_eq_false_iff_ne]; omega
    clear hx hk
    generalize (k : Int) = z at *
    have hk2 : ¬ z = 0 := by rw [beq_eq_false_iff_ne] at hk1; exact hk1
    have hk3 : decide (z = 0) = false := decide_eq_false hk2
    dsimp only
    iterate 10 go_step
    obtain ⟨g7, hg7⟩ : ∃ g7, g7 = Y.heap.size := ⟨_, rfl⟩
    have hz : (Y.alloc (.cells msgZ 56)).heap[g7]? = some (.cells msgZ 56) := by rw [hg7]; exact heap_alloc_new _ _
    refine Go.Great.wpList_allocTo rfl (some 7) rfl (.pointer (some ⟨Y.heap.size, 0, none⟩)) (.cells msgZ 56) (by kernel_rfl) ?_
    rw [← hg7]
    refine Go.wpList_store_rowTo rfl 56 (.tmp 7) (.tmp 15) rfl rfl g7 msgZ rfl rfl 56 _ hz (by kernel_rfl) rfl (by kernel_rfl) ?_
    rw [alloc_setRowH Y msgZ msgZ 56 g7 hg7]
    iterate 3 go_step
    refine wpList_nil ?_
    rw [← hg7]
    have r7 : (Y.alloc (.cells msgZ 56)).heap[g7]? = some (.cells msgZ 56) := by rw [hg7]; exact heap_alloc_new _ _
    have hEY : Ext Y (Y.alloc (.cells msgZ 56)) := (Ext.refl _).alloc _
    have hg7s : Y.heap.size ≤ g7 := by rw [hg7]; exact Nat.le_refl _
    obtain ⟨Z, hZ⟩ : ∃ Z, Z = Y.alloc (.cells msgZ 56) := ⟨_, rfl⟩
    rw [← hZ] at r7 hEY ⊢
    have hEZ : Ext X0 Z := hEd.trans hEY
    clear hZ hz hg7
    have rr := (hEZ.block _ (Array.getElem?_eq_some_iff.1 r0).1).trans r0
    have y0 := box_cell (j := 0) rr rfl
    have y1 := box_cell (j := 1) rr rfl
    have y2 := box_cell (j := 2) rr rfl
    have f0 := box_free (j := 0) rr
    have f1 := box_free (j := 1) rr
    have f2 := box_free (j := 2) rr
    have eb := (HEr.out Z (hE0.trans hEZ)).bad
    have ep := (HEr.out Z (hE0.trans hEZ)).pass
    have hg1eb : 0 < g1 := Nat.lt_of_lt_of_le (cell_lt he.bad) hgw
    have hg1ep : 1 < g1 := Nat.lt_of_lt_of_le (cell_lt he.pass) hgw
    go_upto_region 3 with fail
    have hS : Z.drew.cell? ⟨0, 0, none⟩ = some (errV a) := eb
    refine wp_region_noPanic ?_
    refine wp_region_tree (S := (fun V => V.cell? ⟨0, 0, none⟩ = some (errV a))) (.take 0 (.take 1 (.run 2 (.take 3 (.take 4 (.done)))))) (by kernel_rfl) (by kernel_rfl) (fun _ _ _ _ _ h => h) (hS) ?_
    repeat ((with_reducible refine treeIs ?_); first
      | (refine treeTakeX (a' := ?_) ⟨_, hS⟩ (by rfl) rfl (by kernel_rfl) rfl ?_ ?_; rotate_left; (focus (intro V Q' hV hq; (repeat (first | go_guarded | go_skip | go_step)); (first | exact hq | exact wpList_nil hq)))))
    refine treeRun (by rfl) (fun K hK => ?_)
    go_simp
    refine hK.out _ _ ?_ ?_
    · exact cell3 eb (Nat.ne_of_lt hg1eb)
    clear hK K
    (try simp only [Act.put, List.setIfInBounds_toArray, List.set_cons_zero, List.set_cons_succ])
    repeat ((with_reducible refine treeIs ?_); first
      | (refine treeTakeX (a' := ?_) ⟨_, hS⟩ (by rfl) rfl (by kernel_rfl) rfl ?_ ?_; rotate_left; (focus (intro V Q' hV hq; (repeat (first | go_guarded | go_skip | go_step)); (first | exact hq | exact wpList_nil hq)))))
    refine treeDone ?_
    refine NoPanic.normal ?_
    obtain ⟨U, hU⟩ : ∃ U, U = (((Z.setCell ⟨g1, 0, none⟩ (.int .u8 0)).setCell ⟨g1, 1, none⟩ (.slice none 0 0)).setCell ⟨g1, 2, none⟩ (.slice none 0 0)).drew := ⟨_, rfl⟩
    rw [← hU]
    have ru : U.heap[g1]? = some (.cells #[.int .u8 0, .slice none 0 0, .slice none 0 0] 32) := by rw [hU]; exact row_set (row_set (row_set rr 0 _) 1 _) 2 _
    have hEU : Ext w U := by rw [hU]; exact ((((hE0.trans hEZ).setCell hgw _).setCell hgw _).setCell hgw _).drew
    have u0 := box_cell (j := 0) ru rfl
    have u1 := box_cell (j := 1) ru rfl
    have u2 := box_cell (j := 2) ru rfl
    clear hU rr y0 y1 y2 f0 f1 f2
    go_wp2_with fail
    refine bodyPost_ret (results_rowH rfl _ _ g1 _ _ _ _ rfl ru Tryz.underlying32 rfl (by kernel_rfl)) rfl ?_
    show ReadH (replyOf d n ty cls) a b w (.returned (.tuple #[.agg #[.int .u8 0, .slice none 0 0, .slice none 0 0], .int .u32 0, errV a])) U
    rw [hR.out]
    exact readH_bad hEU
  · have hR := Lib.hid (show replyOf d n ty cls = replyM m n ty cls from by unfold replyOf; rw [hm])
    obtain ⟨d1, -, -, -, -, d6⟩ := decR_ok hm
    have hcl := dec_code hm
    obtain ⟨hfew1, hfew2⟩ := hfw m hm
    obtain ⟨hsh1, hsh2⟩ := dec_short hm
    have HMO := Lib.hid hMO
    have HBd := Lib.hid hBd
    obtain ⟨⟨qA, qc, rfl, _⟩, ⟨aA, ac, rfl, _⟩, ⟨uA, uc, rfl, _⟩, ⟨xA, xc, rfl, _⟩, ⟨oA, oc, rfl, _⟩⟩ := hMO
    clear hm
    dsimp only
    iterate 10 go_step
    obtain ⟨g7, hg7⟩ : ∃ g7, g7 = Y.heap.size := ⟨_, rfl⟩
    have hz : (Y.alloc (.cells msgZ 56)).heap[g7]? = some (.cells msgZ 56) := by rw [hg7]; exact heap_alloc_new _ _
    refine Go.Great.wpList_allocTo rfl (some 7) rfl (.pointer (some ⟨Y.heap.size, 0, none⟩)) (.cells msgZ 56) (by kernel_rfl) ?_
    rw [← hg7]
    refine Go.wpList_store_rowTo rfl 56 (.tmp 7) (.tmp 15) rfl rfl g7 #[.int .u16 m.hd.id, .bool m.hd.qr, .int .u8 m.hd.op, .bool m.hd.aa, .bool m.hd.tc, .bool m.hd.rd, .bool m.hd.ra, .bool m.hd.z, .bool m.hd.ad, .bool m.hd.cd, .int .u8 m.hd.code, .slice qA m.qs.length qc, .slice aA m.ans.length ac, .slice uA m.auth.length uc, .slice xA m.extra.length xc, .bool m.he, .int .u16 m.ed.size, .int .u8 m.ed.ext, .int .u8 m.ed.ver, .int .u16 m.ed.flags, .slice oA m.ed.opts.length oc] rfl rfl 56 _ hz (by kernel_rfl) rfl (by kernel_rfl) ?_
    rw [alloc_setRowH Y msgZ #[.int .u16 m.hd.id, .bool m.hd.qr, .int .u8 m.hd.op, .bool m.hd.aa, .bool m.hd.tc, .bool m.hd.rd, .bool m.hd.ra, .bool m.hd.z, .bool m.hd.ad, .bool m.hd.cd, .int .u8 m.hd.code, .slice qA m.qs.length qc, .slice aA m.ans.length ac, .slice uA m.auth.length uc, .slice xA m.extra.length xc, .bool m.he, .int .u16 m.ed.size, .int .u8 m.ed.ext, .int .u8 m.ed.ver, .int .u16 m.ed.flags, .slice oA m.ed.opts.length oc] 56 g7 hg7]
    iterate 3 go_step
    refine wpList_nil ?_
    rw [← hg7]
    have r7 : (Y.alloc (.cells #[.int .u16 m.hd.id, .bool m.hd.qr, .int .u8 m.hd.op, .bool m.hd.aa, .bool m.hd.tc, .bool m.hd.rd, .bool m.hd.ra, .bool m.hd.z, .bool m.hd.ad, .bool m.hd.cd, .int .u8 m.hd.code, .slice qA m.qs.length qc, .slice aA m.ans.length ac, .slice uA m.auth.length uc, .slice xA m.extra.length xc, .bool m.he, .int .u16 m.ed.size, .int .u8 m.ed.ext, .int .u8 m.ed.ver, .int .u16 m.ed.flags, .slice oA m.ed.opts.length oc] 56)).heap[g7]? = some (.cells #[.int .u16 m.hd.id, .bool m.hd.qr, .int .u8 m.hd.op, .bool m.hd.aa, .bool m.hd.tc, .bool m.hd.rd, .bool m.hd.ra, .bool m.hd.z, .bool m.hd.ad, .bool m.hd.cd, .int .u8 m.hd.code, .slice qA m.qs.length qc, .slice aA m.ans.length ac, .slice uA m.auth.length uc, .slice xA m.extra.length xc, .bool m.he, .int .u16 m.ed.size, .int .u8 m.ed.ext, .int .u8 m.ed.ver, .int .u16 m.ed.flags, .slice oA m.ed.opts.length oc] 56) := by rw [hg7]; exact heap_alloc_new _ _
    have hEY : Ext Y (Y.alloc (.cells #[.int .u16 m.hd.id, .bool m.hd.qr, .int .u8 m.hd.op, .bool m.hd.aa, .bool m.hd.tc, .bool m.hd.rd, .bool m.hd.ra, .bool m.hd.z, .bool m.hd.ad, .bool m.hd.cd, .int .u8 m.hd.code, .slice qA m.qs.length qc, .slice aA m.ans.length ac, .slice uA m.auth.length uc, .slice xA m.extra.length xc, .bool m.he, .int .u16 m.ed.size, .int .u8 m.ed.ext, .int .u8 m.ed.ver, .int .u16 m.ed.flags, .slice oA m.ed.opts.length oc] 56)) := (Ext.refl _).alloc _
    have hg7s : Y.heap.size ≤ g7 := by rw [hg7]; exact Nat.le_refl _
    obtain ⟨Z, hZ⟩ : ∃ Z, Z = Y.alloc (.cells #[.int .u16 m.hd.id, .bool m.hd.qr, .int .u8 m.hd.op, .bool m.hd.aa, .bool m.hd.tc, .bool m.hd.rd, .bool m.hd.ra, .bool m.hd.z, .bool m.hd.ad, .bool m.hd.cd, .int .u8 m.hd.code, .slice qA m.qs.length qc, .slice aA m.ans.length ac, .slice uA m.auth.length uc, .slice xA m.extra.length xc, .bool m.he, .int .u16 m.ed.size, .int .u8 m.ed.ext, .int .u8 m.ed.ver, .int .u16 m.ed.flags, .slice oA m.ed.opts.length oc] 56) := ⟨_, rfl⟩
    rw [← hZ] at r7 hEY ⊢
    have hEZ : Ext X0 Z := hEd.trans hEY
    clear hZ hz hg7
    have rr := (hEZ.block _ (Array.getElem?_eq_some_iff.1 r0).1).trans r0
    have y0 := box_cell (j := 0) rr rfl
    have y1 := box_cell (j := 1) rr rfl
    have y2 := box_cell (j := 2) rr rfl
    have f0 := box_free (j := 0) rr
    have f1 := box_free (j := 1) rr
    have f2 := box_free (j := 2) rr
    have eb := (HEr.out Z (hE0.trans hEZ)).bad
    have ep := (HEr.out Z (hE0.trans hEZ)).pass
    have hg1eb : 0 < g1 := Nat.lt_of_lt_of_le (cell_lt he.bad) hgw
    have hg1ep : 1 < g1 := Nat.lt_of_lt_of_le (cell_lt he.pass) hgw
    have r1q := (hEZ.block _ (Array.getElem?_eq_some_iff.1 r10).1).trans r10
    have k0 := box_cell (j := 0) r1q rfl
    have k1 := box_cell (j := 1) r1q rfl
    have k2 := box_cell (j := 2) r1q rfl
    have HAs := Lib.hid (fun V (hV : Ext Z V) => heard_asks m (.slice qA m.qs.length qc) (.slice aA m.ans.length ac) (.slice uA m.auth.length uc) (.slice xA m.extra.length xc) (.slice oA m.ed.opts.length oc) n ty cls V (by
      obtain ⟨A, c, e, ho⟩ := HMO.out.qs
      exact Qus.ext ⟨A, c, e, ho.cap.1, ho.cap.2, ho.rd.lower (Nat.zero_le _)⟩ (hEY.trans hV)) (by unfold maxLen; omega) HBd.out.qok)
    have HCd := Lib.hid (fun V => heard_code m (.slice qA m.qs.length qc) (.slice aA m.ans.length ac) (.slice uA m.auth.length uc) (.slice xA m.extra.length xc) (.slice oA m.ed.opts.length oc) V d1 hcl)
    have HVo := Lib.hid (fun V (hV : Ext Z V) => ver_of (xOf m qA xA oA qc xc oc) n ty cls m.hd.code 0 aA ac uA uc m.ans m.auth V (hg.ext ((hE0.trans hEZ).trans hV)) ((HMO.out.ans.recs.lower (Nat.zero_le _)).ext (hEY.trans hV)) ((HMO.out.auth.recs.lower (Nat.zero_le _)).ext (hEY.trans hV)) ⟨by omega, hsh1⟩ ⟨by omega, hsh2⟩ (fun r hr => ⟨(d1.ans r hr).1, (d1.ans r hr).2.1⟩) (fun r hr => ⟨(d1.auth r hr).1, (d1.auth r hr).2.1⟩) hn)
    have z1 := box_cell (j := 1) r7 rfl
    have z2 := box_cell (j := 2) r7 rfl
    by_cases hits : m.hd.qr = true ∧ m.hd.op = 0 ∧ asksB m n ty cls = true
    · have Hits := Lib.hid hits
      obtain ⟨i1, i2, i3⟩ := hits
      rw [i1] at z1
      rw [i2] at z2
      rw [i3] at HAs
      have hits := Hits
      clear i1 i2 i3 Hits
      go_upto_region 4 with (first | (refine wpList_load_part (by rfl) 56 (.tmp 7) rfl g7 0 rfl [.int .u16 m.hd.id, .bool m.hd.qr, .int .u8 m.hd.op, .bool m.hd.aa, .bool m.hd.tc, .bool m.hd.rd, .bool m.hd.ra, .bool m.hd.z, .bool m.hd.ad, .bool m.hd.cd, .int .u8 m.hd.code, .slice qA m.qs.length qc, .slice aA m.ans.length ac, .slice uA m.auth.length uc, .slice xA m.extra.length xc, .bool m.he, .int .u16 m.ed.size, .int .u8 m.ed.ext, .int .u8 m.ed.ver, .int .u16 m.ed.flags, .slice oA m.ed.opts.length oc] (row_all r7) _ Tryz.underlying56 rfl (by kernel_rfl) ?_) | (go_at_call 70; refine (HAs.out _ (Ext.refl _)).mono ?_; rintro e W1 ⟨rfl, hE1⟩) | fail)
      have r71 := (hE1.block _ (Array.getElem?_eq_some_iff.1 r7).1).trans r7
      go_upto_region 5 with (first | (refine wpList_load_part (by rfl) 56 (.tmp 7) rfl g7 0 rfl [.int .u16 m.hd.id, .bool m.hd.qr, .int .u8 m.hd.op, .bool m.hd.aa, .bool m.hd.tc, .bool m.hd.rd, .bool m.hd.ra, .bool m.hd.z, .bool m.hd.ad, .bool m.hd.cd, .int .u8 m.hd.code, .slice qA m.qs.length qc, .slice aA m.ans.length ac, .slice uA m.auth.length uc, .slice xA m.extra.length xc, .bool m.he, .int .u16 m.ed.size, .int .u8 m.ed.ext, .int .u8 m.ed.ver, .int .u16 m.ed.flags, .slice oA m.ed.opts.length oc] (row_all r71) _ Tryz.underlying56 rfl (by kernel_rfl) ?_) | (go_at_call 71; refine (HCd.out _).mono ?_; rintro e W2 ⟨rfl, hE2⟩) | fail)
      have hEZ2 : Ext Z W2 := hE1.trans hE2
      have hEZ : Ext X0 W2 := hEZ.trans hEZ2
      clear y0 y1 y2 f0 f1 f2 k0 k1 k2 eb ep r71 z1 z2
      have rr := ((hEZ2).block _ (Array.getElem?_eq_some_iff.1 rr).1).trans rr
      have r7 := ((hEZ2).block _ (Array.getElem?_eq_some_iff.1 r7).1).trans r7
      have r1q := ((hEZ2).block _ (Array.getElem?_eq_some_iff.1 r1q).1).trans r1q
      have y0 := box_cell (j := 0) rr rfl
      have y1 := box_cell (j := 1) rr rfl
      have y2 := box_cell (j := 2) rr rfl
      have f0 := box_free (j := 0) rr
      have f1 := box_free (j := 1) rr
      have f2 := box_free (j := 2) rr
      have k0 := box_cell (j := 0) r1q rfl
      have k1 := box_cell (j := 1) r1q rfl
      have k2 := box_cell (j := 2) r1q rfl
      have eb := (HEr.out W2 (hE0.trans hEZ)).bad
      have ep := (HEr.out W2 (hE0.trans hEZ)).pass
      have z4 := box_cell (j := 4) r7 rfl
      by_cases htc : m.hd.tc = true
      · rw [htc] at z4
        have hR := Lib.hid (hR.out.trans (replyM_pass hits.out (.inl htc)))
        clear htc
        go_upto_region 6 with fail
        have hS : W2.drew.cell? ⟨1, 0, none⟩ = some (errV b) := ep
        refine wp_region_noPanic ?_
        refine wp_region_tree (S := (fun V => V.cell? ⟨1, 0, none⟩ = some (errV b))) (.take 0 (.take 1 (.run 2 (.take 3 (.take 4 (.done)))))) (by kernel_rfl) (by kernel_rfl) (fun _ _ _ _ _ h => h) (hS) ?_
        repeat ((with_reducible refine treeIs ?_); first
          | (refine treeTakeX (a' := ?_) ⟨_, hS⟩ (by rfl) rfl (by kernel_rfl) rfl ?_ ?_; rotate_left; (focus (intro V Q' hV hq; (repeat (first | go_guarded | go_skip | go_step)); (first | exact hq | exact wpList_nil hq)))))
        refine treeRun (by rfl) (fun K hK => ?_)
        go_simp
        refine hK.out _ _ ?_ ?_
        · exact cell3 ep (Nat.ne_of_lt hg1ep)
        clear hK K
        (try simp only [Act.put, List.setIfInBounds_toArray, List.set_cons_zero, List.set_cons_succ])
        repeat ((with_reducible refine treeIs ?_); first
          | (refine treeTakeX (a' := ?_) ⟨_, hS⟩ (by rfl) rfl (by kernel_rfl) rfl ?_ ?_; rotate_left; (focus (intro V Q' hV hq; (repeat (first | go_guarded | go_skip | go_step)); (first | exact hq | exact wpList_nil hq)))))
        refine treeDone ?_
        refine NoPanic.normal ?_
        obtain ⟨U, hU⟩ : ∃ U, U = (((W2.setCell ⟨g1, 0, none⟩ (.int .u8 0)).setCell ⟨g1, 1, none⟩ (.slice none 0 0)).setCell ⟨g1, 2, none⟩ (.slice none 0 0)).drew := ⟨_, rfl⟩
        rw [← hU]
        have ru : U.heap[g1]? = some (.cells #[.int .u8 0, .slice none 0 0, .slice none 0 0] 32) := by rw [hU]; exact row_set (row_set (row_set rr 0 _) 1 _) 2 _
        have hEU : Ext w U := by rw [hU]; exact ((((hE0.trans hEZ).setCell hgw _).setCell hgw _).setCell hgw _).drew
        have u0 := box_cell (j := 0) ru rfl
        have u1 := box_cell (j := 1) ru rfl
        have u2 := box_cell (j := 2) ru rfl
        clear hU rr y0 y1 y2 f0 f1 f2
        go_wp2_with fail
        refine bodyPost_ret (results_rowH rfl _ _ g1 _ _ _ _ rfl ru Tryz.underlying32 rfl (by kernel_rfl)) rfl ?_
        show ReadH (replyOf d n ty cls) a b w (.returned (.tuple #[.agg #[.int .u8 0, .slice none 0 0, .slice none 0 0], .int .u32 0, errV b])) U
        rw [hR.out]
        exact readH_pass hEU
      have htf : m.hd.tc = false := by cases h : m.hd.tc; rfl; exact absurd h htc
      rw [htf] at z4
      by_cases hc0 : code12 m = 0
      · have hR := Lib.hid (hR.out.trans (replyM_vote hits.out htf (.inl hc0)))
        rw [hc0]
        clear hc0 htf htc
        go_upto_region 8 with (first | (refine wpList_load_part (by rfl) 56 (.tmp 7) rfl g7 0 rfl [.int .u16 m.hd.id, .bool m.hd.qr, .int .u8 m.hd.op, .bool m.hd.aa, .bool m.hd.tc, .bool m.hd.rd, .bool m.hd.ra, .bool m.hd.z, .bool m.hd.ad, .bool m.hd.cd, .int .u8 m.hd.code, .slice qA m.qs.length qc, .slice aA m.ans.length ac, .slice uA m.auth.length uc, .slice xA m.extra.length xc, .bool m.he, .int .u16 m.ed.size, .int .u8 m.ed.ext, .int .u8 m.ed.ver, .int .u16 m.ed.flags, .slice oA m.ed.opts.length oc] (row_all r7) _ Tryz.underlying56 rfl (by kernel_rfl) ?_) | (go_at_call 22; refine (HVo.out _ hEZ2).mono ?_; rintro e W3 ⟨vs, vo, rfl, hvs, hvo, hdj, hE3⟩; have HVs := Lib.hid hvs; have HVt := Lib.hid hvo; obtain ⟨ps, pA, pc, _, rfl, _, _⟩ := hvs; obtain ⟨po, tA, tc, _, rfl, _, _⟩ := hvo) | fail)
        have HV := Lib.hid (show ∃ R, R = verOf n ty cls m.hd.code m.ans m.auth from ⟨_, rfl⟩)
        obtain ⟨R, hRv⟩ := HV.out
        rw [← hRv] at hR HVs HVt ⊢
        clear hRv HV
        have hEZ3 : Ext X0 W3 := hEZ.trans hE3
        by_cases herr : R.err = 0
        · have hR := Lib.hid (hR.out.trans (if_pos herr))
          rw [herr]
          clear herr
          obtain ⟨W4, hW4⟩ : ∃ W4, W4 = W3.alloc (.cells #[.int .u8 R.code, .slice pA ps.length pc, .slice tA po.length tc] 32) := ⟨_, rfl⟩
          obtain ⟨gv, hgv⟩ : ∃ gv, gv = W3.heap.size := ⟨_, rfl⟩
          have rv : W4.heap[gv]? = some (.cells #[.int .u8 R.code, .slice pA ps.length pc, .slice tA po.length tc] 32) := by rw [hW4, hgv]; exact heap_alloc_new _ _
          have hE34 : Ext W3 W4 := by rw [hW4]; exact (Ext.refl _).alloc _
          rw [← hW4, ← hgv]
          clear hW4 hgv
          have hE24 := hE3.trans hE34
          clear y0 y1 y2 f0 f1 f2 k0 k1 k2 eb ep
          have rr := (hE24.block _ (Array.getElem?_eq_some_iff.1 rr).1).trans rr
          have y0 := box_cell (j := 0) rr rfl
          have y1 := box_cell (j := 1) rr rfl
          have y2 := box_cell (j := 2) rr rfl
          have f0 := box_free (j := 0) rr
          have f1 := box_free (j := 1) rr
          have f2 := box_free (j := 2) rr
          have v0 := box_cell (j := 0) rv rfl
          have v1 := box_cell (j := 1) rv rfl
          have v2 := box_cell (j := 2) rv rfl
          have hg1l : g1 < W2.heap.size := Nat.lt_of_lt_of_le (Array.getElem?_eq_some_iff.1 r0).1 hEZ.size
          go_wp2_with fail
          obtain ⟨U, hU⟩ : ∃ U, U = (((W4.setCell ⟨g1, 0, none⟩ (.int .u8 R.code)).setCell ⟨g1, 1, none⟩ (.slice pA ps.length pc)).setCell ⟨g1, 2, none⟩ (.slice tA po.length tc)) := ⟨_, rfl⟩
          rw [← hU]
          have ru : U.heap[g1]? = some (.cells #[.int .u8 R.code, .slice pA ps.length pc, .slice tA po.length tc] 32) := by rw [hU]; exact row_set (row_set (row_set rr 0 _) 1 _) 2 _
          have hwW4 : Ext w W4 := hE0.trans (hEZ3.trans hE34)
          have hEU : Ext w U := by rw [hU]; exact ((hwW4.setCell hgw _).setCell hgw _).setCell hgw _
          refine bodyPost_ret (results_rowH rfl _ _ g1 _ _ _ _ rfl ru Tryz.underlying32 rfl (by kernel_rfl)) rfl ?_
          show ReadH (replyOf d n ty cls) a b w (.returned (.tuple #[.agg #[.int .u8 R.code, .slice pA ps.length pc, .slice tA po.length tc], .int .u32 R.time, .nilIface])) U
          rw [hR.out]
          have hlo : w.heap.size ≤ W2.heap.size := (hE0.trans hEZ).size
          refine ⟨_, _, _, rfl, .inr (.inr ⟨rfl, rfl⟩), ?_, ?_, hdj, hEU⟩
          · rw [hU]; exact (osets_set3 (HVs.out.ext hE34) hg1l _ _ _).lower hlo
          · rw [hU]; exact (osets_set3 (HVt.out.ext hE34) hg1l _ _ _).lower hlo
        · have hR := Lib.hid (hR.out.trans (if_neg herr))
          have her : ((R.err : Int) == 0) = false := by rw [beq_eq_false_iff_ne]; omega
          generalize (R.err : Int) = z at *
          have hz2 : ¬ z = 0 := by rw [beq_eq_false_iff_ne] at her; exact her
          have hz3 : decide (z = 0) = false := decide_eq_false hz2
          clear herr
          obtain ⟨W4, hW4⟩ : ∃ W4, W4 = W3.alloc (.cells #[.int .u8 R.code, .slice pA ps.length pc, .slice tA po.length tc] 32) := ⟨_, rfl⟩
          have hE34 : Ext W3 W4 := by rw [hW4]; exact (Ext.refl _).alloc _
          rw [← hW4]
          clear hW4
          have hE24 := hE3.trans hE34
          have hEZ := hEZ3.trans hE34
          clear y0 y1 y2 f0 f1 f2 k0 k1 k2 eb ep
          have rr := (hE24.block _ (Array.getElem?_eq_some_iff.1 rr).1).trans rr
          have y0 := box_cell (j := 0) rr rfl
          have y1 := box_cell (j := 1) rr rfl
          have y2 := box_cell (j := 2) rr rfl
          have f0 := box_free (j := 0) rr
          have f1 := box_free (j := 1) rr
          have f2 := box_free (j := 2) rr
          have eb := (HEr.out W4 (hE0.trans hEZ)).bad
          go_upto_region 9 with fail
          have hS : W4.drew.cell? ⟨0, 0, none⟩ = some (errV a) := eb
          refine wp_region_noPanic ?_
          refine wp_region_tree (S := (fun V => V.cell? ⟨0, 0, none⟩ = some (errV a))) (.take 0 (.take 1 (.run 2 (.take 3 (.take 4 (.done)))))) (by kernel_rfl) (by kernel_rfl) (fun _ _ _ _ _ h => h) (hS) ?_
          repeat ((with_reducible refine treeIs ?_); first
            | (refine treeTakeX (a' := ?_) ⟨_, hS⟩ (by rfl) rfl (by kernel_rfl) rfl ?_ ?_; rotate_left; (focus (intro V Q' hV hq; (repeat (first | go_guarded | go_skip | go_step)); (first | exact hq | exact wpList_nil hq)))))
          refine treeRun (by rfl) (fun K hK => ?_)
          go_simp
          refine hK.out _ _ ?_ ?_
          · exact cell3 eb (Nat.ne_of_lt hg1eb)
          clear hK K
          (try simp only [Act.put, List.setIfInBounds_toArray, List.set_cons_zero, List.set_cons_succ])
          repeat ((with_reducible refine treeIs ?_); first
            | (refine treeTakeX (a' := ?_) ⟨_, hS⟩ (by rfl) rfl (by kernel_rfl) rfl ?_ ?_; rotate_left; (focus (intro V Q' hV hq; (repeat (first | go_guarded | go_skip | go_step)); (first | exact hq | exact wpList_nil hq)))))
          refine treeDone ?_
          refine NoPanic.normal ?_
          obtain ⟨U, hU⟩ : ∃ U, U = (((W4.setCell ⟨g1, 0, none⟩ (.int .u8 0)).setCell ⟨g1, 1, none⟩ (.slice none 0 0)).setCell ⟨g1, 2, none⟩ (.slice none 0 0)).drew := ⟨_, rfl⟩
          rw [← hU]
          have ru : U.heap[g1]? = some (.cells #[.int .u8 0, .slice none 0 0, .slice none 0 0] 32) := by rw [hU]; exact row_set (row_set (row_set rr 0 _) 1 _) 2 _
          have hEU : Ext w U := by rw [hU]; exact ((((hE0.trans hEZ).setCell hgw _).setCell hgw _).setCell hgw _).drew
          have u0 := box_cell (j := 0) ru rfl
          have u1 := box_cell (j := 1) ru rfl
          have u2 := box_cell (j := 2) ru rfl
          clear hU rr y0 y1 y2 f0 f1 f2
          go_wp2_with fail
          refine bodyPost_ret (results_rowH rfl _ _ g1 _ _ _ _ rfl ru Tryz.underlying32 rfl (by kernel_rfl)) rfl ?_
          show ReadH (replyOf d n ty cls) a b w (.returned (.tuple #[.agg #[.int .u8 0, .slice none 0 0, .slice none 0 0], .int .u32 0, errV a])) U
          rw [hR.out]
          exact readH_bad hEU
      by_cases hc3 : code12 m = 3
      · have hR := Lib.hid (hR.out.trans (replyM_vote hits.out htf (.inr hc3)))
        rw [hc3]
        clear hc0 hc3 htf htc
        go_upto_region 8 with (first | (refine wpList_load_part (by rfl) 56 (.tmp 7) rfl g7 0 rfl [.int .u16 m.hd.id, .bool m.hd.qr, .int .u8 m.hd.op, .bool m.hd.aa, .bool m.hd.tc, .bool m.hd.rd, .bool m.hd.ra, .bool m.hd.z, .bool m.hd.ad, .bool m.hd.cd, .int .u8 m.hd.code, .slice qA m.qs.length qc, .slice aA m.ans.length ac, .slice uA m.auth.length uc, .slice xA m.extra.length xc, .bool m.he, .int .u16 m.ed.size, .int .u8 m.ed.ext, .int .u8 m.ed.ver, .int .u16 m.ed.flags, .slice oA m.ed.opts.length oc] (row_all r7) _ Tryz.underlying56 rfl (by kernel_rfl) ?_) | (go_at_call 22; refine (HVo.out _ hEZ2).mono ?_; rintro e W3 ⟨vs, vo, rfl, hvs, hvo, hdj, hE3⟩; have HVs := Lib.hid hvs; have HVt := Lib.hid hvo; obtain ⟨ps, pA, pc, _, rfl, _, _⟩ := hvs; obtain ⟨po, tA, tc, _, rfl, _, _⟩ := hvo) | fail)
        have HV := Lib.hid (show ∃ R, R = verOf n ty cls m.hd.code m.ans m.auth from ⟨_, rfl⟩)
        obtain ⟨R, hRv⟩ := HV.out
        rw [← hRv] at hR HVs HVt ⊢
        clear hRv HV
        have hEZ3 : Ext X0 W3 := hEZ.trans hE3
        by_cases herr : R.err = 0
        · have hR := Lib.hid (hR.out.trans (if_pos herr))
          rw [herr]
          clear herr
          obtain ⟨W4, hW4⟩ : ∃ W4, W4 = W3.alloc (.cells #[.int .u8 R.code, .slice pA ps.length pc, .slice tA po.length tc] 32) := ⟨_, rfl⟩
          obtain ⟨gv, hgv⟩ : ∃ gv, gv = W3.heap.size := ⟨_, rfl⟩
          have rv : W4.heap[gv]? = some (.cells #[.int .u8 R.code, .slice pA ps.length pc, .slice tA po.length tc] 32) := by rw [hW4, hgv]; exact heap_alloc_new _ _
          have hE34 : Ext W3 W4 := by rw [hW4]; exact (Ext.refl _).alloc _
          rw [← hW4, ← hgv]
          clear hW4 hgv
          have hE24 := hE3.trans hE34
          clear y0 y1 y2 f0 f1 f2 k0 k1 k2 eb ep
          have rr := (hE24.block _ (Array.getElem?_eq_some_iff.1 rr).1).trans rr
          have y0 := box_cell (j := 0) rr rfl
          have y1 := box_cell (j := 1) rr rfl
          have y2 := box_cell (j := 2) rr rfl
          have f0 := box_free (j := 0) rr
          have f1 := box_free (j := 1) rr
          have f2 := box_free (j := 2) rr
          have v0 := box_cell (j := 0) rv rfl
          have v1 := box_cell (j := 1) rv rfl
          have v2 := box_cell (j := 2) rv rfl
          have hg1l : g1 < W2.heap.size := Nat.lt_of_lt_of_le (Array.getElem?_eq_some_iff.1 r0).1 hEZ.size
          go_wp2_with fail
          obtain ⟨U, hU⟩ : ∃ U, U = (((W4.setCell ⟨g1, 0, none⟩ (.int .u8 R.code)).setCell ⟨g1, 1, none⟩ (.slice pA ps.length pc)).setCell ⟨g1, 2, none⟩ (.slice tA po.length tc)) := ⟨_, rfl⟩
          rw [← hU]
          have ru : U.heap[g1]? = some (.cells #[.int .u8 R.code, .slice pA ps.length pc, .slice tA po.length tc] 32) := by rw [hU]; exact row_set (row_set (row_set rr 0 _) 1 _) 2 _
          have hwW4 : Ext w W4 := hE0.trans (hEZ3.trans hE34)
          have hEU : Ext w U := by rw [hU]; exact ((hwW4.setCell hgw _).setCell hgw _).setCell hgw _
          refine bodyPost_ret (results_rowH rfl _ _ g1 _ _ _ _ rfl ru Tryz.underlying32 rfl (by kernel_rfl)) rfl ?_
          show ReadH (replyOf d n ty cls) a b w (.returned (.tuple #[.agg #[.int .u8 R.code, .slice pA ps.length pc, .slice tA po.length tc], .int .u32 R.time, .nilIface])) U
          rw [hR.out]
          have hlo : w.heap.size ≤ W2.heap.size := (hE0.trans hEZ).size
          refine ⟨_, _, _, rfl, .inr (.inr ⟨rfl, rfl⟩), ?_, ?_, hdj, hEU⟩
          · rw [hU]; exact (osets_set3 (HVs.out.ext hE34) hg1l _ _ _).lower hlo
          · rw [hU]; exact (osets_set3 (HVt.out.ext hE34) hg1l _ _ _).lower hlo
        · have hR := Lib.hid (hR.out.trans (if_neg herr))
          have her : ((R.err : Int) == 0) = false := by rw [beq_eq_false_iff_ne]; omega
          generalize (R.err : Int) = z at *
          have hz2 : ¬ z = 0 := by rw [beq_eq_false_iff_ne] at her; exact her
          have hz3 : decide (z = 0) = false := decide_eq_false hz2
          clear herr
          obtain ⟨W4, hW4⟩ : ∃ W4, W4 = W3.alloc (.cells #[.int .u8 R.code, .slice pA ps.length pc, .slice tA po.length tc] 32) := ⟨_, rfl⟩
          have hE34 : Ext W3 W4 := by rw [hW4]; exact (Ext.refl _).alloc _
          rw [← hW4]
          clear hW4
          have hE24 := hE3.trans hE34
          have hEZ := hEZ3.trans hE34
          clear y0 y1 y2 f0 f1 f2 k0 k1 k2 eb ep
          have rr := (hE24.block _ (Array.getElem?_eq_some_iff.1 rr).1).trans rr
          have y0 := box_cell (j := 0) rr rfl
          have y1 := box_cell (j := 1) rr rfl
          have y2 := box_cell (j := 2) rr rfl
          have f0 := box_free (j := 0) rr
          have f1 := box_free (j := 1) rr
          have f2 := box_free (j := 2) rr
          have eb := (HEr.out W4 (hE0.trans hEZ)).bad
          go_upto_region 9 with fail
          have hS : W4.drew.cell? ⟨0, 0, none⟩ = some (errV a) := eb
          refine wp_region_noPanic ?_
          refine wp_region_tree (S := (fun V => V.cell? ⟨0, 0, none⟩ = some (errV a))) (.take 0 (.take 1 (.run 2 (.take 3 (.take 4 (.done)))))) (by kernel_rfl) (by kernel_rfl) (fun _ _ _ _ _ h => h) (hS) ?_
          repeat ((with_reducible refine treeIs ?_); first
            | (refine treeTakeX (a' := ?_) ⟨_, hS⟩ (by rfl) rfl (by kernel_rfl) rfl ?_ ?_; rotate_left; (focus (intro V Q' hV hq; (repeat (first | go_guarded | go_skip | go_step)); (first | exact hq | exact wpList_nil hq)))))
          refine treeRun (by rfl) (fun K hK => ?_)
          go_simp
          refine hK.out _ _ ?_ ?_
          · exact cell3 eb (Nat.ne_of_lt hg1eb)
          clear hK K
          (try simp only [Act.put, List.setIfInBounds_toArray, List.set_cons_zero, List.set_cons_succ])
          repeat ((with_reducible refine treeIs ?_); first
            | (refine treeTakeX (a' := ?_) ⟨_, hS⟩ (by rfl) rfl (by kernel_rfl) rfl ?_ ?_; rotate_left; (focus (intro V Q' hV hq; (repeat (first | go_guarded | go_skip | go_step)); (first | exact hq | exact wpList_nil hq)))))
          refine treeDone ?_
          refine NoPanic.normal ?_
          obtain ⟨U, hU⟩ : ∃ U, U = (((W4.setCell ⟨g1, 0, none⟩ (.int .u8 0)).setCell ⟨g1, 1, none⟩ (.slice none 0 0)).setCell ⟨g1, 2, none⟩ (.slice none 0 0)).drew := ⟨_, rfl⟩
          rw [← hU]
          have ru : U.heap[g1]? = some (.cells #[.int .u8 0, .slice none 0 0, .slice none 0 0] 32) := by rw [hU]; exact row_set (row_set (row_set rr 0 _) 1 _) 2 _
          have hEU : Ext w U := by rw [hU]; exact ((((hE0.trans hEZ).setCell hgw _).setCell hgw _).setCell hgw _).drew
          have u0 := box_cell (j := 0) ru rfl
          have u1 := box_cell (j := 1) ru rfl
          have u2 := box_cell (j := 2) ru rfl
          clear hU rr y0 y1 y2 f0 f1 f2
          go_wp2_with fail
          refine bodyPost_ret (results_rowH rfl _ _ g1 _ _ _ _ rfl ru Tryz.underlying32 rfl (by kernel_rfl)) rfl ?_
          show ReadH (replyOf d n ty cls) a b w (.returned (.tuple #[.agg #[.int .u8 0, .slice none 0 0, .slice none 0 0], .int .u32 0, errV a])) U
          rw [hR.out]
          exact readH_bad hEU
      have hR := Lib.hid (hR.out.trans (replyM_pass hits.out (.inr ⟨hc0, hc3⟩)))
      generalize code12 m = cd at *
      have q0 : decide (cd = 0) = false := decide_eq_false hc0
      have q3 : decide (cd = 3) = false := decide_eq_false hc3
      have n0 : (cd != 0) = true := by rw [bne_iff_ne]; exact hc0
      have n3 : (cd != 3) = true := by rw [bne_iff_ne]; exact hc3
      have n4 : ¬ ((cd != 0) = false ∨ (cd != 3) = false) := by rw [n0, n3]; simp
      clear htf htc
      go_upto_region 6 with fail
      have hS : W2.drew.cell? ⟨1, 0, none⟩ = some (errV b) := ep
      refine wp_region_noPanic ?_
      refine wp_region_tree (S := (fun V => V.cell? ⟨1, 0, none⟩ = some (errV b))) (.take 0 (.take 1 (.run 2 (.take 3 (.take 4 (.done)))))) (by kernel_rfl) (by kernel_rfl) (fun _ _ _ _ _ h => h) (hS) ?_
      repeat ((with_reducible refine treeIs ?_); first
        | (refine treeTakeX (a' := ?_) ⟨_, hS⟩ (by rfl) rfl (by kernel_rfl) rfl ?_ ?_; rotate_left; (focus (intro V Q' hV hq; (repeat (first | go_guarded | go_skip | go_step)); (first | exact hq | exact wpList_nil hq)))))
      refine treeRun (by rfl) (fun K hK => ?_)
      go_simp
      refine hK.out _ _ ?_ ?_
      · exact cell3 ep (Nat.ne_of_lt hg1ep)
      clear hK K
      (try simp only [Act.put, List.setIfInBounds_toArray, List.set_cons_zero, List.set_cons_succ])
      repeat ((with_reducible refine treeIs ?_); first
        | (refine treeTakeX (a' := ?_) ⟨_, hS⟩ (by rfl) rfl (by kernel_rfl) rfl ?_ ?_; rotate_left; (focus (intro V Q' hV hq; (repeat (first | go_guarded | go_skip | go_step)); (first | exact hq | exact wpList_nil hq)))))
      refine treeDone ?_
      refine NoPanic.normal ?_
      obtain ⟨U, hU⟩ : ∃ U, U = (((W2.setCell ⟨g1, 0, none⟩ (.int .u8 0)).setCell ⟨g1, 1, none⟩ (.slice none 0 0)).setCell ⟨g1, 2, none⟩ (.slice none 0 0)).drew := ⟨_, rfl⟩
      rw [← hU]
      have ru : U.heap[g1]? = some (.cells #[.int .u8 0, .slice none 0 0, .slice none 0 0] 32) := by rw [hU]; exact row_set (row_set (row_set rr 0 _) 1 _) 2 _
      have hEU : Ext w U := by rw [hU]; exact ((((hE0.trans hEZ).setCell hgw _).setCell hgw _).setCell hgw _).drew
      have u0 := box_cell (j := 0) ru rfl
      have u1 := box_cell (j := 1) ru rfl
      have u2 := box_cell (j := 2) ru rfl
      clear hU rr y0 y1 y2 f0 f1 f2
      go_wp2_with fail
      refine bodyPost_ret (results_rowH rfl _ _ g1 _ _ _ _ rfl ru Tryz.underlying32 rfl (by kernel_rfl)) rfl ?_
      show ReadH (replyOf d n ty cls) a b w (.returned (.tuple #[.agg #[.int .u8 0, .slice none 0 0, .slice none 0 0], .int .u32 0, errV b])) U
      rw [hR.out]
      exact readH_pass hEU
    · have hR := Lib.hid (hR.out.trans (replyM_not hits))
      have hbad : ∀ B, asksB m n ty cls = B → ¬ (m.hd.qr = true ∧ m.hd.op = 0 ∧ B = true) := fun B hB hx => hits ⟨hx.1, hx.2.1, hB.trans hx.2.2⟩
      generalize hB : asksB m n ty cls = B at *
      have hbad := hbad B rfl
      clear hits hB
      rcases hqr : m.hd.qr with _ | _
      · rw [hqr] at z1
        clear hqr hbad
        go_upto_region 3 with fail
        have hS : Z.drew.cell? ⟨0, 0, none⟩ = some (errV a) := eb
        refine wp_region_noPanic ?_
        refine wp_region_tree (S := (fun V => V.cell? ⟨0, 0, none⟩ = some (errV a))) (.take 0 (.take 1 (.run 2 (.take 3 (.take 4 (.done)))))) (by kernel_rfl) (by kernel_rfl) (fun _ _ _ _ _ h => h) (hS) ?_
        repeat ((with_reducible refine treeIs ?_); first
          | (refine treeTakeX (a' := ?_) ⟨_, hS⟩ (by rfl) rfl (by kernel_rfl) rfl ?_ ?_; rotate_left; (focus (intro V Q' hV hq; (repeat (first | go_guarded | go_skip | go_step)); (first | exact hq | exact wpList_nil hq)))))
        refine treeRun (by rfl) (fun K hK => ?_)
        go_simp
        refine hK.out _ _ ?_ ?_
        · exact cell3 eb (Nat.ne_of_lt hg1eb)
        clear hK K
        (try simp only [Act.put, List.setIfInBounds_toArray, List.set_cons_zero, List.set_cons_succ])
        repeat ((with_reducible refine treeIs ?_); first
          | (refine treeTakeX (a' := ?_) ⟨_, hS⟩ (by rfl) rfl (by kernel_rfl) rfl ?_ ?_; rotate_left; (focus (intro V Q' hV hq; (repeat (first | go_guarded | go_skip | go_step)); (first | exact hq | exact wpList_nil hq)))))
        refine treeDone ?_
        refine NoPanic.normal ?_
        obtain ⟨U, hU⟩ : ∃ U, U = (((Z.setCell ⟨g1, 0, none⟩ (.int .u8 0)).setCell ⟨g1, 1, none⟩ (.slice none 0 0)).setCell ⟨g1, 2, none⟩ (.slice none 0 0)).drew := ⟨_, rfl⟩
        rw [← hU]
        have ru : U.heap[g1]? = some (.cells #[.int .u8 0, .slice none 0 0, .slice none 0 0] 32) := by rw [hU]; exact row_set (row_set (row_set rr 0 _) 1 _) 2 _
        have hEU : Ext w U := by rw [hU]; exact ((((hE0.trans hEZ).setCell hgw _).setCell hgw _).setCell hgw _).drew
        have u0 := box_cell (j := 0) ru rfl
        have u1 := box_cell (j := 1) ru rfl
        have u2 := box_cell (j := 2) ru rfl
        clear hU rr y0 y1 y2 f0 f1 f2
        go_wp2_with fail
        refine bodyPost_ret (results_rowH rfl _ _ g1 _ _ _ _ rfl ru Tryz.underlying32 rfl (by kernel_rfl)) rfl ?_
        show ReadH (replyOf d n ty cls) a b w (.returned (.tuple #[.agg #[.int .u8 0, .slice none 0 0, .slice none 0 0], .int .u32 0, errV a])) U
        rw [hR.out]
        exact readH_bad hEU
      rw [hqr] at z1
      by_cases hop : m.hd.op = 0
      · rw [hop] at z2
        obtain rfl : B = false := by cases B; rfl; exact absurd ⟨hqr, hop, rfl⟩ hbad
        clear hqr hop hbad
        go_upto_region 3 with (first | (refine wpList_load_part (by rfl) 56 (.tmp 7) rfl g7 0 rfl [.int .u16 m.hd.id, .bool m.hd.qr, .int .u8 m.hd.op, .bool m.hd.aa, .bool m.hd.tc, .bool m.hd.rd, .bool m.hd.ra, .bool m.hd.z, .bool m.hd.ad, .bool m.hd.cd, .int .u8 m.hd.code, .slice qA m.qs.length qc, .slice aA m.ans.length ac, .slice uA m.auth.length uc, .slice xA m.extra.length xc, .bool m.he, .int .u16 m.ed.size, .int .u8 m.ed.ext, .int .u8 m.ed.ver, .int .u16 m.ed.flags, .slice oA m.ed.opts.length oc] (row_all r7) _ Tryz.underlying56 rfl (by kernel_rfl) ?_) | (go_at_call 70; refine (HAs.out _ (Ext.refl _)).mono ?_; rintro e W1 ⟨rfl, hE1⟩) | fail)
        have hEZ : Ext X0 W1 := hEZ.trans hE1
        clear y0 y1 y2 f0 f1 f2 k0 k1 k2 eb ep z1 z2
        have rr := ((hE1).block _ (Array.getElem?_eq_some_iff.1 rr).1).trans rr
        have r7 := ((hE1).block _ (Array.getElem?_eq_some_iff.1 r7).1).trans r7
        have r1q := ((hE1).block _ (Array.getElem?_eq_some_iff.1 r1q).1).trans r1q
        have y0 := box_cell (j := 0) rr rfl
        have y1 := box_cell (j := 1) rr rfl
        have y2 := box_cell (j := 2) rr rfl
        have f0 := box_free (j := 0) rr
        have f1 := box_free (j := 1) rr
        have f2 := box_free (j := 2) rr
        have k0 := box_cell (j := 0) r1q rfl
        have k1 := box_cell (j := 1) r1q rfl
        have k2 := box_cell (j := 2) r1q rfl
        have eb := (HEr.out W1 (hE0.trans hEZ)).bad
        have ep := (HEr.out W1 (hE0.trans hEZ)).pass
        go_upto_region 3 with fail
        have hS : W1.drew.cell? ⟨0, 0, none⟩ = some (errV a) := eb
        refine wp_region_noPanic ?_
        refine wp_region_tree (S := (fun V => V.cell? ⟨0, 0, none⟩ = some (errV a))) (.take 0 (.take 1 (.run 2 (.take 3 (.take 4 (.done)))))) (by kernel_rfl) (by kernel_rfl) (fun _ _ _ _ _ h => h) (hS) ?_
        repeat ((with_reducible refine treeIs ?_); first
          | (refine treeTakeX (a' := ?_) ⟨_, hS⟩ (by rfl) rfl (by kernel_rfl) rfl ?_ ?_; rotate_left; (focus (intro V Q' hV hq; (repeat (first | go_guarded | go_skip | go_step)); (first | exact hq | exact wpList_nil hq)))))
        refine treeRun (by rfl) (fun K hK => ?_)
        go_simp
        refine hK.out _ _ ?_ ?_
        · exact cell3 eb (Nat.ne_of_lt hg1eb)
        clear hK K
        (try simp only [Act.put, List.setIfInBounds_toArray, List.set_cons_zero, List.set_cons_succ])
        repeat ((with_reducible refine treeIs ?_); first
          | (refine treeTakeX (a' := ?_) ⟨_, hS⟩ (by rfl) rfl (by kernel_rfl) rfl ?_ ?_; rotate_left; (focus (intro V Q' hV hq; (repeat (first | go_guarded | go_skip | go_step)); (first | exact hq | exact wpList_nil hq)))))
        refine treeDone ?_
        refine NoPanic.normal ?_
        obtain ⟨U, hU⟩ : ∃ U, U = (((W1.setCell ⟨g1, 0, none⟩ (.int .u8 0)).setCell ⟨g1, 1, none⟩ (.slice none 0 0)).setCell ⟨g1, 2, none⟩ (.slice none 0 0)).drew := ⟨_, rfl⟩
        rw [← hU]
        have ru : U.heap[g1]? = some (.cells #[.int .u8 0, .slice none 0 0, .slice none 0 0] 32) := by rw [hU]; exact row_set (row_set (row_set rr 0 _) 1 _) 2 _
        have hEU : Ext w U := by rw [hU]; exact ((((hE0.trans hEZ).setCell hgw _).setCell hgw _).setCell hgw _).drew
        have u0 := box_cell (j := 0) ru rfl
        have u1 := box_cell (j := 1) ru rfl
        have u2 := box_cell (j := 2) ru rfl
        clear hU rr y0 y1 y2 f0 f1 f2
        go_wp2_with fail
        refine bodyPost_ret (results_rowH rfl _ _ g1 _ _ _ _ rfl ru Tryz.underlying32 rfl (by kernel_rfl)) rfl ?_
        show ReadH (replyOf d n ty cls) a b w (.returned (.tuple #[.agg #[.int .u8 0, .slice none 0 0, .slice none 0 0], .int .u32 0, errV a])) U
        rw [hR.out]
        exact readH_bad hEU
      · have hop1 : decide (m.hd.op = 0) = false := decide_eq_false hop
        clear hqr hbad
        go_upto_region 3 with fail
        have hS : Z.drew.cell? ⟨0, 0, none⟩ = some (errV a) := eb
        refine wp_region_noPanic ?_
        refine wp_region_tree (S := (fun V => V.cell? ⟨0, 0, none⟩ = some (errV a))) (.take 0 (.take 1 (.run 2 (.take 3 (.take 4 (.done)))))) (by kernel_rfl) (by kernel_rfl) (fun _ _ _ _ _ h => h) (hS) ?_
        repeat ((with_reducible refine treeIs ?_); first
          | (refine treeTakeX (a' := ?_) ⟨_, hS⟩ (by rfl) rfl (by kernel_rfl) rfl ?_ ?_; rotate_left; (focus (intro V Q' hV hq; (repeat (first | go_guarded | go_skip | go_step)); (first | exact hq | exact wpList_nil hq)))))
        refine treeRun (by rfl) (fun K hK => ?_)
        go_simp
        refine hK.out _ _ ?_ ?_
        · exact cell3 eb (Nat.ne_of_lt hg1eb)
        clear hK K
        (try simp only [Act.put, List.setIfInBounds_toArray, List.set_cons_zero, List.set_cons_succ])
        repeat ((with_reducible refine treeIs ?_); first
          | (refine treeTakeX (a' := ?_) ⟨_, hS⟩ (by rfl) rfl (by kernel_rfl) rfl ?_ ?_; rotate_left; (focus (intro V Q' hV hq; (repeat (first | go_guarded | go_skip | go_step)); (first | exact hq | exact wpList_nil hq)))))
        refine treeDone ?_
        refine NoPanic.normal ?_
        obtain ⟨U, hU⟩ : ∃ U, U = (((Z.setCell ⟨g1, 0, none⟩ (.int .u8 0)).setCell ⟨g1, 1, none⟩ (.slice none 0 0)).setCell ⟨g1, 2, none⟩ (.slice none 0 0)).drew := ⟨_, rfl⟩
        rw [← hU]
        have ru : U.heap[g1]? = some (.cells #[.int .u8 0, .slice none 0 0, .slice none 0 0] 32) := by rw [hU]; exact row_set (row_set (row_set rr 0 _) 1 _) 2 _
        have hEU : Ext w U := by rw [hU]; exact ((((hE0.trans hEZ).setCell hgw _).setCell hgw _).setCell hgw _).drew
        have u0 := box_cell (j := 0) ru rfl
        have u1 := box_cell (j := 1) ru rfl
        have u2 := box_cell (j := 2) ru rfl
        clear hU rr y0 y1 y2 f0 f1 f2
        go_wp2_with fail
        refine bodyPost_ret (results_rowH rfl _ _ g1 _ _ _ _ rfl ru Tryz.underlying32 rfl (by kernel_rfl)) rfl ?_
        show ReadH (replyOf d n ty cls) a b w (.returned (.tuple #[.agg #[.int .u8 0, .slice none 0 0, .slice none 0 0], .int .u32 0, errV a])) U
        rw [hR.out]
        exact readH_bad hEU
end Go.Proofs.YtfjfmnnjempdaaaGreatDoor
namespace Go.Proofs.YtfjfmnnjempdaaaGreatDoor
set_option linter.unusedSimpArgs false
set_option linter.unusedVariables false
open Go.RowKit
set_option maxRecDepth 100000

set_option maxHeartbeats 4000000 in
theorem heard_look_g (d n : List UInt8) (ty cls : Int) (a b : Addr) (w : World) (hg : Laid w) (hb : BitsAt w) (he : ErrsAt w a b) (hd : d.length ≤ 1048576) (hfw : ∀ m, decR d = .ok m → m.ans.length ≤ 4096 ∧ m.auth.length ≤ 4096) (hn : n.length ≤ 1048576) :
    Calls Tryz.prog 14 #[.agg #[S n, .int .u16 ty, .int .u16 cls], S d] w (LookH (replyOf d n ty cls) w) := by
  have HK := Lib.hid (reply_kind d n ty cls)
  obtain ⟨X1, hX1⟩ : ∃ X1, X1 = w.alloc (.cells #[S n, .int .u16 ty, .int .u16 cls] 24) := ⟨_, rfl⟩
  obtain ⟨X0, hX0⟩ : ∃ X0, X0 = X1.alloc (.cells #[.int .u8 0, .int .u8 0, .slice none 0 0, .slice none 0 0, .int .u32 0] 37) := ⟨_, rfl⟩
  obtain ⟨g4, hg4⟩ : ∃ g4, g4 = X1.heap.size := ⟨_, rfl⟩
  have r1 : X1.heap[w.heap.size]? = some (.cells #[S n, .int .u16 ty, .int .u16 cls] 24) := by rw [hX1]; exact heap_alloc_new _ _
  have r0 : X0.heap[g4]? = some (.cells #[.int .u8 0, .int .u8 0, .slice none 0 0, .slice none 0 0, .int .u32 0] 37) := by rw [hX0, hg4]; exact heap_alloc_new _ _
  have hE01 : Ext X1 X0 := by rw [hX0]; exact (Ext.refl _).alloc _
  have hE0 : Ext w X0 := Ext.trans (by rw [hX1]; exact (Ext.refl _).alloc _) hE01
  have r10 := (hE01.block _ (Array.getElem?_eq_some_iff.1 r1).1).trans r1
  have hsz : w.heap.size + 1 = g4 := by rw [hg4, hX1]; simp
  have hg4w : w.heap.size ≤ g4 := by omega
  have HSz := Lib.hid hsz
  have HRd := Lib.hid (heard_read_g d n ty cls a b X0 (hg.ext hE0) (hb.ext hE0) (he.ext hE0) hd hfw hn)
  generalize hR : replyOf d n ty cls = R at *
  clear hsz hR
  go_enter Tryz.func14, Tryz.ntmps14
  go_upto_region 1 with fail
  rw [← hX1, ← hX0]
  have e1 : (w.heap.size + 1) = g4 := HSz.out
  try rw [e1]
  try rw [← hg4]
  clear e1 hX1 hX0 hg4 hE01
  have k0 := box_cell (j := 0) r10 rfl
  have k1 := box_cell (j := 1) r10 rfl
  have k2 := box_cell (j := 2) r10 rfl
  go_upto_region 2 with (first | (go_at_call 34; refine HRd.out.mono ?_; rintro e W3 ⟨vs, vo, er, rfl, hor, hvs, hvo, hdj, hE3⟩; have HVs := Lib.hid hvs; have HVt := Lib.hid hvo; obtain ⟨ps, pA, pc, _, rfl, _, _⟩ := hvs; obtain ⟨po, tA, tc, _, rfl, _, _⟩ := hvo) | fail)
  obtain ⟨W4, hW4⟩ : ∃ W4, W4 = W3.alloc (.cells #[.int .u8 R.ver.code, .slice pA ps.length pc, .slice tA po.length tc] 32) := ⟨_, rfl⟩
  obtain ⟨gv, hgv⟩ : ∃ gv, gv = W3.heap.size := ⟨_, rfl⟩
  have rv : W4.heap[gv]? = some (.cells #[.int .u8 R.ver.code, .slice pA ps.length pc, .slice tA po.length tc] 32) := by rw [hW4, hgv]; exact heap_alloc_new _ _
  have hE34 : Ext W3 W4 := by rw [hW4]; exact (Ext.refl _).alloc _
  rw [← hW4, ← hgv]
  clear hW4 hgv k0 k1 k2
  have rr := r0
  have hE04 := hE3.trans hE34
  have rr := ((hE04).block _ (Array.getElem?_eq_some_iff.1 rr).1).trans rr
  have y0 := box_cell (j := 0) rr rfl
  have y1 := box_cell (j := 1) rr rfl
  have y2 := box_cell (j := 2) rr rfl
  have y3 := box_cell (j := 3) rr rfl
  have y4 := box_cell (j := 4) rr rfl
  have f0 := box_free (j := 0) rr
  have f1 := box_free (j := 1) rr
  have f2 := box_free (j := 2) rr
  have f3 := box_free (j := 3) rr
  have f4 := box_free (j := 4) rr
  have hW4w : Ext w W4 := hE0.trans hE04
  have HEr := he.ext hW4w
  have eb := HEr.bad
  have ep := HEr.pass
  obtain ⟨ca, ta, hA⟩ := HEr.ha
  obtain ⟨cb, tb, hB⟩ := HEr.hb
  rcases hor with ⟨hk, rfl⟩ | ⟨hk, rfl⟩ | ⟨hk, rfl⟩
  · have hRb := Lib.hid (show R = .bad from by rcases HK.out with h | h | h; exact h; rw [h] at hk; exact absurd hk (by decide); rw [h] at hk; exact absurd hk (by decide))
    clear hk
    go_wp2_with fail
    refine (is_same a W4).mono ?_
    rintro e W5 ⟨rfl, hq5⟩
    rw [hq5]
    go_wp2_with fail
    obtain ⟨U, hU⟩ : ∃ U, U = (((((W4.setCell ⟨g4, 0, none⟩ (.int .u8 1)).setCell ⟨g4, 1, none⟩ (.int .u8 0)).setCell ⟨g4, 2, none⟩ (.slice none 0 0)).setCell ⟨g4, 3, none⟩ (.slice none 0 0)).setCell ⟨g4, 4, none⟩ (.int .u32 0)) := ⟨_, rfl⟩
    rw [← hU]
    have ru : U.heap[g4]? = some (.cells #[.int .u8 1, .int .u8 0, .slice none 0 0, .slice none 0 0, .int .u32 0] 37) := by rw [hU]; exact (row_set (row_set (row_set (row_set (row_set rr 0 _) 1 _) 2 _) 3 _) 4 _)
    have hEU : Ext w U := by rw [hU]; exact (((((hW4w).setCell hg4w _).setCell hg4w _).setCell hg4w _).setCell hg4w _).setCell hg4w _
    refine bodyPost_ret (results_rowL rfl _ _ g4 _ _ _ _ rfl ru Tryz.underlying37 rfl (by kernel_rfl)) rfl ?_
    show LookH R w (.returned (.agg #[.int .u8 1, .int .u8 0, .slice none 0 0, .slice none 0 0, .int .u32 0])) U
    rw [hRb.out]
    exact ⟨_, _, rfl, OSets.nil _ _, OSets.nil _ _, .inl rfl, hEU⟩
  · have hRb := Lib.hid (show R = .pass from by rcases HK.out with h | h | h; rw [h] at hk; exact absurd hk (by decide); exact h; rw [h] at hk; exact absurd hk (by decide))
    clear hk
    go_wp2_with fail
    refine (is_other b a cb ca tb ta W4 (fun e => HEr.ne e.symm) hB hA).mono ?_
    rintro e W5 ⟨rfl, hq5⟩
    rw [hq5]
    go_wp2_with fail
    refine (is_same b W4).mono ?_
    rintro e W6 ⟨rfl, hq6⟩
    rw [hq6]
    go_wp2_with fail
    obtain ⟨U, hU⟩ : ∃ U, U = (((((W4.setCell ⟨g4, 0, none⟩ (.int .u8 2)).setCell ⟨g4, 1, none⟩ (.int .u8 0)).setCell ⟨g4, 2, none⟩ (.slice none 0 0)).setCell ⟨g4, 3, none⟩ (.slice none 0 0)).setCell ⟨g4, 4, none⟩ (.int .u32 0)) := ⟨_, rfl⟩
    rw [← hU]
    have ru : U.heap[g4]? = some (.cells #[.int .u8 2, .int .u8 0, .slice none 0 0, .slice none 0 0, .int .u32 0] 37) := by rw [hU]; exact (row_set (row_set (row_set (row_set (row_set rr 0 _) 1 _) 2 _) 3 _) 4 _)
    have hEU : Ext w U := by rw [hU]; exact (((((hW4w).setCell hg4w _).setCell hg4w _).setCell hg4w _).setCell hg4w _).setCell hg4w _
    refine bodyPost_ret (results_rowL rfl _ _ g4 _ _ _ _ rfl ru Tryz.underlying37 rfl (by kernel_rfl)) rfl ?_
    show LookH R w (.returned (.agg #[.int .u8 2, .int .u8 0, .slice none 0 0, .slice none 0 0, .int .u32 0])) U
    rw [hRb.out]
    exact ⟨_, _, rfl, OSets.nil _ _, OSets.nil _ _, .inl rfl, hEU⟩
  · have hRk := Lib.hid hk
    clear hk
    have v0 := box_cell (j := 0) rv rfl
    have v1 := box_cell (j := 1) rv rfl
    have v2 := box_cell (j := 2) rv rfl
    have hg4l : g4 < X0.heap.size := (Array.getElem?_eq_some_iff.1 r0).1
    go_wp2_with fail
    refine (is_nil a W4).mono ?_
    rintro e W5 ⟨rfl, hq5⟩
    rw [hq5]
    go_wp2_with fail
    refine (is_nil b W4).mono ?_
    rintro e W6 ⟨rfl, hq6⟩
    rw [hq6]
    go_wp2_with fail
    obtain ⟨U, hU⟩ : ∃ U, U = (((((W4.setCell ⟨g4, 0, none⟩ (.int .u8 3)).setCell ⟨g4, 1, none⟩ (.int .u8 R.ver.code)).setCell ⟨g4, 2, none⟩ (.slice pA ps.length pc)).setCell ⟨g4, 3, none⟩ (.slice tA po.length tc)).setCell ⟨g4, 4, none⟩ (.int .u32 R.ver.time)) := ⟨_, rfl⟩
    rw [← hU]
    have ru : U.heap[g4]? = some (.cells #[.int .u8 3, .int .u8 R.ver.code, .slice pA ps.length pc, .slice tA po.length tc, .int .u32 R.ver.time] 37) := by rw [hU]; exact (row_set (row_set (row_set (row_set (row_set rr 0 _) 1 _) 2 _) 3 _) 4 _)
    have hEU : Ext w U := by rw [hU]; exact (((((hW4w).setCell hg4w _).setCell hg4w _).setCell hg4w _).setCell hg4w _).setCell hg4w _
    refine bodyPost_ret (results_rowL rfl _ _ g4 _ _ _ _ rfl ru Tryz.underlying37 rfl (by kernel_rfl)) rfl ?_
    show LookH R w (.returned (.agg #[.int .u8 3, .int .u8 R.ver.code, .slice pA ps.length pc, .slice tA po.length tc, .int .u32 R.ver.time])) U
    refine ⟨_, _, by rw [hRk.out], ?_, ?_, hdj, hEU⟩
    · rw [hU]; exact (osets_set5 (HVs.out.ext hE34) hg4l _ _ _ _ _).lower hE0.size
    · rw [hU]; exact (osets_set5 (HVt.out.ext hE34) hg4l _ _ _ _ _).lower hE0.size
end Go.Proofs.YtfjfmnnjempdaaaGreatDoor
namespace Go.Proofs.YtfjfmnnjempdaaaGreatDoor
set_option linter.unusedSimpArgs false
set_option linter.unusedVariables false
open Go.RowKit
def turnL (l : List RecD) (r k : Nat) : List RecD := (List.range k).map fun i => l.getD ((i + r) % l.length) ⟨[], 0, 0, 0, []⟩
theorem turnL_len (l : List RecD) (r k : Nat) : (turnL l r k).length = k := by simp [turnL]
theorem turnL_step (l : List RecD) (r k j : Nat) (hj : j < l.length) (e : (k + r) % l.length = j) : turnL l r (k + 1) = turnL l r k ++ [l[j]] := by
  unfold turnL
  rw [List.range_succ, List.map_append, List.map_cons, List.map_nil, e, List.getD_eq_getElem?_getD, List.getElem?_eq_getElem hj]; rfl
theorem turnL_mem (l : List RecD) (r : Nat) (hr : r < l.length) (x : RecD) : x ∈ turnL l r l.length ↔ x ∈ l := by
  have h0 : 0 < l.length := by omega
  unfold turnL
  constructor
  · intro h
    obtain ⟨i, hi, rfl⟩ := List.mem_map.1 h
    have hm : (i + r) % l.length < l.length := Nat.mod_lt _ h0
    rw [List.getD_eq_getElem?_getD, List.getElem?_eq_getElem hm]
    exact List.getElem_mem hm
  · intro h
    obtain ⟨j, hj, rfl⟩ := List.getElem_of_mem h
    refine List.mem_map.2 ⟨(j + (l.length - r)) % l.length, List.mem_range.2 (Nat.mod_lt _ h0), ?_⟩
    have e : ((j + (l.length - r)) % l.length + r) % l.length = j := by
      rw [Nat.mod_add_mod, show j + (l.length - r) + r = j + l.length by omega, Nat.add_mod_right, Nat.mod_eq_of_lt hj]
    rw [e, List.getD_eq_getElem?_getD, List.getElem?_eq_getElem hj]; rfl
/-- A list, turned about by U. -/
def turnU (l : List RecD) (U : Nat) : List RecD := turnL l (U % l.length) l.length
theorem turnU_nil (U : Nat) : turnU [] U = [] := rfl
theorem turnU_len (l : List RecD) (U : Nat) : (turnU l U).length = l.length := turnL_len _ _ _
theorem turnU_mem (l : List RecD) (U : Nat) (x : RecD) : x ∈ turnU l U ↔ x ∈ l := by
  by_cases h0 : l.length = 0
  · rw [List.eq_nil_of_length_eq_zero h0]; rfl
  · exact turnL_mem l _ (Nat.mod_lt _ (by omega)) x
theorem turnU_group (l : List RecD) (U : Nat) : groupR (turnU l U) = groupR l := group_set (turnU_mem l U)
/-- A message with its answers and authority turned about. -/
def turnM (m : MsgD) (U : Nat) : MsgD := { m with ans := turnU m.ans U, auth := turnU m.auth U }
theorem turnM_wf {m : MsgD} (h : m.wf) (U : Nat) : (turnM m U).wf :=
  ⟨h.id, h.op, h.code, h.qs, fun r hr => h.ans r ((turnU_mem _ _ _).1 hr), fun r hr => h.auth r ((turnU_mem _ _ _).1 hr), h.extra, h.size, h.ext, h.ver, h.flags, h.opts⟩
theorem turnM_reply (m : MsgD) (U : Nat) (n : List UInt8) (ty cls : Int) : replyM (turnM m U) n ty cls = replyM m n ty cls := by
  have hv : verOf n ty cls m.hd.code (turnU m.ans U) (turnU m.auth U) = verOf n ty cls m.hd.code m.ans m.auth := by
    unfold verOf
    rw [turnU_group]
    split
    · unfold verFol
      rw [turnU_group]
    · rfl
  have ha : asksB (turnM m U) n ty cls = asksB m n ty cls := rfl
  have hc : code12 (turnM m U) = code12 m := rfl
  unfold replyM
  rw [ha, hc]
  show (if m.hd.qr = true ∧ m.hd.op = 0 ∧ asksB m n ty cls = true then (if m.hd.tc = true ∨ (code12 m ≠ 0 ∧ code12 m ≠ 3) then ReplyD.pass else if (verOf n ty cls m.hd.code (turnU m.ans U) (turnU m.auth U)).err = 0 then ⟨3, verOf n ty cls m.hd.code (turnU m.ans U) (turnU m.auth U)⟩ else .bad) else .bad) = _
  rw [hv]
/-- What a message with its records turned about is written as is the same reply. -/
theorem turn_reply {d n : List UInt8} {m : MsgD} {ty cls : Int} (h : decR d = .ok m) (U : Nat) (he : encErr (turnM m U) = 0) : replyOf (encOf (turnM m U)) n ty cls = replyOf d n ty cls := by
  have h1 := dec_enc (turnM_wf (decR_ok h).1 U) he
  unfold replyOf
  rw [h1, h]
  exact turnM_reply m U n ty cls
end Go.Proofs.YtfjfmnnjempdaaaGreatDoor
namespace Go.Proofs.YtfjfmnnjempdaaaGreatDoor
set_option linter.unusedSimpArgs false
set_option linter.unusedVariables false
open Go.RowKit
set_option maxRecDepth 100000
theorem u64_natT (x : Int) : ∃ U : Nat, IntKind.u64.wrap x = (U : Int) ∧ U < 18446744073709551616 := by
  have h1 : 0 ≤ IntKind.u64.wrap x := by show 0 ≤ x % _; exact Int.emod_nonneg _ (by decide)
  have h2 : IntKind.u64.wrap x < 18446744073709551616 := by show x % _ < _; exact Int.emod_lt_of_pos _ (by decide)
  exact ⟨(IntKind.u64.wrap x).toNat, by omega, by omega⟩
theorem u64_inT (n : Nat) (h : n < 18446744073709551616) : IntKind.u64.wrap (n : Int) = (n : Int) := by
  show (n : Int) % _ = _
  exact Int.emod_eq_of_lt (by omega) (by show (n : Int) < 18446744073709551616; omega)
def TurnPost (l : List RecD) (w : World) (e : Ending) (w' : World) : Prop := ∃ v, e = .returned v ∧ ORec7 w' w.heap.size v l ∧ Ext w w'
set_option maxHeartbeats 4000000 in
theorem law24_turned (l : List RecD) (v : Value) (by_ : Int) (U : Nat) (hU : IntKind.u64.wrap by_ = (U : Int)) (w : World) (h : Recs w 0 v l) (hl : l.length ≤ 4096) :
    Calls Tryz.prog 23 #[v, .int .i64 by_] w (TurnPost (turnU l U) w) := by
  obtain ⟨A, c, rfl, a1, a2, ar⟩ := h
  unfold maxLen at a2
  obtain ⟨i0, hi0, hz0, hz1, hz2⟩ := info_parts info_rec7
  have hll := u64_inT l.length (by omega)
  obtain ⟨r, hr⟩ : ∃ r, U % l.length = r := ⟨_, rfl⟩
  have Hr := Lib.hid hr
  have HTu := Lib.hid (show turnU l U = turnL l r l.length from by unfold turnU; rw [hr])
  clear hr
  go_enter Tryz.func23, Tryz.ntmps23
  go_wp2_with fail
  go_loopw [5, 6] (fun s5 s6 wr => ∃ (k : Nat) (B : Option Addr) (d : Nat), k ≤ l.length ∧ s6 = .int .i64 k ∧ s5 = .slice B k d ∧ Own wr w.heap.size 46 5 B k d ((turnL l r k).flatMap recCells) ∧ Ext w wr) (fun _ s6 _ => l.length - (intOf s6).toNat)
  case atStart => exact ⟨0, none, 0, Nat.zero_le _, rfl, rfl, Own.nil _ _ _ _, Ext.refl _⟩
  case round =>
    obtain ⟨k, B, d, hk, rfl, rfl, hown, hE⟩ := hrel
    obtain ⟨wo, rfl⟩ : ∃ wo : World, wo = wr := ⟨_, rfl⟩
    by_cases hlt : k < l.length
    · have hrl : r < l.length := by rw [← Hr.out]; exact Nat.mod_lt _ (by omega)
      have e1 : (U : Int) % (l.length : Int) = (r : Int) := by rw [← Hr.out]; rfl
      have hjl : (k + r) % l.length < l.length := Nat.mod_lt _ (by omega)
      obtain ⟨j, hj⟩ : ∃ j, (k + r) % l.length = j := ⟨_, rfl⟩
      have e2 : ((k : Int) + (r : Int)) % (l.length : Int) = (j : Int) := by rw [← hj]; push_cast; rfl
      have e3 : ((k : Int) + (r : Int)).tmod (l.length : Int) = (j : Int) := by rw [Int.tmod_eq_emod_of_nonneg (by omega)]; exact e2
      rw [hj] at hjl
      have HT := Lib.hid (turnL_step l r k j hjl hj)
      obtain ⟨b, bo, rfl, _, hbz, hc⟩ := (ar.ext hE).2 (by omega)
      obtain ⟨x0, x1, x2, x3, x4⟩ := recs_cells hc j l[j] (List.getElem?_eq_getElem hjl)
      generalize l[j] = x at *
      obtain ⟨nm, ty, cl, tt, da⟩ := x
      dsimp only at *
      have hki : (k : Int) < (l.length : Int) := by omega
      have hk0 : (0 : Int) ≤ (k : Int) := by omega
      have hji : (j : Int) < (l.length : Int) := by omega
      have hj0 : (0 : Int) ≤ (j : Int) := by omega
      have hne0 : ¬ ((l.length : Int) = 0) := by omega
      have hne1 : ((l.length : Int) == 0) = false := by rw [beq_eq_false_iff_ne]; exact hne0
      have hsz := hE.size
      clear hc hj e2
      go_wp2_with (first
        | (at_builtin
           refine wpList_app _ rfl (.tmp 13) (.tmp 29) _ rfl w.heap.size 46 i0 _ 5 40 Tryz.underlying51 hi0 hz0 hz1 hz2 rfl (by omega) B k d ((turnL l r k).flatMap recCells) rfl (hown.ext ((Ext.refl _).alloc _)) 0 _ 1 1 (recCells ⟨nm, ty, cl, tt, da⟩) rfl (rd_new _ _ (by simp) _ _ 1 5 rfl) (rec_one7 _) (by omega) (by omega) (by simp; omega) ?_
           intro A6 c6 w6 hown6 hg6 hb6 hat6)
        | fail)
      have hE6 : Ext w w6 := (hE.alloc _).then hb6 (Nat.le_refl _)
      go_roundw
      case rel =>
        refine ⟨k + 1, A6, c6, by omega, by go_num, rfl, ?_, hE6⟩
        rw [HT.out, List.flatMap_append]
        simpa using hown6
      case measure => simp [intOf]; omega
    · obtain rfl : k = l.length := by omega
      have hki : ¬ ((l.length : Int) < (l.length : Int)) := by omega
      go_wp2_with fail
      go_ret
      refine ⟨.slice B l.length d, rfl, ⟨B, d, by rw [turnU_len], ?_⟩, hE⟩
      rw [turnU_len, HTu.out]
      exact hown
end Go.Proofs.YtfjfmnnjempdaaaGreatDoor
namespace Go.Proofs.YtfjfmnnjempdaaaGreatDoor
set_option linter.unusedSimpArgs false
set_option linter.unusedVariables false
open Go.RowKit
set_option maxRecDepth 100000
theorem Sets.lower24r {w : World} {lo lo' : Nat} {v : Value} {l : List SetD} (h : Sets w lo v l) (hl : lo' ≤ lo) : Sets w lo' v l := by
  obtain ⟨ps, A, c, h1, h2, h3, h4, h5, h6⟩ := h
  exact ⟨ps, A, c, h1, h2, h3, h4, h5.lower hl, fun p hp => (h6 p hp).lower hl⟩
theorem turn_msg7 {m : MsgD} {U b7 loY lo1 lo2 : Nat} {Y wt Z : World} {q a u x o v1 v2 z1 z2 : Value}
    (hZ : Z = (wt.setCell ⟨b7, 12, none⟩ z1).setCell ⟨b7, 13, none⟩ z2) (hM : MsgO Y loY m q a u x o) (hEY : Ext Y wt) (hbY : Y.heap.size ≤ b7)
    (h1 : ORec7 wt lo1 v1 (turnU m.ans U)) (hl1 : b7 < lo1) (h2 : ORec7 wt lo2 v2 (turnU m.auth U)) (hl2 : b7 < lo2) (hb : MsgBd m) : Msg7 Z (turnM m U) q v1 v2 x o := by
  have hkZ : ∀ k, k ≠ b7 → Z.heap[k]? = wt.heap[k]? := fun k hk => by
    rw [hZ]; exact (Below.heap_setCell _ ⟨b7, 13, none⟩ _ k hk).trans (Below.heap_setCell _ ⟨b7, 12, none⟩ _ k hk)
  have hEYZ : Ext Y Z := by rw [hZ]; exact (hEY.setCell hbY _).setCell hbY _
  have h8 := ((hM.lower (Nat.zero_le _)).ext hEYZ).msg7 hb
  have hr1 := (h1.by_ (w' := Z) fun k hk _ => hkZ k (by omega)).recs.lower (Nat.zero_le _)
  have hr2 := (h2.by_ (w' := Z) fun k hk _ => hkZ k (by omega)).recs.lower (Nat.zero_le _)
  exact ⟨h8.qs, hr1, hr2, h8.extra, h8.opts, hb.qok, fun r hr => hb.aok r ((turnU_mem _ _ _).1 hr), fun r hr => hb.uok r ((turnU_mem _ _ _).1 hr), hb.xok, hb.xl⟩
set_option maxHeartbeats 16000000 in
theorem law24_rows (n d : List UInt8) (ty cls by_ : Int) (a b : Addr) (w : World) (hg : Laid w) (hb : BitsAt w) (he : ErrsAt w a b) (hn : n.length ≤ maxLen) (hd : d.length ≤ maxLen) :
    Calls Tryz.prog 8 #[.agg #[S n, .int .u16 ty, .int .u16 cls], S d, .int .i64 by_] w fun e w' => e = .returned (.bool true) ∧ Ext w w' := by
  unfold maxLen at hn hd
  have HAw := Lib.hid (fun V (hV : Ext w V) => law24_awake a b V (hg.ext hV) (hb.ext hV) (he.ext hV))
  obtain ⟨X0, hX0⟩ : ∃ X0, X0 = w.alloc (.cells #[S n, .int .u16 ty, .int .u16 cls] 24) := ⟨_, rfl⟩
  obtain ⟨g3, hg3⟩ : ∃ g3, g3 = w.heap.size := ⟨_, rfl⟩
  have r0 : X0.heap[g3]? = some (.cells #[S n, .int .u16 ty, .int .u16 cls] 24) := by rw [hX0, hg3]; exact heap_alloc_new _ _
  have hE0 : Ext w X0 := by rw [hX0]; exact (Ext.refl _).alloc _
  go_enter Tryz.func8, Tryz.ntmps8
  go_upto_region 1 with fail
  rw [← hX0, ← hg3]
  clear hX0 hg3
  have k0 := box_cell (j := 0) r0 rfl
  have k1 := box_cell (j := 1) r0 rfl
  have k2 := box_cell (j := 2) r0 rfl
  by_cases hn : 3000 < n.length
  · have hni : (3000 : Int) < (n.length : Int) := by omega
    go_wp2_with fail
    refine (HAw.out _ hE0).mono ?_
    rintro e w1 ⟨rfl, hE1⟩
    go_wp2_with fail
    go_ret
    exact ⟨rfl, hE0.trans hE1⟩
  have hni : ¬ (3000 : Int) < (n.length : Int) := by omega
  by_cases hd : 3000 < d.length
  · have hdi : (3000 : Int) < (d.length : Int) := by omega
    go_wp2_with fail
    refine (HAw.out _ hE0).mono ?_
    rintro e w1 ⟨rfl, hE1⟩
    go_wp2_with fail
    go_ret
    exact ⟨rfl, hE0.trans hE1⟩
  have hdi : ¬ (3000 : Int) < (d.length : Int) := by omega
  go_wp2_with fail
  refine (HAw.out _ hE0).mono ?_
  rintro e w1 ⟨rfl, hE1⟩
  have rq := (hE1.block _ (Array.getElem?_eq_some_iff.1 r0).1).trans r0
  have hw1 : Ext w w1 := hE0.trans hE1
  clear k0 k1 k2
  have HD := Lib.hid (wire_decode d w1 (hg.ext hw1) (hb.ext hw1) (by omega))
  go_wp2_with fail
  refine HD.out.mono ?_
  rintro e Y ⟨hor, hEd⟩
  rcases hor with ⟨k, hk, hx, rfl⟩ | ⟨m, q, a', u, x, o, hm', rfl, hMO, hBd⟩
  · have hk1 : ((k : Int) == 0) = false := by rw [beq_eq_false_iff_ne]; omega
    clear hx hk
    generalize (k : Int) = z at *
    have hk2 : ¬ z = 0 := by rw [beq_eq_false_iff_ne] at hk1; exact hk1
    have hk3 : decide (z = 0) = false := decide_eq_false hk2
    dsimp only
    iterate 10 go_step
    obtain ⟨g7, hg7⟩ : ∃ g7, g7 = Y.heap.size := ⟨_, rfl⟩
    have hz : (Y.alloc (.cells msgZ 56)).heap[g7]? = some (.cells msgZ 56) := by rw [hg7]; exact heap_alloc_new _ _
    refine Go.Great.wpList_allocTo rfl (some 7) rfl (.pointer (some ⟨Y.heap.size, 0, none⟩)) (.cells msgZ 56) (by kernel_rfl) ?_
    rw [← hg7]
    refine Go.wpList_store_rowTo rfl 56 (.tmp 7) (.tmp 28) rfl rfl g7 msgZ rfl rfl 56 _ hz (by kernel_rfl) rfl (by kernel_rfl) ?_
    rw [alloc_setRowH Y msgZ msgZ 56 g7 hg7]
    iterate 3 go_step
    refine wpList_nil ?_
    rw [← hg7]
    have r7 : (Y.alloc (.cells msgZ 56)).heap[g7]? = some (.cells msgZ 56) := by rw [hg7]; exact heap_alloc_new _ _
    have hEY : Ext Y (Y.alloc (.cells msgZ 56)) := (Ext.refl _).alloc _
    have hgY : Y.heap.size ≤ g7 := by rw [hg7]; exact Nat.le_refl _
    obtain ⟨Z, hZ⟩ : ∃ Z, Z = Y.alloc (.cells msgZ 56) := ⟨_, rfl⟩
    rw [← hZ] at r7 hEY ⊢
    have hEZ : Ext w Z := hw1.trans (hEd.trans hEY)
    clear hZ hz hg7
    have rq := ((hEd.trans hEY).block _ (Array.getElem?_eq_some_iff.1 rq).1).trans rq
    have k0 := box_cell (j := 0) rq rfl
    have k1 := box_cell (j := 1) rq rfl
    have k2 := box_cell (j := 2) rq rfl
    go_wp2_with fail
    go_ret
    exact ⟨rfl, hEZ⟩
  · have HWf := Lib.hid (decR_ok hm').1
    have HFw := Lib.hid (show m.ans.length ≤ 4096 ∧ m.auth.length ≤ 4096 from by have := dec_few hm'; omega)
    obtain ⟨U, hU, hU2⟩ := u64_natT by_
    have HTr := Lib.hid (fun h => turn_reply (n := n) (ty := ty) (cls := cls) hm' U h)
    have HMO := Lib.hid hMO
    have HBd := Lib.hid hBd
    obtain ⟨⟨qA, qc, rfl, _⟩, ⟨aA, ac, rfl, _⟩, ⟨uA, uc, rfl, _⟩, ⟨xA, xc, rfl, _⟩, ⟨oA, oc, rfl, _⟩⟩ := hMO
    clear hm'
    dsimp only
    iterate 10 go_step
    obtain ⟨g7, hg7⟩ : ∃ g7, g7 = Y.heap.size := ⟨_, rfl⟩
    have hz : (Y.alloc (.cells msgZ 56)).heap[g7]? = some (.cells msgZ 56) := by rw [hg7]; exact heap_alloc_new _ _
    refine Go.Great.wpList_allocTo rfl (some 7) rfl (.pointer (some ⟨Y.heap.size, 0, none⟩)) (.cells msgZ 56) (by kernel_rfl) ?_
    rw [← hg7]
    refine Go.wpList_store_rowTo rfl 56 (.tmp 7) (.tmp 28) rfl rfl g7 #[.int .u16 m.hd.id, .bool m.hd.qr, .int .u8 m.hd.op, .bool m.hd.aa, .bool m.hd.tc, .bool m.hd.rd, .bool m.hd.ra, .bool m.hd.z, .bool m.hd.ad, .bool m.hd.cd, .int .u8 m.hd.code, .slice qA m.qs.length qc, .slice aA m.ans.length ac, .slice uA m.auth.length uc, .slice xA m.extra.length xc, .bool m.he, .int .u16 m.ed.size, .int .u8 m.ed.ext, .int .u8 m.ed.ver, .int .u16 m.ed.flags, .slice oA m.ed.opts.length oc] rfl rfl 56 _ hz (by kernel_rfl) rfl (by kernel_rfl) ?_
    rw [alloc_setRowH Y msgZ #[.int .u16 m.hd.id, .bool m.hd.qr, .int .u8 m.hd.op, .bool m.hd.aa, .bool m.hd.tc, .bool m.hd.rd, .bool m.hd.ra, .bool m.hd.z, .bool m.hd.ad, .bool m.hd.cd, .int .u8 m.hd.code, .slice qA m.qs.length qc, .slice aA m.ans.length ac, .slice uA m.auth.length uc, .slice xA m.extra.length xc, .bool m.he, .int .u16 m.ed.size, .int .u8 m.ed.ext, .int .u8 m.ed.ver, .int .u16 m.ed.flags, .slice oA m.ed.opts.length oc] 56 g7 hg7]
    iterate 3 go_step
    refine wpList_nil ?_
    rw [← hg7]
    have r7 : (Y.alloc (.cells #[.int .u16 m.hd.id, .bool m.hd.qr, .int .u8 m.hd.op, .bool m.hd.aa, .bool m.hd.tc, .bool m.hd.rd, .bool m.hd.ra, .bool m.hd.z, .bool m.hd.ad, .bool m.hd.cd, .int .u8 m.hd.code, .slice qA m.qs.length qc, .slice aA m.ans.length ac, .slice uA m.auth.length uc, .slice xA m.extra.length xc, .bool m.he, .int .u16 m.ed.size, .int .u8 m.ed.ext, .int .u8 m.ed.ver, .int .u16 m.ed.flags, .slice oA m.ed.opts.length oc] 56)).heap[g7]? = some (.cells #[.int .u16 m.hd.id, .bool m.hd.qr, .int .u8 m.hd.op, .bool m.hd.aa, .bool m.hd.tc, .bool m.hd.rd, .bool m.hd.ra, .bool m.hd.z, .bool m.hd.ad, .bool m.hd.cd, .int .u8 m.hd.code, .slice qA m.qs.length qc, .slice aA m.ans.length ac, .slice uA m.auth.length uc, .slice xA m.extra.length xc, .bool m.he, .int .u16 m.ed.size, .int .u8 m.ed.ext, .int .u8 m.ed.ver, .int .u16 m.ed.flags, .slice oA m.ed.opts.length oc] 56) := by rw [hg7]; exact heap_alloc_new _ _
    have hEY : Ext Y (Y.alloc (.cells #[.int .u16 m.hd.id, .bool m.hd.qr, .int .u8 m.hd.op, .bool m.hd.aa, .bool m.hd.tc, .bool m.hd.rd, .bool m.hd.ra, .bool m.hd.z, .bool m.hd.ad, .bool m.hd.cd, .int .u8 m.hd.code, .slice qA m.qs.length qc, .slice aA m.ans.length ac, .slice uA m.auth.length uc, .slice xA m.extra.length xc, .bool m.he, .int .u16 m.ed.size, .int .u8 m.ed.ext, .int .u8 m.ed.ver, .int .u16 m.ed.flags, .slice oA m.ed.opts.length oc] 56)) := (Ext.refl _).alloc _
    have hgY : Y.heap.size ≤ g7 := by rw [hg7]; exact Nat.le_refl _
    obtain ⟨Z, hZ⟩ : ∃ Z, Z = Y.alloc (.cells #[.int .u16 m.hd.id, .bool m.hd.qr, .int .u8 m.hd.op, .bool m.hd.aa, .bool m.hd.tc, .bool m.hd.rd, .bool m.hd.ra, .bool m.hd.z, .bool m.hd.ad, .bool m.hd.cd, .int .u8 m.hd.code, .slice qA m.qs.length qc, .slice aA m.ans.length ac, .slice uA m.auth.length uc, .slice xA m.extra.length xc, .bool m.he, .int .u16 m.ed.size, .int .u8 m.ed.ext, .int .u8 m.ed.ver, .int .u16 m.ed.flags, .slice oA m.ed.opts.length oc] 56) := ⟨_, rfl⟩
    rw [← hZ] at r7 hEY ⊢
    have hEZ : Ext w Z := hw1.trans (hEd.trans hEY)
    clear hZ hz hg7
    have rq := ((hEd.trans hEY).block _ (Array.getElem?_eq_some_iff.1 rq).1).trans rq
    have k0 := box_cell (j := 0) rq rfl
    have k1 := box_cell (j := 1) rq rfl
    have k2 := box_cell (j := 2) rq rfl
    clear k0 k1 k2
    have HGg := Lib.hid (show g3 < g7 from by
      have h1 := (Array.getElem?_eq_some_iff.1 r0).1
      have h2 := (hE1.trans hEd).size
      omega)
    have HS6 := Lib.hid (fun V (hV : Ext Z V) => (show V.cell? ⟨g7, 12, none⟩ = some (.slice aA m.ans.length ac) ∧ V.cell? ⟨g7, 13, none⟩ = some (.slice uA m.auth.length uc) from by
      have rV := (hV.block _ (Array.getElem?_eq_some_iff.1 r7).1).trans r7
      exact ⟨box_cell rV rfl, box_cell rV rfl⟩))
    have HT := Lib.hid (fun V (hV : Ext Z V) => law24_turned m.ans (.slice aA m.ans.length ac) by_ U hU V ((HMO.out.ans.recs.lower (Nat.zero_le _)).ext (hEY.trans hV)) HFw.out.1)
    have HU := Lib.hid (fun V (hV : Ext Z V) => law24_turned m.auth (.slice uA m.auth.length uc) by_ U hU V ((HMO.out.auth.recs.lower (Nat.zero_le _)).ext (hEY.trans hV)) HFw.out.2)
    unfold TurnPost at HT HU
    have hEZd : Ext Z Z.drew := (Ext.refl Z).drew
    clear hU hU2
    go_upto_region 6 with fail
    refine wp_region_noPanic ?_
    refine wp_region_tree (S := (fun _ => True)) (.take 0 (.take 2 (.take 4 (.take 6 (.run2 1 (.run2 3 (.run 5 (.take 8 (.run 7 (.run 9 (.take 10 (.run 11 (.done))))))) 5 (.run 3 (.take 8 (.run 7 (.run 9 (.take 10 (.run 11 (.done)))))))) 5 (.run 1 (.run 3 (.take 8 (.run 7 (.run 9 (.take 10 (.run 11 (.done))))))))))))) (by kernel_rfl) (by kernel_rfl) (fun _ _ _ _ _ h => h) (trivial) ?_
    repeat ((with_reducible refine treeIs ?_); first
      | (refine treeTakeX (a' := ?_) ⟨Z, trivial⟩ (by rfl) rfl (by kernel_rfl) rfl ?_ ?_; rotate_left; (focus (intro V Q' hV hq; (repeat (first | go_guarded | go_skip | go_step)); (first | exact hq | exact wpList_nil hq)))))
    refine treeRun2 ?_ ?_
    · refine treeRun (by rfl) (fun K hK => ?_)
      obtain ⟨hV1, hV2⟩ := HS6.out _ (hEZd)
      go_simp
      refine hK.out _ _ ?_ ?_
      · exact trivial
      clear hK K
      (try simp only [Act.put, List.setIfInBounds_toArray, List.set_cons_zero, List.set_cons_succ])
      refine treeRun2 ?_ ?_
      · refine treeRun (by rfl) (fun K hK => ?_)
        go_simp
        refine (HT.out _ (hEZd)).mono ?_
        rintro e wt1 ⟨z1, rfl, hz1, hEq⟩
        have hEt1 : Ext Z wt1 := (hEZd).trans hEq
        have hlt1 : Z.heap.size ≤ _ := (hEZd).size
        have hzz1 := Lib.hid hz1
        have hlo1 := Lib.hid hlt1
        have hEq1 := Lib.hid hEq
        obtain ⟨Az1, cz1, rfl, _⟩ := hz1
        clear hEq hlt1
        refine hK.out _ _ ?_ ?_
        · exact trivial
        clear hK K
        (try simp only [Act.put, List.setIfInBounds_toArray, List.set_cons_zero, List.set_cons_succ])
        refine treeRun (by rfl) (fun K hK => ?_)
        obtain ⟨hV1, hV2⟩ := HS6.out _ (hEt1)
        go_simp
        refine hK.out _ _ ?_ ?_
        · exact trivial
        clear hK K
        (try simp only [Act.put, List.setIfInBounds_toArray, List.set_cons_zero, List.set_cons_succ])
        repeat ((with_reducible refine treeIs ?_); first
          | (refine treeTakeX (a' := ?_) ⟨Z, trivial⟩ (by rfl) rfl (by kernel_rfl) rfl ?_ ?_; rotate_left; (focus (intro V Q' hV hq; (repeat (first | go_guarded | go_skip | go_step)); (first | exact hq | exact wpList_nil hq)))))
        refine treeRun (by rfl) (fun K hK => ?_)
        go_simp
        refine (HU.out _ (hEt1)).mono ?_
        rintro e wt2 ⟨z2, rfl, hz2, hEq⟩
        have hEt2 : Ext Z wt2 := (hEt1).trans hEq
        have hlt2 : Z.heap.size ≤ _ := (hEt1).size
        have hzz2 := Lib.hid hz2
        have hlo2 := Lib.hid hlt2
        have hEq2 := Lib.hid hEq
        obtain ⟨Az2, cz2, rfl, _⟩ := hz2
        clear hEq hlt2
        refine hK.out _ _ ?_ ?_
        · exact trivial
        clear hK K
        (try simp only [Act.put, List.setIfInBounds_toArray, List.set_cons_zero, List.set_cons_succ])
        refine treeRun (by rfl) (fun K hK => ?_)
        have rQ := (hEt2.block _ (Array.getElem?_eq_some_iff.1 r7).1).trans r7
        have kQ := box_cell (j := 12) rQ rfl
        have fQ := box_free (j := 12) rQ
        have kQ3 := box_cell (j := 13) rQ rfl
        have fQ3 := box_free (j := 13) rQ
        go_simp
        refine hK.out _ _ ?_ ?_
        · exact trivial
        clear hK K
        (try simp only [Act.put, List.setIfInBounds_toArray, List.set_cons_zero, List.set_cons_succ])
        repeat ((with_reducible refine treeIs ?_); first
          | (refine treeTakeX (a' := ?_) ⟨Z, trivial⟩ (by rfl) rfl (by kernel_rfl) rfl ?_ ?_; rotate_left; (focus (intro V Q' hV hq; (repeat (first | go_guarded | go_skip | go_step)); (first | exact hq | exact wpList_nil hq)))))
        refine treeRun (by rfl) (fun K hK => ?_)
        go_simp
        refine hK.out _ _ ?_ ?_
        · exact trivial
        clear hK K
        (try simp only [Act.put, List.setIfInBounds_toArray, List.set_cons_zero, List.set_cons_succ])
        refine treeDone ?_
        refine NoPanic.normal ?_
        go_upto_region 7 with fail
        obtain ⟨Z9, hZ9⟩ : ∃ Z9, Z9 = (wt2.setCell ⟨g7, 12, none⟩ (.slice Az1 (turnU m.ans U).length cz1)).setCell ⟨g7, 13, none⟩ (.slice Az2 (turnU m.auth U).length cz2) := ⟨_, rfl⟩
        rw [← hZ9]
        have rZ : Z9.heap[g7]? = some (.cells #[.int .u16 m.hd.id, .bool m.hd.qr, .int .u8 m.hd.op, .bool m.hd.aa, .bool m.hd.tc, .bool m.hd.rd, .bool m.hd.ra, .bool m.hd.z, .bool m.hd.ad, .bool m.hd.cd, .int .u8 m.hd.code, .slice qA m.qs.length qc, .slice Az1 (turnU m.ans U).length cz1, .slice Az2 (turnU m.auth U).length cz2, .slice xA m.extra.length xc, .bool m.he, .int .u16 m.ed.size, .int .u8 m.ed.ext, .int .u8 m.ed.ver, .int .u16 m.ed.flags, .slice oA m.ed.opts.length oc] 56) := by rw [hZ9]; exact row_set (row_set rQ 12 _) 13 _
        have hkZ : ∀ k, k ≠ g7 → Z9.heap[k]? = wt2.heap[k]? := fun k hk => by rw [hZ9]; exact (Below.heap_setCell _ ⟨g7, 13, none⟩ _ k hk).trans (Below.heap_setCell _ ⟨g7, 12, none⟩ _ k hk)
        have hg7l : g7 < Z.heap.size := (Array.getElem?_eq_some_iff.1 r7).1
        have hg3l : g3 < g7 := HGg.out
        have rq9 := (hkZ g3 (by omega)).trans ((hEt2.block _ (Array.getElem?_eq_some_iff.1 rq).1).trans rq)
        have hbY : Y.heap.size ≤ g7 := hgY
        have hlz1 : g7 < _ := Nat.lt_of_lt_of_le hg7l hlo1.out
        have hlz2 : g7 < _ := Nat.lt_of_lt_of_le hg7l hlo2.out
        have hm7 := turn_msg7 hZ9 HMO.out (hEY.trans hEt2) hbY (hzz1.out.by_ fun k _ hk => hEq2.out.block k hk) hlz1 hzz2.out hlz2 HBd.out
        have hwg7 : w.heap.size ≤ g7 := Nat.le_trans (hw1.trans hEd).size hgY
        have hwZ9 : Ext w Z9 := by rw [hZ9]; exact ((hEZ.trans hEt2).setCell hwg7 _).setCell hwg7 _
        have HEn := Lib.hid (wire_encode (turnM m U) _ _ _ _ _ Z9 (hg.ext hwZ9) (hb.ext hwZ9) (turnM_wf HWf.out U) hm7)
        unfold EncPost at HEn
        clear hZ9 kQ fQ kQ3 fQ3 rQ hkZ
        go_upto_region 8 with (first | (refine wpList_load_part (by rfl) 56 (.tmp 7) rfl g7 0 rfl [.int .u16 m.hd.id, .bool m.hd.qr, .int .u8 m.hd.op, .bool m.hd.aa, .bool m.hd.tc, .bool m.hd.rd, .bool m.hd.ra, .bool m.hd.z, .bool m.hd.ad, .bool m.hd.cd, .int .u8 m.hd.code, .slice qA m.qs.length qc, .slice Az1 (turnU m.ans U).length cz1, .slice Az2 (turnU m.auth U).length cz2, .slice xA m.extra.length xc, .bool m.he, .int .u16 m.ed.size, .int .u8 m.ed.ext, .int .u8 m.ed.ver, .int .u16 m.ed.flags, .slice oA m.ed.opts.length oc] (row_all rZ) _ Tryz.underlying56 rfl (by kernel_rfl) ?_) | (go_at_call 17; refine HEn.out.mono ?_; rintro e we ⟨rfl, hEe⟩) | fail)
        have hwe : Ext w we := hwZ9.trans hEe
        have rqe := (hEe.block _ (Array.getElem?_eq_some_iff.1 rq9).1).trans rq9
        have HS8 := Lib.hid (fun V (hV : Ext we V) => keepQ hV rqe)
        by_cases henc : encErr (turnM m U) = 0
        · have HL2 := Lib.hid (fun V (hV : Ext w V) => heard_look d n ty cls a b V (hg.ext hV) (hb.ext hV) (he.ext hV) (by omega) (by omega))
          have HL1 := Lib.hid (fun V (hV : Ext w V) => heard_look_g (encOf (turnM m U)) n ty cls a b V (hg.ext hV) (hb.ext hV) (he.ext hV) (by have h2 := (enc_may henc).2; rw [h2.2]; have := h2.1; omega) (fun m2 hm2 => by
            rw [dec_enc (turnM_wf HWf.out U) henc] at hm2
            injection hm2 with hm2
            subst hm2
            show (turnU m.ans U).length ≤ _ ∧ (turnU m.auth U).length ≤ _
            rw [turnU_len, turnU_len]
            have := HFw.out
            omega) (by omega))
          rw [HTr.out henc] at HL1
          unfold LookH at HL1 HL2
          generalize replyOf d n ty cls = R at *
          generalize hes : encOf (turnM m U) = s at *
          rw [henc]
          clear henc hes
          refine wp_region_noPanic ?_
          refine wp_region_tree (S := (fun V => V.cell? ⟨g3, 0, none⟩ = some (S n) ∧ V.cell? ⟨g3, 1, none⟩ = some (.int .u16 ty) ∧ V.cell? ⟨g3, 2, none⟩ = some (.int .u16 cls))) (.take 0 (.take 1 (.take 2 (.take 3 (.take 4 (.take 6 (.take 7 (.run 5 (.run 8 (.run 9 (.take 10 (.take 11 (.done))))))))))))) (by kernel_rfl) (by kernel_rfl) (fun _ _ _ _ _ h => h) ((HS8.out _ (Ext.refl we).drew)) ?_
          repeat ((with_reducible refine treeIs ?_); first
            | (refine treeTakeX (a' := ?_) ⟨_, (HS8.out _ (Ext.refl we).drew)⟩ (by rfl) rfl (by kernel_rfl) rfl ?_ ?_; rotate_left; (focus (intro V Q' hV hq; obtain ⟨hV1, hV2, hV3⟩ := hV; (repeat (first | go_guarded | go_skip | go_step)); (first | exact hq | exact wpList_nil hq)))))
          refine treeRun (by rfl) (fun K hK => ?_)
          go_simp
          refine (HL1.out _ (hwe.trans ((Ext.refl we).drew))).mono ?_
          rintro e wa ⟨vswa, vowa, rfl, hswa, howa, _, hqwa⟩
          have hEwa : Ext we wa := ((Ext.refl we).drew).trans hqwa
          have Hswa := Lib.hid (hswa.sets.lower24r (Nat.zero_le _))
          have Howa := Lib.hid (howa.sets.lower24r (Nat.zero_le _))
          have Hqwa := Lib.hid hqwa
          obtain ⟨pswa, pAwa, pcwa, _, rfl, _, _⟩ := hswa
          obtain ⟨powa, tAwa, tcwa, _, rfl, _, _⟩ := howa
          clear hqwa
          refine hK.out _ _ ?_ ?_
          · exact (HS8.out _ hEwa)
          clear hK K
          (try simp only [Act.put, List.setIfInBounds_toArray, List.set_cons_zero, List.set_cons_succ])
          refine treeRun (by rfl) (fun K hK => ?_)
          go_simp
          refine (HL2.out _ (hwe.trans (hEwa))).mono ?_
          rintro e wb ⟨vswb, vowb, rfl, hswb, howb, _, hqwb⟩
          have hEwb : Ext we wb := (hEwa).trans hqwb
          have Hswb := Lib.hid (hswb.sets.lower24r (Nat.zero_le _))
          have Howb := Lib.hid (howb.sets.lower24r (Nat.zero_le _))
          have Hqwb := Lib.hid hqwb
          obtain ⟨pswb, pAwb, pcwb, _, rfl, _, _⟩ := hswb
          obtain ⟨powb, tAwb, tcwb, _, rfl, _, _⟩ := howb
          clear hqwb
          refine hK.out _ _ ?_ ?_
          · exact (HS8.out _ hEwb)
          clear hK K
          (try simp only [Act.put, List.setIfInBounds_toArray, List.set_cons_zero, List.set_cons_succ])
          refine treeRun (by rfl) (fun K hK => ?_)
          go_simp
          refine (ref24_same R.kind R.ver.code R.ver.time R.ver.sets R.ver.soa _ _ _ _ _ _ _ _ _ _ _ _ _ (Hswa.out.ext Hqwb.out) (Hswb.out) (Howa.out.ext Hqwb.out) (Howb.out)).mono ?_
          rintro e wS ⟨rfl, hES⟩
          have hEwS : Ext we wS := (hEwb).trans hES
          clear hES
          refine hK.out _ _ ?_ ?_
          · exact (HS8.out _ hEwS)
          clear hK K
          (try simp only [Act.put, List.setIfInBounds_toArray, List.set_cons_zero, List.set_cons_succ])
          repeat ((with_reducible refine treeIs ?_); first
            | (refine treeTakeX (a' := ?_) ⟨_, (HS8.out _ (Ext.refl we).drew)⟩ (by rfl) rfl (by kernel_rfl) rfl ?_ ?_; rotate_left; (focus (intro V Q' hV hq; obtain ⟨hV1, hV2, hV3⟩ := hV; (repeat (first | go_guarded | go_skip | go_step)); (first | exact hq | exact wpList_nil hq)))))
          refine treeDone ?_
          refine NoPanic.normal ?_
          go_wp2_with fail
          go_ret
          exact ⟨rfl, hwe.trans (hEwS)⟩
        · generalize hze : (encErr (turnM m U) : Int) = z at *
          have hk1 : (z == 0) = false := by rw [beq_eq_false_iff_ne]; omega
          have hk2 : ¬ z = 0 := by omega
          have hk3 : decide (z = 0) = false := decide_eq_false hk2
          have hk4 : (z != 0) = true := by rw [bne_iff_ne]; exact hk2
          clear henc hze
          refine wp_region_noPanic ?_
          refine wp_region_tree (S := (fun V => V.cell? ⟨g3, 0, none⟩ = some (S n) ∧ V.cell? ⟨g3, 1, none⟩ = some (.int .u16 ty) ∧ V.cell? ⟨g3, 2, none⟩ = some (.int .u16 cls))) (.take 0 (.take 1 (.take 2 (.take 3 (.take 4 (.take 5 (.take 6 (.take 7 (.take 8 (.take 9 (.take 10 (.take 11 (.done))))))))))))) (by kernel_rfl) (by kernel_rfl) (fun _ _ _ _ _ h => h) ((HS8.out _ (Ext.refl we).drew)) ?_
          repeat ((with_reducible refine treeIs ?_); first
            | (refine treeTakeX (a' := ?_) ⟨_, (HS8.out _ (Ext.refl we).drew)⟩ (by rfl) rfl (by kernel_rfl) rfl ?_ ?_; rotate_left; (focus (intro V Q' hV hq; obtain ⟨hV1, hV2, hV3⟩ := hV; (repeat (first | go_guarded | go_skip | go_step)); (first | exact hq | exact wpList_nil hq))))
            | (refine treeSkip (by rfl) (by rfl) ?_; (try simp only [Act.put, List.setIfInBounds_toArray, List.set_cons_zero, List.set_cons_succ])))
          refine treeDone ?_
          refine NoPanic.normal ?_
          go_wp2_with fail
          go_ret
          exact ⟨rfl, hwe.trans ((Ext.refl we).drew)⟩
      · refine treeRun (by rfl) (fun K hK => ?_)
        obtain ⟨hV1, hV2⟩ := HS6.out _ (hEZd)
        go_simp
        refine hK.out _ _ ?_ ?_
        · exact trivial
        clear hK K
        (try simp only [Act.put, List.setIfInBounds_toArray, List.set_cons_zero, List.set_cons_succ])
        refine treeRun (by rfl) (fun K hK => ?_)
        go_simp
        refine (HT.out _ (hEZd)).mono ?_
        rintro e wt1 ⟨z1, rfl, hz1, hEq⟩
        have hEt1 : Ext Z wt1 := (hEZd).trans hEq
        have hlt1 : Z.heap.size ≤ _ := (hEZd).size
        have hzz1 := Lib.hid hz1
        have hlo1 := Lib.hid hlt1
        have hEq1 := Lib.hid hEq
        obtain ⟨Az1, cz1, rfl, _⟩ := hz1
        clear hEq hlt1
        refine hK.out _ _ ?_ ?_
        · exact trivial
        clear hK K
        (try simp only [Act.put, List.setIfInBounds_toArray, List.set_cons_zero, List.set_cons_succ])
        repeat ((with_reducible refine treeIs ?_); first
          | (refine treeTakeX (a' := ?_) ⟨Z, trivial⟩ (by rfl) rfl (by kernel_rfl) rfl ?_ ?_; rotate_left; (focus (intro V Q' hV hq; (repeat (first | go_guarded | go_skip | go_step)); (first | exact hq | exact wpList_nil hq)))))
        refine treeRun (by rfl) (fun K hK => ?_)
        go_simp
        refine (HU.out _ (hEt1)).mono ?_
        rintro e wt2 ⟨z2, rfl, hz2, hEq⟩
        have hEt2 : Ext Z wt2 := (hEt1).trans hEq
        have hlt2 : Z.heap.size ≤ _ := (hEt1).size
        have hzz2 := Lib.hid hz2
        have hlo2 := Lib.hid hlt2
        have hEq2 := Lib.hid hEq
        obtain ⟨Az2, cz2, rfl, _⟩ := hz2
        clear hEq hlt2
        refine hK.out _ _ ?_ ?_
        · exact trivial
        clear hK K
        (try simp only [Act.put, List.setIfInBounds_toArray, List.set_cons_zero, List.set_cons_succ])
        refine treeRun (by rfl) (fun K hK => ?_)
        have rQ := (hEt2.block _ (Array.getElem?_eq_some_iff.1 r7).1).trans r7
        have kQ := box_cell (j := 12) rQ rfl
        have fQ := box_free (j := 12) rQ
        have kQ3 := box_cell (j := 13) rQ rfl
        have fQ3 := box_free (j := 13) rQ
        go_simp
        refine hK.out _ _ ?_ ?_
        · exact trivial
        clear hK K
        (try simp only [Act.put, List.setIfInBounds_toArray, List.set_cons_zero, List.set_cons_succ])
        repeat ((with_reducible refine treeIs ?_); first
          | (refine treeTakeX (a' := ?_) ⟨Z, trivial⟩ (by rfl) rfl (by kernel_rfl) rfl ?_ ?_; rotate_left; (focus (intro V Q' hV hq; (repeat (first | go_guarded | go_skip | go_step)); (first | exact hq | exact wpList_nil hq)))))
        refine treeRun (by rfl) (fun K hK => ?_)
        go_simp
        refine hK.out _ _ ?_ ?_
        · exact trivial
        clear hK K
        (try simp only [Act.put, List.setIfInBounds_toArray, List.set_cons_zero, List.set_cons_succ])
        refine treeDone ?_
        refine NoPanic.normal ?_
        go_upto_region 7 with fail
        obtain ⟨Z9, hZ9⟩ : ∃ Z9, Z9 = (wt2.setCell ⟨g7, 12, none⟩ (.slice Az1 (turnU m.ans U).length cz1)).setCell ⟨g7, 13, none⟩ (.slice Az2 (turnU m.auth U).length cz2) := ⟨_, rfl⟩
        rw [← hZ9]
        have rZ : Z9.heap[g7]? = some (.cells #[.int .u16 m.hd.id, .bool m.hd.qr, .int .u8 m.hd.op, .bool m.hd.aa, .bool m.hd.tc, .bool m.hd.rd, .bool m.hd.ra, .bool m.hd.z, .bool m.hd.ad, .bool m.hd.cd, .int .u8 m.hd.code, .slice qA m.qs.length qc, .slice Az1 (turnU m.ans U).length cz1, .slice Az2 (turnU m.auth U).length cz2, .slice xA m.extra.length xc, .bool m.he, .int .u16 m.ed.size, .int .u8 m.ed.ext, .int .u8 m.ed.ver, .int .u16 m.ed.flags, .slice oA m.ed.opts.length oc] 56) := by rw [hZ9]; exact row_set (row_set rQ 12 _) 13 _
        have hkZ : ∀ k, k ≠ g7 → Z9.heap[k]? = wt2.heap[k]? := fun k hk => by rw [hZ9]; exact (Below.heap_setCell _ ⟨g7, 13, none⟩ _ k hk).trans (Below.heap_setCell _ ⟨g7, 12, none⟩ _ k hk)
        have hg7l : g7 < Z.heap.size := (Array.getElem?_eq_some_iff.1 r7).1
        have hg3l : g3 < g7 := HGg.out
        have rq9 := (hkZ g3 (by omega)).trans ((hEt2.block _ (Array.getElem?_eq_some_iff.1 rq).1).trans rq)
        have hbY : Y.heap.size ≤ g7 := hgY
        have hlz1 : g7 < _ := Nat.lt_of_lt_of_le hg7l hlo1.out
        have hlz2 : g7 < _ := Nat.lt_of_lt_of_le hg7l hlo2.out
        have hm7 := turn_msg7 hZ9 HMO.out (hEY.trans hEt2) hbY (hzz1.out.by_ fun k _ hk => hEq2.out.block k hk) hlz1 hzz2.out hlz2 HBd.out
        have hwg7 : w.heap.size ≤ g7 := Nat.le_trans (hw1.trans hEd).size hgY
        have hwZ9 : Ext w Z9 := by rw [hZ9]; exact ((hEZ.trans hEt2).setCell hwg7 _).setCell hwg7 _
        have HEn := Lib.hid (wire_encode (turnM m U) _ _ _ _ _ Z9 (hg.ext hwZ9) (hb.ext hwZ9) (turnM_wf HWf.out U) hm7)
        unfold EncPost at HEn
        clear hZ9 kQ fQ kQ3 fQ3 rQ hkZ
        go_upto_region 8 with (first | (refine wpList_load_part (by rfl) 56 (.tmp 7) rfl g7 0 rfl [.int .u16 m.hd.id, .bool m.hd.qr, .int .u8 m.hd.op, .bool m.hd.aa, .bool m.hd.tc, .bool m.hd.rd, .bool m.hd.ra, .bool m.hd.z, .bool m.hd.ad, .bool m.hd.cd, .int .u8 m.hd.code, .slice qA m.qs.length qc, .slice Az1 (turnU m.ans U).length cz1, .slice Az2 (turnU m.auth U).length cz2, .slice xA m.extra.length xc, .bool m.he, .int .u16 m.ed.size, .int .u8 m.ed.ext, .int .u8 m.ed.ver, .int .u16 m.ed.flags, .slice oA m.ed.opts.length oc] (row_all rZ) _ Tryz.underlying56 rfl (by kernel_rfl) ?_) | (go_at_call 17; refine HEn.out.mono ?_; rintro e we ⟨rfl, hEe⟩) | fail)
        have hwe : Ext w we := hwZ9.trans hEe
        have rqe := (hEe.block _ (Array.getElem?_eq_some_iff.1 rq9).1).trans rq9
        have HS8 := Lib.hid (fun V (hV : Ext we V) => keepQ hV rqe)
        by_cases henc : encErr (turnM m U) = 0
        · have HL2 := Lib.hid (fun V (hV : Ext w V) => heard_look d n ty cls a b V (hg.ext hV) (hb.ext hV) (he.ext hV) (by omega) (by omega))
          have HL1 := Lib.hid (fun V (hV : Ext w V) => heard_look_g (encOf (turnM m U)) n ty cls a b V (hg.ext hV) (hb.ext hV) (he.ext hV) (by have h2 := (enc_may henc).2; rw [h2.2]; have := h2.1; omega) (fun m2 hm2 => by
            rw [dec_enc (turnM_wf HWf.out U) henc] at hm2
            injection hm2 with hm2
            subst hm2
            show (turnU m.ans U).length ≤ _ ∧ (turnU m.auth U).length ≤ _
            rw [turnU_len, turnU_len]
            have := HFw.out
            omega) (by omega))
          rw [HTr.out henc] at HL1
          unfold LookH at HL1 HL2
          generalize replyOf d n ty cls = R at *
          generalize hes : encOf (turnM m U) = s at *
          rw [henc]
          clear henc hes
          refine wp_region_noPanic ?_
          refine wp_region_tree (S := (fun V => V.cell? ⟨g3, 0, none⟩ = some (S n) ∧ V.cell? ⟨g3, 1, none⟩ = some (.int .u16 ty) ∧ V.cell? ⟨g3, 2, none⟩ = some (.int .u16 cls))) (.take 0 (.take 1 (.take 2 (.take 3 (.take 4 (.take 6 (.take 7 (.run 5 (.run 8 (.run 9 (.take 10 (.take 11 (.done))))))))))))) (by kernel_rfl) (by kernel_rfl) (fun _ _ _ _ _ h => h) ((HS8.out _ (Ext.refl we).drew)) ?_
          repeat ((with_reducible refine treeIs ?_); first
            | (refine treeTakeX (a' := ?_) ⟨_, (HS8.out _ (Ext.refl we).drew)⟩ (by rfl) rfl (by kernel_rfl) rfl ?_ ?_; rotate_left; (focus (intro V Q' hV hq; obtain ⟨hV1, hV2, hV3⟩ := hV; (repeat (first | go_guarded | go_skip | go_step)); (first | exact hq | exact wpList_nil hq)))))
          refine treeRun (by rfl) (fun K hK => ?_)
          go_simp
          refine (HL1.out _ (hwe.trans ((Ext.refl we).drew))).mono ?_
          rintro e wa ⟨vswa, vowa, rfl, hswa, howa, _, hqwa⟩
          have hEwa : Ext we wa := ((Ext.refl we).drew).trans hqwa
          have Hswa := Lib.hid (hswa.sets.lower24r (Nat.zero_le _))
          have Howa := Lib.hid (howa.sets.lower24r (Nat.zero_le _))
          have Hqwa := Lib.hid hqwa
          obtain ⟨pswa, pAwa, pcwa, _, rfl, _, _⟩ := hswa
          obtain ⟨powa, tAwa, tcwa, _, rfl, _, _⟩ := howa
          clear hqwa
          refine hK.out _ _ ?_ ?_
          · exact (HS8.out _ hEwa)
          clear hK K
          (try simp only [Act.put, List.setIfInBounds_toArray, List.set_cons_zero, List.set_cons_succ])
          refine treeRun (by rfl) (fun K hK => ?_)
          go_simp
          refine (HL2.out _ (hwe.trans (hEwa))).mono ?_
          rintro e wb ⟨vswb, vowb, rfl, hswb, howb, _, hqwb⟩
          have hEwb : Ext we wb := (hEwa).trans hqwb
          have Hswb := Lib.hid (hswb.sets.lower24r (Nat.zero_le _))
          have Howb := Lib.hid (howb.sets.lower24r (Nat.zero_le _))
          have Hqwb := Lib.hid hqwb
          obtain ⟨pswb, pAwb, pcwb, _, rfl, _, _⟩ := hswb
          obtain ⟨powb, tAwb, tcwb, _, rfl, _, _⟩ := howb
          clear hqwb
          refine hK.out _ _ ?_ ?_
          · exact (HS8.out _ hEwb)
          clear hK K
          (try simp only [Act.put, List.setIfInBounds_toArray, List.set_cons_zero, List.set_cons_succ])
          refine treeRun (by rfl) (fun K hK => ?_)
          go_simp
          refine (ref24_same R.kind R.ver.code R.ver.time R.ver.sets R.ver.soa _ _ _ _ _ _ _ _ _ _ _ _ _ (Hswa.out.ext Hqwb.out) (Hswb.out) (Howa.out.ext Hqwb.out) (Howb.out)).mono ?_
          rintro e wS ⟨rfl, hES⟩
          have hEwS : Ext we wS := (hEwb).trans hES
          clear hES
          refine hK.out _ _ ?_ ?_
          · exact (HS8.out _ hEwS)
          clear hK K
          (try simp only [Act.put, List.setIfInBounds_toArray, List.set_cons_zero, List.set_cons_succ])
          repeat ((with_reducible refine treeIs ?_); first
            | (refine treeTakeX (a' := ?_) ⟨_, (HS8.out _ (Ext.refl we).drew)⟩ (by rfl) rfl (by kernel_rfl) rfl ?_ ?_; rotate_left; (focus (intro V Q' hV hq; obtain ⟨hV1, hV2, hV3⟩ := hV; (repeat (first | go_guarded | go_skip | go_step)); (first | exact hq | exact wpList_nil hq)))))
          refine treeDone ?_
          refine NoPanic.normal ?_
          go_wp2_with fail
          go_ret
          exact ⟨rfl, hwe.trans (hEwS)⟩
        · generalize hze : (encErr (turnM m U) : Int) = z at *
          have hk1 : (z == 0) = false := by rw [beq_eq_false_iff_ne]; omega
          have hk2 : ¬ z = 0 := by omega
          have hk3 : decide (z = 0) = false := decide_eq_false hk2
          have hk4 : (z != 0) = true := by rw [bne_iff_ne]; exact hk2
          clear henc hze
          refine wp_region_noPanic ?_
          refine wp_region_tree (S := (fun V => V.cell? ⟨g3, 0, none⟩ = some (S n) ∧ V.cell? ⟨g3, 1, none⟩ = some (.int .u16 ty) ∧ V.cell? ⟨g3, 2, none⟩ = some (.int .u16 cls))) (.take 0 (.take 1 (.take 2 (.take 3 (.take 4 (.take 5 (.take 6 (.take 7 (.take 8 (.take 9 (.take 10 (.take 11 (.done))))))))))))) (by kernel_rfl) (by kernel_rfl) (fun _ _ _ _ _ h => h) ((HS8.out _ (Ext.refl we).drew)) ?_
          repeat ((with_reducible refine treeIs ?_); first
            | (refine treeTakeX (a' := ?_) ⟨_, (HS8.out _ (Ext.refl we).drew)⟩ (by rfl) rfl (by kernel_rfl) rfl ?_ ?_; rotate_left; (focus (intro V Q' hV hq; obtain ⟨hV1, hV2, hV3⟩ := hV; (repeat (first | go_guarded | go_skip | go_step)); (first | exact hq | exact wpList_nil hq))))
            | (refine treeSkip (by rfl) (by rfl) ?_; (try simp only [Act.put, List.setIfInBounds_toArray, List.set_cons_zero, List.set_cons_succ])))
          refine treeDone ?_
          refine NoPanic.normal ?_
          go_wp2_with fail
          go_ret
          exact ⟨rfl, hwe.trans ((Ext.refl we).drew)⟩
    · refine treeRun (by rfl) (fun K hK => ?_)
      obtain ⟨hV1, hV2⟩ := HS6.out _ (hEZd)
      go_simp
      refine hK.out _ _ ?_ ?_
      · exact trivial
      clear hK K
      (try simp only [Act.put, List.setIfInBounds_toArray, List.set_cons_zero, List.set_cons_succ])
      refine treeRun (by rfl) (fun K hK => ?_)
      obtain ⟨hV1, hV2⟩ := HS6.out _ (hEZd)
      go_simp
      refine hK.out _ _ ?_ ?_
      · exact trivial
      clear hK K
      (try simp only [Act.put, List.setIfInBounds_toArray, List.set_cons_zero, List.set_cons_succ])
      refine treeRun (by rfl) (fun K hK => ?_)
      go_simp
      refine (HT.out _ (hEZd)).mono ?_
      rintro e wt1 ⟨z1, rfl, hz1, hEq⟩
      have hEt1 : Ext Z wt1 := (hEZd).trans hEq
      have hlt1 : Z.heap.size ≤ _ := (hEZd).size
      have hzz1 := Lib.hid hz1
      have hlo1 := Lib.hid hlt1
      have hEq1 := Lib.hid hEq
      obtain ⟨Az1, cz1, rfl, _⟩ := hz1
      clear hEq hlt1
      refine hK.out _ _ ?_ ?_
      · exact trivial
      clear hK K
      (try simp only [Act.put, List.setIfInBounds_toArray, List.set_cons_zero, List.set_cons_succ])
      repeat ((with_reducible refine treeIs ?_); first
        | (refine treeTakeX (a' := ?_) ⟨Z, trivial⟩ (by rfl) rfl (by kernel_rfl) rfl ?_ ?_; rotate_left; (focus (intro V Q' hV hq; (repeat (first | go_guarded | go_skip | go_step)); (first | exact hq | exact wpList_nil hq)))))
      refine treeRun (by rfl) (fun K hK => ?_)
      go_simp
      refine (HU.out _ (hEt1)).mono ?_
      rintro e wt2 ⟨z2, rfl, hz2, hEq⟩
      have hEt2 : Ext Z wt2 := (hEt1).trans hEq
      have hlt2 : Z.heap.size ≤ _ := (hEt1).size
      have hzz2 := Lib.hid hz2
      have hlo2 := Lib.hid hlt2
      have hEq2 := Lib.hid hEq
      obtain ⟨Az2, cz2, rfl, _⟩ := hz2
      clear hEq hlt2
      refine hK.out _ _ ?_ ?_
      · exact trivial
      clear hK K
      (try simp only [Act.put, List.setIfInBounds_toArray, List.set_cons_zero, List.set_cons_succ])
      refine treeRun (by rfl) (fun K hK => ?_)
      have rQ := (hEt2.block _ (Array.getElem?_eq_some_iff.1 r7).1).trans r7
      have kQ := box_cell (j := 12) rQ rfl
      have fQ := box_free (j := 12) rQ
      have kQ3 := box_cell (j := 13) rQ rfl
      have fQ3 := box_free (j := 13) rQ
      go_simp
      refine hK.out _ _ ?_ ?_
      · exact trivial
      clear hK K
      (try simp only [Act.put, List.setIfInBounds_toArray, List.set_cons_zero, List.set_cons_succ])
      repeat ((with_reducible refine treeIs ?_); first
        | (refine treeTakeX (a' := ?_) ⟨Z, trivial⟩ (by rfl) rfl (by kernel_rfl) rfl ?_ ?_; rotate_left; (focus (intro V Q' hV hq; (repeat (first | go_guarded | go_skip | go_step)); (first | exact hq | exact wpList_nil hq)))))
      refine treeRun (by rfl) (fun K hK => ?_)
      go_simp
      refine hK.out _ _ ?_ ?_
      · exact trivial
      clear hK K
      (try simp only [Act.put, List.setIfInBounds_toArray, List.set_cons_zero, List.set_cons_succ])
      refine treeDone ?_
      refine NoPanic.normal ?_
      go_upto_region 7 with fail
      obtain ⟨Z9, hZ9⟩ : ∃ Z9, Z9 = (wt2.setCell ⟨g7, 12, none⟩ (.slice Az1 (turnU m.ans U).length cz1)).setCell ⟨g7, 13, none⟩ (.slice Az2 (turnU m.auth U).length cz2) := ⟨_, rfl⟩
      rw [← hZ9]
      have rZ : Z9.heap[g7]? = some (.cells #[.int .u16 m.hd.id, .bool m.hd.qr, .int .u8 m.hd.op, .bool m.hd.aa, .bool m.hd.tc, .bool m.hd.rd, .bool m.hd.ra, .bool m.hd.z, .bool m.hd.ad, .bool m.hd.cd, .int .u8 m.hd.code, .slice qA m.qs.length qc, .slice Az1 (turnU m.ans U).length cz1, .slice Az2 (turnU m.auth U).length cz2, .slice xA m.extra.length xc, .bool m.he, .int .u16 m.ed.size, .int .u8 m.ed.ext, .int .u8 m.ed.ver, .int .u16 m.ed.flags, .slice oA m.ed.opts.length oc] 56) := by rw [hZ9]; exact row_set (row_set rQ 12 _) 13 _
      have hkZ : ∀ k, k ≠ g7 → Z9.heap[k]? = wt2.heap[k]? := fun k hk => by rw [hZ9]; exact (Below.heap_setCell _ ⟨g7, 13, none⟩ _ k hk).trans (Below.heap_setCell _ ⟨g7, 12, none⟩ _ k hk)
      have hg7l : g7 < Z.heap.size := (Array.getElem?_eq_some_iff.1 r7).1
      have hg3l : g3 < g7 := HGg.out
      have rq9 := (hkZ g3 (by omega)).trans ((hEt2.block _ (Array.getElem?_eq_some_iff.1 rq).1).trans rq)
      have hbY : Y.heap.size ≤ g7 := hgY
      have hlz1 : g7 < _ := Nat.lt_of_lt_of_le hg7l hlo1.out
      have hlz2 : g7 < _ := Nat.lt_of_lt_of_le hg7l hlo2.out
      have hm7 := turn_msg7 hZ9 HMO.out (hEY.trans hEt2) hbY (hzz1.out.by_ fun k _ hk => hEq2.out.block k hk) hlz1 hzz2.out hlz2 HBd.out
      have hwg7 : w.heap.size ≤ g7 := Nat.le_trans (hw1.trans hEd).size hgY
      have hwZ9 : Ext w Z9 := by rw [hZ9]; exact ((hEZ.trans hEt2).setCell hwg7 _).setCell hwg7 _
      have HEn := Lib.hid (wire_encode (turnM m U) _ _ _ _ _ Z9 (hg.ext hwZ9) (hb.ext hwZ9) (turnM_wf HWf.out U) hm7)
      unfold EncPost at HEn
      clear hZ9 kQ fQ kQ3 fQ3 rQ hkZ
      go_upto_region 8 with (first | (refine wpList_load_part (by rfl) 56 (.tmp 7) rfl g7 0 rfl [.int .u16 m.hd.id, .bool m.hd.qr, .int .u8 m.hd.op, .bool m.hd.aa, .bool m.hd.tc, .bool m.hd.rd, .bool m.hd.ra, .bool m.hd.z, .bool m.hd.ad, .bool m.hd.cd, .int .u8 m.hd.code, .slice qA m.qs.length qc, .slice Az1 (turnU m.ans U).length cz1, .slice Az2 (turnU m.auth U).length cz2, .slice xA m.extra.length xc, .bool m.he, .int .u16 m.ed.size, .int .u8 m.ed.ext, .int .u8 m.ed.ver, .int .u16 m.ed.flags, .slice oA m.ed.opts.length oc] (row_all rZ) _ Tryz.underlying56 rfl (by kernel_rfl) ?_) | (go_at_call 17; refine HEn.out.mono ?_; rintro e we ⟨rfl, hEe⟩) | fail)
      have hwe : Ext w we := hwZ9.trans hEe
      have rqe := (hEe.block _ (Array.getElem?_eq_some_iff.1 rq9).1).trans rq9
      have HS8 := Lib.hid (fun V (hV : Ext we V) => keepQ hV rqe)
      by_cases henc : encErr (turnM m U) = 0
      · have HL2 := Lib.hid (fun V (hV : Ext w V) => heard_look d n ty cls a b V (hg.ext hV) (hb.ext hV) (he.ext hV) (by omega) (by omega))
        have HL1 := Lib.hid (fun V (hV : Ext w V) => heard_look_g (encOf (turnM m U)) n ty cls a b V (hg.ext hV) (hb.ext hV) (he.ext hV) (by have h2 := (enc_may henc).2; rw [h2.2]; have := h2.1; omega) (fun m2 hm2 => by
          rw [dec_enc (turnM_wf HWf.out U) henc] at hm2
          injection hm2 with hm2
          subst hm2
          show (turnU m.ans U).length ≤ _ ∧ (turnU m.auth U).length ≤ _
          rw [turnU_len, turnU_len]
          have := HFw.out
          omega) (by omega))
        rw [HTr.out henc] at HL1
        unfold LookH at HL1 HL2
        generalize replyOf d n ty cls = R at *
        generalize hes : encOf (turnM m U) = s at *
        rw [henc]
        clear henc hes
        refine wp_region_noPanic ?_
        refine wp_region_tree (S := (fun V => V.cell? ⟨g3, 0, none⟩ = some (S n) ∧ V.cell? ⟨g3, 1, none⟩ = some (.int .u16 ty) ∧ V.cell? ⟨g3, 2, none⟩ = some (.int .u16 cls))) (.take 0 (.take 1 (.take 2 (.take 3 (.take 4 (.take 6 (.take 7 (.run 5 (.run 8 (.run 9 (.take 10 (.take 11 (.done))))))))))))) (by kernel_rfl) (by kernel_rfl) (fun _ _ _ _ _ h => h) ((HS8.out _ (Ext.refl we).drew)) ?_
        repeat ((with_reducible refine treeIs ?_); first
          | (refine treeTakeX (a' := ?_) ⟨_, (HS8.out _ (Ext.refl we).drew)⟩ (by rfl) rfl (by kernel_rfl) rfl ?_ ?_; rotate_left; (focus (intro V Q' hV hq; obtain ⟨hV1, hV2, hV3⟩ := hV; (repeat (first | go_guarded | go_skip | go_step)); (first | exact hq | exact wpList_nil hq)))))
        refine treeRun (by rfl) (fun K hK => ?_)
        go_simp
        refine (HL1.out _ (hwe.trans ((Ext.refl we).drew))).mono ?_
        rintro e wa ⟨vswa, vowa, rfl, hswa, howa, _, hqwa⟩
        have hEwa : Ext we wa := ((Ext.refl we).drew).trans hqwa
        have Hswa := Lib.hid (hswa.sets.lower24r (Nat.zero_le _))
        have Howa := Lib.hid (howa.sets.lower24r (Nat.zero_le _))
        have Hqwa := Lib.hid hqwa
        obtain ⟨pswa, pAwa, pcwa, _, rfl, _, _⟩ := hswa
        obtain ⟨powa, tAwa, tcwa, _, rfl, _, _⟩ := howa
        clear hqwa
        refine hK.out _ _ ?_ ?_
        · exact (HS8.out _ hEwa)
        clear hK K
        (try simp only [Act.put, List.setIfInBounds_toArray, List.set_cons_zero, List.set_cons_succ])
        refine treeRun (by rfl) (fun K hK => ?_)
        go_simp
        refine (HL2.out _ (hwe.trans (hEwa))).mono ?_
        rintro e wb ⟨vswb, vowb, rfl, hswb, howb, _, hqwb⟩
        have hEwb : Ext we wb := (hEwa).trans hqwb
        have Hswb := Lib.hid (hswb.sets.lower24r (Nat.zero_le _))
        have Howb := Lib.hid (howb.sets.lower24r (Nat.zero_le _))
        have Hqwb := Lib.hid hqwb
        obtain ⟨pswb, pAwb, pcwb, _, rfl, _, _⟩ := hswb
        obtain ⟨powb, tAwb, tcwb, _, rfl, _, _⟩ := howb
        clear hqwb
        refine hK.out _ _ ?_ ?_
        · exact (HS8.out _ hEwb)
        clear hK K
        (try simp only [Act.put, List.setIfInBounds_toArray, List.set_cons_zero, List.set_cons_succ])
        refine treeRun (by rfl) (fun K hK => ?_)
        go_simp
        refine (ref24_same R.kind R.ver.code R.ver.time R.ver.sets R.ver.soa _ _ _ _ _ _ _ _ _ _ _ _ _ (Hswa.out.ext Hqwb.out) (Hswb.out) (Howa.out.ext Hqwb.out) (Howb.out)).mono ?_
        rintro e wS ⟨rfl, hES⟩
        have hEwS : Ext we wS := (hEwb).trans hES
        clear hES
        refine hK.out _ _ ?_ ?_
        · exact (HS8.out _ hEwS)
        clear hK K
        (try simp only [Act.put, List.setIfInBounds_toArray, List.set_cons_zero, List.set_cons_succ])
        repeat ((with_reducible refine treeIs ?_); first
          | (refine treeTakeX (a' := ?_) ⟨_, (HS8.out _ (Ext.refl we).drew)⟩ (by rfl) rfl (by kernel_rfl) rfl ?_ ?_; rotate_left; (focus (intro V Q' hV hq; obtain ⟨hV1, hV2, hV3⟩ := hV; (repeat (first | go_guarded | go_skip | go_step)); (first | exact hq | exact wpList_nil hq)))))
        refine treeDone ?_
        refine NoPanic.normal ?_
        go_wp2_with fail
        go_ret
        exact ⟨rfl, hwe.trans (hEwS)⟩
      · generalize hze : (encErr (turnM m U) : Int) = z at *
        have hk1 : (z == 0) = false := by rw [beq_eq_false_iff_ne]; omega
        have hk2 : ¬ z = 0 := by omega
        have hk3 : decide (z = 0) = false := decide_eq_false hk2
        have hk4 : (z != 0) = true := by rw [bne_iff_ne]; exact hk2
        clear henc hze
        refine wp_region_noPanic ?_
        refine wp_region_tree (S := (fun V => V.cell? ⟨g3, 0, none⟩ = some (S n) ∧ V.cell? ⟨g3, 1, none⟩ = some (.int .u16 ty) ∧ V.cell? ⟨g3, 2, none⟩ = some (.int .u16 cls))) (.take 0 (.take 1 (.take 2 (.take 3 (.take 4 (.take 5 (.take 6 (.take 7 (.take 8 (.take 9 (.take 10 (.take 11 (.done))))))))))))) (by kernel_rfl) (by kernel_rfl) (fun _ _ _ _ _ h => h) ((HS8.out _ (Ext.refl we).drew)) ?_
        repeat ((with_reducible refine treeIs ?_); first
          | (refine treeTakeX (a' := ?_) ⟨_, (HS8.out _ (Ext.refl we).drew)⟩ (by rfl) rfl (by kernel_rfl) rfl ?_ ?_; rotate_left; (focus (intro V Q' hV hq; obtain ⟨hV1, hV2, hV3⟩ := hV; (repeat (first | go_guarded | go_skip | go_step)); (first | exact hq | exact wpList_nil hq))))
          | (refine treeSkip (by rfl) (by rfl) ?_; (try simp only [Act.put, List.setIfInBounds_toArray, List.set_cons_zero, List.set_cons_succ])))
        refine treeDone ?_
        refine NoPanic.normal ?_
        go_wp2_with fail
        go_ret
        exact ⟨rfl, hwe.trans ((Ext.refl we).drew)⟩
end Go.Proofs.YtfjfmnnjempdaaaGreatDoor
namespace Go.Proofs.YtfjfmnnjempdaaaGreatDoor
set_option linter.unusedSimpArgs false
set_option linter.unusedVariables false
open Go.ChangeShapes Go.WideShapes Go.RowKit Go.Deep Go.Joins
set_option maxRecDepth 100000
theorem open_str24 {H : Type} {enc : TypeId × Value → H} {W : World} {r : Reach} {b0 : Nat} {v : Value} {d : DataW H} {p : List MemPlace}
    (hv : Value.okWide Tryz.prog W r b0 9 v) (h : DataW.Trod enc Tryz.prog W 0 (fun _ => true) true 9 v d p) : ∃ n : List UInt8, v = S n ∧ n.length ≤ maxLen := by
  obtain ⟨s, rfl⟩ := okWide_string Tryz.underlying9 hv
  obtain ⟨fuel, hf⟩ := h
  obtain ⟨s', e, _, hs⟩ := DataW.trod_string Tryz.underlying9 hf
  simp only [Value.cells, List.cons.injEq, and_true] at e
  injection e with e
  subst e
  exact ⟨s.data.toList, S_of s, len_of hs⟩
end Go.Proofs.YtfjfmnnjempdaaaGreatDoor
namespace Go.Proofs.YtfjfmnnjempdaaaGreatDoor
set_option linter.unusedSimpArgs false
set_option linter.unusedVariables false
open Go.ChangeShapes Go.WideShapes Go.ChangeAt Go.RowKit
set_option maxRecDepth 100000

theorem heardRows_contract (H : Type) (enc : TypeId × Value → H) (W : World) (base : Nat) (args : Array Value) (ds gs : List (DataW H)) (before : List MemPlace)
    (hval : ∀ (j : Nat) t v, Tryz.f8.params[j]? = some t → args[j]? = some v → Value.okWide Tryz.prog W .any base t v)
    (hW : DataW.Whole enc Tryz.prog Tryz.f8.params.toList Rows.heardRowsSpec.vars false W args.toList ds gs before)
    (hsz : (DataW.weightsEach Tryz.prog (Tryz.f8.params.toList ++ (OpenSpec.ofChange Rows.heardRowsSpec).bare.plain.varTypes Tryz.prog) (ds ++ gs)).all (· ≤ reachBytes) = true)
    (hL : laidMetH Tryz.prog laidL W) :
    Calls Tryz.prog 8 args W fun e W' => ∃ v, e = .returned v ∧ Rows.heardRowsSpec.post enc Tryz.prog Tryz.f8 false true false false W args v W' := by
  have hW' := hW
  have hp : ∀ t ∈ Tryz.f8.params.toList, Tryz.prog.readableRec t = true ∧ t < Tryz.prog.types.size := by
    have h : (Tryz.f8.params.toList.all fun t => Tryz.prog.readableRec t && decide (t < Tryz.prog.types.size)) = true := by kernel_rfl
    simpa only [List.all_eq_true, Bool.and_eq_true, decide_eq_true_eq] using h
  have hg := laid_of hL
  have hb := laidbits_of hL
  obtain ⟨p, q, hA0, hV, rfl, _, _⟩ := hW
  have hA : DataW.TrodAll enc Tryz.prog W 0 (fun _ => true) true Tryz.f8.params.toList args.toList ds p := hA0
  clear hA0
  rw [Tryz.params8] at hA hval hsz
  obtain ⟨rfl, rfl⟩ := trodVars_none hV
  obtain ⟨ea, eb, he⟩ := errs_of hL
  obtain ⟨v0, v1, v2, d0, d1, d2, p0, p1, p2, rfl, rfl, rfl, h0, h1, h2⟩ := trodAll_three hA
  obtain ⟨n, ty, cl, rfl, hn, hq1, hq2⟩ := open_question (hval 0 _ _ rfl rfl) h0
  obtain ⟨da, rfl, hd⟩ := open_str24 (hval 1 _ _ rfl rfl) h1
  obtain ⟨by_, rfl, _, _⟩ := open_i64 (hval 2 _ _ rfl rfl) h2
  refine (law24_rows n da ty cl by_ ea eb W hg hb he hn hd).mono ?_
  rintro e W' ⟨rfl, hE⟩
  exact ⟨_, rfl, post_true laid_out rfl (by kernel_rfl) Tryz.underlying4 hp hW' rfl hE⟩

theorem heardRows_reads (os : Os) {H : Type} (enc : TypeId × Value → H) : ∃ places, DataW.whole enc Tryz.prog ((laidWorld os).forCall (fun _ _ => 0) ⟨#[], #[.agg #[.string ⟨#[]⟩, .int .u16 0, .int .u16 0], .string ⟨#[]⟩, .int .i64 0], []⟩).memory Tryz.f8.params.toList Rows.heardRowsSpec.vars false (#[.agg #[.string ⟨#[]⟩, .int .u16 0, .int .u16 0], .string ⟨#[]⟩, .int .i64 0] : Array Value).toList 8 = some ([.agg [.lit (.string []), .lit (.int .u16 0), .lit (.int .u16 0)], .lit (.string []), .lit (.int .i64 0)], [], places) :=
  ⟨[], by kernel_rfl⟩
theorem heardRows_lifted (os : Os) (started : os.Started) (H : Type) (enc : TypeId × Value → H) (F : Stop.Interp) :
    ReturnsInHanded {} Tryz.checked os 8 .any ((OpenSpec.ofChange Rows.heardRowsSpec).preRow enc Tryz.prog Tryz.f8 Rows.heardRowsRow.domain false Rows.heardRowsRow.laid) (((OpenSpec.ofChange Rows.heardRowsSpec).at F).post enc Tryz.prog Tryz.f8 false true false false) := by
  obtain ⟨places, hx⟩ := heardRows_reads os enc
  refine returnsInHanded_of_row (C := Tryz.checked) (s := OpenSpec.ofChange Rows.heardRowsSpec) own_knob started (by kernel_rfl) Tryz.func8
    (witness_row_at (enc := enc) (C := Tryz.checked) false (laidWorld os) #[.agg #[.string ⟨#[]⟩, .int .u16 0, .int .u16 0], .string ⟨#[]⟩, .int .i64 0] rfl (by kernel_rfl) (by kernel_rfl) (by kernel_rfl)
      (OpenSpec.preRow_of_cond 8 hx (by kernel_rfl) (fun k hk => by cases hk) (by kernel_rfl) (laid_met os _))) ?_
  intro W base args ds gs before hval hW _ _ hsz hL _ _
  exact heardRows_contract H enc W base args ds gs before hval hW hsz hL
theorem heardRows_said : Rows.HeardRowsSaid :=
  OpenClaim.holds_of_cond 8 Tryz.f8 rfl rfl rfl rfl rfl rfl rfl ⟨rfl, rfl, rfl, rfl, rfl⟩ rfl rfl rfl rfl rfl (by kernel_rfl) Tryz.func8 (by kernel_rfl)
    (of_decide_eq_true (by kernel_rfl)) (by unfold Func.isWrapper; first | (rw [if_pos (by decide +kernel)]; kernel_rfl) | (rw [if_neg (by decide +kernel)]; exact ⟨rfl, rfl⟩))
    (fun os started H enc _ F => by rw [OpenClaim.pre_eq_preRow]; exact heardRows_lifted os started H enc F)
/-- THE CARD. -/
theorem heardRows_card : Rows.HeardRowsCardSaid :=
  Claim7.holds_tied_plain_at .later [] _ _ _ _ heardRows_said (fun _ h => by cases h) (by kernel_rfl) (fun _ h => by cases h) heardRows_row_tie rfl ⟨rfl, rfl⟩ (by kernel_rfl) rfl
    (fun f fn hf hfn => by
      obtain rfl : f = 8 := Option.some.inj ((show Tryz.prog.funcNamed Rows.heardRowsRow.func = some 8 by kernel_rfl).symm.trans hf) |>.symm
      obtain rfl : fn = Tryz.f8 := (Option.some.inj (Tryz.func8.symm.trans hfn)).symm
      refine ⟨by kernel_rfl, fun j t ht => ?_⟩
      have h : (Tryz.f8.params.toList.all fun t => !Tryz.prog.wantsStandIn t) = true := by kernel_rfl
      have h2 := List.all_eq_true.1 h t (by simpa using Array.mem_of_getElem? ht)
      exact (by simpa using h2 : Tryz.prog.wantsStandIn t = false))
    (by kernel_rfl)
#print axioms heardRows_card
end Go.Proofs.YtfjfmnnjempdaaaGreatDoor
