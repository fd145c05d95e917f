/- hustingslaw24.HeardNames returns true for every input, and every argument reads behind the call as it read before; the listed variables are tied to the program's text. No condition of ours. -/
import Derived.Test.YtcpikbanghoflaaGreatDoorCards
import Derived.Test.YtcpikbanghoflaaGreatDoorTie
import Derived.Test.YtcpikbanghoflaaGreatDoorHb
import Derived.ProofKit
import Derived.OpenShut
import Derived.LaidHandle
import Derived.LaidLaws
import Derived.Test.YtcpikbanghoflaaGreatDoorHwy
import Derived.Deep.DeepHandedRow
import Derived.Stop.LaidTwo
import Derived.LaidSub
import Derived.Test.YtcpikbanghoflaaGreatDoorHhd
import Derived.Test.YtcpikbanghoflaaGreatDoorHhq
import Derived.Test.YtcpikbanghoflaaGreatDoorHhx
import Derived.Great.Walk
import Derived.Great.BuildSlice
namespace Go.Proofs.YtcpikbanghoflaaGreatDoor
set_option linter.unusedSimpArgs false
set_option linter.unusedVariables false
open Go.ChangeShapes Go.WideShapes Go.ChangeAt Go.RowKit
set_option maxRecDepth 100000
theorem own_knob : ownKnob Tryz.prog.godebug = none := by kernel_rfl
theorem et_at : Tryz.prog.globalNamed "errors.errorType" = some 4 := by kernel_rfl
theorem one_row : ((List.range Tryz.prog.types.size).filter fun t => Tryz.prog.rowNamed t [101, 114, 114, 111, 114]) = [102] := by kernel_rfl
def laidL : List (String × DataW Unit) := [("errors.errorType", Rows.laid_errors_errorType), ("hustings/head.bits", Rows.laid_hustings_head_bits), ("hustings/heard.errBad", Rows.laid_hustings_heard_errBad), ("hustings/heard.errPass", Rows.laid_hustings_heard_errPass)]

theorem laid_of {W : World} (h : laidMetH Tryz.prog laidL W) : Laid W := by
  have h' : laidMet Tryz.prog [("hustings/head.bits", Rows.laid_hustings_head_bits), ("hustings/heard.errBad", Rows.laid_hustings_heard_errBad), ("hustings/heard.errPass", Rows.laid_hustings_heard_errPass)] W ∧ handlesMet Tryz.prog [("errors.errorType", Rows.laid_errors_errorType)] W := h
  obtain ⟨name, u, ty, e1, e2, e3, e4, e5⟩ := h'.2 _ (List.mem_singleton.2 rfl)
  have en : name = [101, 114, 114, 111, 114] := (Option.some.inj e1).symm
  subst en
  obtain rfl : u = 205 := Option.some.inj (e2.symm.trans (by kernel_rfl))
  have hm : ty ∈ (List.range Tryz.prog.types.size).filter fun t => Tryz.prog.rowNamed t [101, 114, 114, 111, 114] := List.mem_filter.2 ⟨List.mem_range.2 e3, e4⟩
  rw [one_row] at hm
  obtain rfl := List.mem_singleton.1 hm
  have hh : typeHandle Tryz.prog 102 = hdl 102 := by kernel_rfl
  rw [hh] at e5
  show W.cell? ⟨4, 0, none⟩ = _
  simpa using World.var?_cell et_at e5 0

theorem bits_at : Tryz.prog.globalNamed "hustings/head.bits" = some 2 := by kernel_rfl
theorem one_cell {l : List Value} {i : Nat} {v : Value} (h : (l.drop i).take 1 = [v]) : l[i]? = some v := by
  have h1 := congrArg (fun x : List Value => x[0]?) h
  simpa using h1
def bitsL : List Int := [32768, 1024, 512, 256, 128, 64, 32, 16]
theorem laidbits_of {W : World} (h : laidMetH Tryz.prog laidL W) : BitsAt W := by
  have h' : laidMet Tryz.prog [("hustings/head.bits", Rows.laid_hustings_head_bits), ("hustings/heard.errBad", Rows.laid_hustings_heard_errBad), ("hustings/heard.errPass", Rows.laid_hustings_heard_errPass)] W ∧ handlesMet Tryz.prog [("errors.errorType", Rows.laid_errors_errorType)] W := h
  obtain ⟨ps, hlv, _, _⟩ := h'.1
  obtain ⟨g, t, cs, fuel, p, q, e1, e2, e3, e4, _, _⟩ := hlv
  obtain rfl : 2 = g := Option.some.inj (bits_at.symm.trans e1)
  obtain rfl : 252 = t := Option.some.inj ((show (Tryz.prog.globals[2]?).map (·.type) = some 252 by kernel_rfl).symm.trans e2)
  obtain ⟨xs, n, _, hd, _, hlen, hf⟩ := DataW.trod_array Tryz.underlying252 e4
  have hd1 := (Prod.mk.inj hd).1
  have key : ∀ i, i < 8 → cs.toList[i]? = some (.int .u16 (bitsL.getD i 0)) := fun i hi => by
    have hx : (xs.map (·.1))[i]? = some (.lit (.int .u16 (bitsL.getD i 0))) := by
      have h1 : xs.map (·.1) = bitsL.map fun k => (.lit (.int .u16 k) : DataW Unit) := by
        injection hd1 with h1
        exact h1.symm
      rw [h1, List.getElem?_map, List.getElem?_eq_getElem (show i < bitsL.length from hi)]
      simp [List.getD, List.getElem?_eq_getElem (show i < bitsL.length from hi)]
    rw [List.getElem?_map] at hx
    obtain ⟨y, hy1, hy2⟩ := Option.map_eq_some_iff.1 hx
    have h2 := (hf i hi).trans hy1
    rw [show Tryz.prog.cellsOf 23 = 1 by kernel_rfl, Nat.mul_one] at h2
    obtain ⟨m, g1, g2, _⟩ := DataW.trod_int Tryz.underlying23 h2
    rw [g2] at hy2
    have hm : m = bitsL.getD i 0 := by
      injection hy2 with hy2
      injection hy2
    rw [← hm]
    exact one_cell g1
  have key2 : ∀ i, i < 8 → W.cell? ⟨2, i, none⟩ = some (.int .u16 (bitsL.getD i 0)) := fun i hi => by
    rw [World.var?_cell bits_at e3 i]
    simpa using key i hi
  exact ⟨key2 0 (by omega), key2 1 (by omega), key2 2 (by omega), key2 3 (by omega), key2 4 (by omega), key2 5 (by omega), key2 6 (by omega), key2 7 (by omega)⟩
theorem bad_at : Tryz.prog.globalNamed "hustings/heard.errBad" = some 0 := by kernel_rfl
theorem pass_at : Tryz.prog.globalNamed "hustings/heard.errPass" = some 1 := by kernel_rfl
theorem bad_type : (Tryz.prog.globals[0]?).map (·.type) = some 102 := by kernel_rfl
theorem pass_type : (Tryz.prog.globals[1]?).map (·.type) = some 102 := by kernel_rfl
theorem es_cells : Tryz.prog.cellsOf 312 = 1 := by kernel_rfl
theorem str_cells : Tryz.prog.cellsOf 9 = 1 := by kernel_rfl
theorem es_star : "*" ++ "errors.errorString" = "*errors.errorString" := by decide
theorem es_row (u : TypeId) (h : Tryz.prog.typeName? 3 u = some "*errors.errorString") : u = 293 :=
  typeName_ptr_named (nm := "errors.errorString") (by rw [es_star]; kernel_rfl) (by kernel_rfl) (by decide) u (by rw [es_star]; exact h)
theorem errs_of {W : World} (h : laidMetH Tryz.prog laidL W) : ∃ a b, ErrsAt W a b := by
  have h' : laidMet Tryz.prog [("hustings/head.bits", Rows.laid_hustings_head_bits), ("hustings/heard.errBad", Rows.laid_hustings_heard_errBad), ("hustings/heard.errPass", Rows.laid_hustings_heard_errPass)] W ∧ handlesMet Tryz.prog [("errors.errorType", Rows.laid_errors_errorType)] W := h
  have h2 : laidMet Tryz.prog [("hustings/heard.errBad", Rows.laid_hustings_heard_errBad), ("hustings/heard.errPass", Rows.laid_hustings_heard_errPass)] W := h'.1.filter (fun x => x.1 != "hustings/head.bits")
  obtain ⟨a0, a1, s0, s1, c0, c1, t0, t1, hv0, hv1, _, _, _, _, _, _, hne, hb0, hb1⟩ := laid_sentinels2 h2 bad_at bad_type pass_at pass_type Tryz.underlying102 es_row Tryz.underlying293 Tryz.underlying312 rfl rfl Tryz.underlying9 es_cells str_cells
  exact ⟨a0, a1, by simpa using World.var?_cell bad_at hv0 0, by simpa using World.var?_cell pass_at hv1 0, ⟨_, _, hb0⟩, ⟨_, _, hb1⟩, hne⟩
abbrev badS : ByteArray := { data := #[116, 104, 101, 32, 114, 101, 112, 108, 121, 32, 105, 115, 32, 98, 97, 100] }
abbrev passS : ByteArray := { data := #[116, 104, 101, 32, 114, 101, 112, 108, 121, 32, 105, 115, 32, 97, 32, 112, 97, 115, 115] }
noncomputable def low24 : Nat := (World.holding Tryz.prog default ⟨#[], #[], []⟩).heap.size
noncomputable def laidWorld (os : Os) : World :=
  let w0 := World.holding Tryz.prog os ⟨#[.cells #[.string badS] 312, .cells #[.string passS] 312], #[], []⟩
  { w0 with heap := (((w0.heap.modify 4 fun
      | .cells _ t frozen => .cells #[errTy] t frozen
      | o => o).modify 2 fun
      | .cells _ t frozen => .cells #[.int .u16 32768, .int .u16 1024, .int .u16 512, .int .u16 256, .int .u16 128, .int .u16 64, .int .u16 32, .int .u16 16] t frozen
      | o => o).modify 0 fun
      | .cells _ t frozen => .cells #[.iface 293 (.pointer (some ⟨low24, 0, none⟩))] t frozen
      | o => o).modify 1 fun
      | .cells _ t frozen => .cells #[.iface 293 (.pointer (some ⟨low24 + 1, 0, none⟩))] t frozen
      | o => o }
theorem laid_met (os : Os) (args : Array Value) : laidMetH Tryz.prog laidL ((laidWorld os).forCall (fun _ _ => 0) ⟨#[], args, []⟩).memory :=
  laidMetH_of_parts (laidMet_of_run' 8 (by kernel_rfl) (by kernel_rfl)) (by kernel_rfl)

section
variable {H : Type} {enc : TypeId × Value → H} {P : Program}
theorem trodAll_stays (hl : laidOutB P = true) {W W' : World} (hb : Below W.heap.size W W') {sp : Nat → Bool} : ∀ {ts : List TypeId} {vs : List Value} {ds : List (DataW H)} {ps : List MemPlace},
    (∀ t ∈ ts, P.readableRec t = true ∧ t < P.types.size) → DataW.TrodAll enc P W 0 (fun _ => true) true ts vs ds ps → (∀ x ∈ ps, x.block < W.heap.size) → (∀ x ∈ ps, sp x.block = true) → DataW.TrodAll enc P W' 0 sp true ts vs ds ps
  | [], _, _, _, _, h, _, _ => by obtain ⟨rfl, rfl, rfl⟩ := trodAll_nil h; exact trodAll_mk0
  | t :: ts, _, _, _, ht, h, hlt, hs => by
    obtain ⟨v, vs, d, ds, p, q, rfl, rfl, rfl, h0, h1⟩ := trodAll_cons h
    have h2 := ht t (by simp)
    exact trodAll_cons_mk (WideElems.Trod_stays hl h2.1 h2.2 h0 (fun x hx => hb.same (hlt x (by simp [hx]))) (fun x hx => hs x (by simp [hx])))
      (trodAll_stays hl hb (fun t ht' => ht t (by simp [ht'])) h1 (fun x hx => hlt x (by simp [hx])) (fun x hx => hs x (by simp [hx])))
theorem post_of_below {f : Func} {s : ChangeSpec} {apart fresh handsOn again : Bool} {W W' : World} {args : Array Value} {v : Value} {ds gs : List (DataW H)} {before pa pv : List MemPlace}
    (hW : DataW.Whole enc P f.params.toList s.vars apart W args.toList ds gs before)
    (hres : ∀ (b : Nat) (sp : Nat → Bool) (hd : Bool), DataW.TrodAll enc P W' b sp hd f.resultTypes.toList (v.resultList f.resultTypes.size) (s.fn H (ds ++ gs)).results [])
    (hargs : ∀ sp : Nat → Bool, (∀ p ∈ before, sp p.block = true) → DataW.TrodAll enc P W' 0 sp true f.params.toList args.toList (s.fn H (ds ++ gs)).args pa)
    (hvars : ∀ sp : Nat → Bool, (∀ p ∈ before, sp p.block = true) → DataW.TrodVars enc P W' sp s.vars (s.fn H (ds ++ gs)).vars pv)
    (hps : before = pa ++ pv) (hb : Below W.heap.size W W')
    (hok : ∀ (j : Nat) (t : TypeId) (r : Value), f.resultTypes[j]? = some t → (v.resultList f.resultTypes.size)[j]? = some r → Value.okWide P W' .any 0 t r) :
    s.post enc P f apart fresh handsOn again W args v W' := by
  have hlt : ∀ p ∈ before, p.block < W.heap.size := fun p hp => hW.lt p hp
  have hold : ∀ p ∈ before, (fun b => decide (b < W.heap.size)) p.block = true := fun p hp => by simpa using hlt p hp
  refine ⟨ds, gs, before, [], pa, pv, hW, hres _ _ _, hargs _ hold, hvars _ hold, World.keptBut_mono (fun p hp => ⟨hp, ?_⟩) (hb.frame (· ∈ before)), fun _ => ?_⟩
  · rw [hps, List.mem_append] at hp
    exact Or.inr hp
  · obtain ⟨_, _, _, _, _, hz, hn⟩ := hW
    refine ⟨hok, _, _, ([] ++ pa) ++ pv, ⟨[] ++ pa, pv, trodAll_append (hargs _ (fun _ _ => rfl)) (hres _ _ _), hvars _ (fun _ _ => rfl), rfl, ?_, ?_⟩, ?_⟩
    · intro b off hp
      have hin : MemPlace.cell b off ∈ before := by rw [hps]; simpa using hp
      rw [hb.frozen (hlt _ hin)]
      exact hz b off hin
    · intro ha
      have := hn ha
      rw [hps] at this
      simpa using this
    · intro p hp _
      rw [hps]
      simpa using hp
theorem post_true {f : Func} {s : ChangeSpec} {apart fresh handsOn again : Bool} {W W' : World} {args : Array Value} {ds gs : List (DataW H)} {before : List MemPlace} {t : TypeId}
    (hl : laidOutB P = true) (hvn : s.vars = []) (hr : f.resultTypes = #[t]) (ht : P.underlying t = some .bool)
    (hp : ∀ t ∈ f.params.toList, P.readableRec t = true ∧ t < P.types.size)
    (hW : DataW.Whole enc P f.params.toList s.vars apart W args.toList ds gs before)
    (hfn : s.fn H ds = { results := [.lit (.bool true)], args := ds }) (hb : Ext W W') :
    s.post enc P f apart fresh handsOn again W args (.bool true) W' := by
  have hW' := hW
  obtain ⟨p, q, hA, hV, rfl, _, _⟩ := hW
  rw [hvn] at hV
  obtain ⟨rfl, rfl⟩ := trodVars_none hV
  have hlt : ∀ x ∈ p, x.block < W.heap.size := fun x hx => by simpa using hW'.lt x (by simp [hx])
  refine post_of_below (pa := p) (pv := []) hW' (fun _ _ _ => ?_) (fun sp hs => ?_) (fun _ _ => ?_) rfl hb (ok_one hr rfl (okWide_bool_mk ht _))
  · rw [List.append_nil, hfn, hr]; exact trodAll_mk1 (shut_bool ht true)
  · rw [List.append_nil, hfn]; exact trodAll_stays hl hb hp hA hlt (fun x hx => hs x (by simp [hx]))
  · rw [List.append_nil, hfn, hvn]; rfl
end
theorem laid_out : laidOutB Tryz.prog = true := by kernel_rfl
end Go.Proofs.YtcpikbanghoflaaGreatDoor
namespace Go.Proofs.YtcpikbanghoflaaGreatDoor
set_option linter.unusedSimpArgs false
set_option linter.unusedVariables false
set_option maxRecDepth 100000
def kindOf (m : MsgD) : Int := if encErr m = 0 then (replyOf (encOf m) ex24 1 1).kind else 0
def hd24 : HdD := ⟨0, true, 0, false, false, false, false, false, false, false, 0⟩
def q24 : QD := ⟨ex24, 1, 1⟩
def a24 : RecD := ⟨[2, 69, 88, 0], 1, 1, 9, [97, 98, 99, 100]⟩
def ed24 : EdD := ⟨0, 0, 0, 0, []⟩
def okM : MsgD := ⟨hd24, [q24], [a24], [], [], false, ed24⟩
def otherM : MsgD := ⟨hd24, [⟨[2, 101, 121, 0], 1, 1⟩], [a24], [], [], false, ed24⟩
def kindsM : MsgD := ⟨hd24, [⟨ex24, 28, 1⟩], [a24], [], [], false, ed24⟩
def twoM : MsgD := ⟨hd24, [q24, q24], [a24], [], [], false, ed24⟩
def noneM : MsgD := ⟨hd24, [], [a24], [], [], false, ed24⟩
def opM : MsgD := ⟨{ hd24 with op := 1 }, [q24], [a24], [], [], false, ed24⟩
def lateM : MsgD := ⟨{ hd24 with tc := true }, [⟨[2, 101, 121, 0], 1, 1⟩], [a24], [], [], false, ed24⟩
def cutM : MsgD := ⟨{ hd24 with tc := true, code := 3 }, [q24], [a24], [], [], false, ed24⟩
def badM : MsgD := ⟨{ hd24 with code := 3 }, [q24], [a24], [], [], false, ed24⟩
def versM : MsgD := ⟨hd24, [q24], [a24], [], [], true, { ed24 with ext := 1 }⟩
def goneM : MsgD := ⟨{ hd24 with code := 3 }, [q24], [], [], [], false, ed24⟩
def s24 : List UInt8 := encOf okM
def v24 : VerR := ⟨0, [⟨ex24, 1, 1, 0, [[97, 98, 99, 100]]⟩], [], 9, 0⟩
theorem s24_enc : encErr okM = 0 ∧ s24.length ≤ 1000 := ⟨by kernel_rfl, Nat.le_of_ble_eq_true (by kernel_rfl)⟩
theorem s24_look : replyOf s24 ex24 1 1 = ⟨3, v24⟩ := by kernel_rfl
theorem k_other : kindOf otherM = 1 := by kernel_rfl
theorem k_kinds : kindOf kindsM = 1 := by kernel_rfl
theorem k_two : kindOf twoM = 1 := by kernel_rfl
theorem k_none : kindOf noneM = 1 := by kernel_rfl
theorem k_op : kindOf opM = 1 := by kernel_rfl
theorem k_late : kindOf lateM = 1 := by kernel_rfl
theorem k_cut : kindOf cutM = 2 := by kernel_rfl
theorem k_bad : kindOf badM = 1 := by kernel_rfl
theorem k_vers : kindOf versM = 2 := by kernel_rfl
theorem k_gone : kindOf goneM = 3 := by kernel_rfl
theorem l_empty : (replyOf [] ex24 1 1).kind = 1 := by kernel_rfl
theorem l_more : (replyOf (s24 ++ [97]) ex24 1 1).kind = 1 := by kernel_rfl
theorem l_name : (replyOf s24 [101, 120] 1 1).kind = 1 := by kernel_rfl
theorem l_fold : (replyOf s24 [2, 69, 120, 0] 1 1).kind = 3 := by kernel_rfl
theorem e_a : queryErr ex24 1 1 0 (-1) = 1 := by kernel_rfl
theorem e_b : queryErr ex24 1 1 0 65536 = 1 := by kernel_rfl
theorem e_c : queryErr ex24 1 1 65535 65535 = 0 := by kernel_rfl
theorem e_d : queryErr [] 0 0 0 0 = 1 := by kernel_rfl
def all24 : List MsgD := [okM, otherM, kindsM, twoM, noneM, opM, lateM, cutM, badM, versM, goneM]
theorem all24_len : (all24.all fun m => Nat.ble (encOf m).length 1000) = true := by kernel_rfl
theorem len24 {m : MsgD} (h : m ∈ all24) : (encOf m).length ≤ 16384 := by
  have := List.all_eq_true.1 all24_len m h
  have := Nat.le_of_ble_eq_true this
  omega
end Go.Proofs.YtcpikbanghoflaaGreatDoor
namespace Go.Proofs.YtcpikbanghoflaaGreatDoor
set_option linter.unusedSimpArgs false
set_option linter.unusedVariables false
section
variable {P : Program} {ops : Array Oper} {Q : Exit → Act → World → Prop} {S : World → Prop} {R : World → World → Prop}
def okS (ops : Array Oper) (js : List (Nat × Nat)) (s : Nat) (n : Nat) (l : Array Bool) : Bool :=
  decide (leftN l = n) && (decide (l.size = ops.size) && (topo ops js l && (distinct (js.map (·.1)) && (distinct (js.map (·.2)) &&
    (((List.range ops.size).all fun i => l.getD i true || ((js.map (·.1)).contains i || i == s)) && ((js.all fun p => ((ops[p.1]?).map fun o => o.dst == some p.2).getD false) && ((js.all fun p => !l.getD p.1 true) &&
      ((js.all fun p => depB ops s p.1) && (!(js.map (·.1)).contains s && (!l.getD s true && ((ops[s]?).map (·.after.all fun e => !Region.binds .any e || (l.getD e.on false || (js.map (·.1)).contains e.on))).getD false))))))))))
theorem depB_listed {L : Array Bool} {s j : Nat} {o : Oper} (ho : ops[s]? = some o) (hd : ∀ e ∈ o.after, Region.binds .any e = true → L.getD e.on false = true) (h : depB ops s j = true) : L.getD j false = true := by
  unfold depB at h
  rw [ho] at h
  have h3 : (o.after.any fun e => Region.binds .any e && e.on == j) = true := h
  rw [Array.any_eq_true'] at h3
  obtain ⟨e, he, h4⟩ := h3
  simp only [Bool.and_eq_true, beq_iff_eq] at h4
  rw [← h4.2]
  exact hd e he h4.1
theorem getD_tf {l : Array Bool} {i : Nat} (h : l.getD i true = true) (hlt : i < l.size) : l.getD i false = true := by
  simp [hlt] at h ⊢; exact h
theorem invAnyS {js : List (Nat × Nat)} {s : Nat} {mk : (Nat → Value) → Act} {F : Nat → Value → World → Prop} {n : Nat} {l : Array Bool} (hok : okS ops js s n l = true)
    (hRS : ∀ V V', S V → R V V' → S V') (hF : ∀ i v V V', S V → R V V' → F i v V → F i v V')
    (hop : EachI (StepI P ops Q S R js F mk) js) (hend : ∀ xs V, S V → (∀ j, (js.map (·.1)).contains j = true → F j (xs j) V) → wpOp P ops Q s (fun a' V' => S V' ∧ Q .normal a' V') (mk xs) V) :
    ∀ (m : Nat) (L : Array Bool) (xs : Nat → Value) (w : World), leftN L = m → L.size = l.size → L.getD s true = false → (∀ i, l.getD i false = true → L.getD i false = true) → (∀ j, (js.map (·.1)).contains j = true → L.getD j false = true → F j (xs j) w) → S w → wpAnyH P .any ops Q S m L (mk xs) w := by
  simp only [okS, Bool.and_eq_true, decide_eq_true_eq] at hok
  obtain ⟨o1, o2, o3, o4, o5, o6, o7, o8, o9, o10, o11, o12⟩ := hok
  have hsj : ∀ j, (js.map (·.1)).contains j = true → j ≠ s := by
    intro j hj e
    rw [e] at hj
    rw [hj] at o10
    cases o10
  have hss : s < ops.size := by
    rcases Nat.lt_or_ge s ops.size with h | h
    · exact h
    · simp [Array.getElem?_eq_none h] at o12
  obtain ⟨os, hos⟩ : ∃ os, ops[s]? = some os := ⟨_, Array.getElem?_eq_getElem hss⟩
  have hall : ∀ (L : Array Bool), L.size = l.size → (∀ i, l.getD i false = true → L.getD i false = true) → Region.ready .any ops L = [] → ∀ j, (js.map (·.1)).contains j = true → L.getD j false = true := by
    intro L hz hs hr j hj
    obtain ⟨p, hp, rfl⟩ := List.mem_map.1 (List.contains_iff_mem.1 hj)
    refine topo_done js l L o3 hz hs hr p hp ?_
    have := List.all_eq_true.1 o8 p hp
    rcases Nat.lt_or_ge p.1 l.size with h' | h'
    · exact h'
    · simp [h'] at this
  intro m
  induction m with
  | zero =>
    intro L xs w hm hz hsu hs hf hS
    rw [leftN_zero hm s] at hsu
    cases hsu
  | succ m ih =>
    intro L xs w hm hz hsu hs hf hS
    refine ⟨fun hr => ?_, fun i hi => ?_⟩
    · exfalso
      have hm' : s ∈ Region.ready .any ops L := by
        rw [mem_ready]
        refine ⟨hsu, os, hos, fun e he hb => ?_⟩
        rw [hos] at o12
        have h3 : (os.after.all fun e => !Region.binds .any e || (l.getD e.on false || (js.map (·.1)).contains e.on)) = true := o12
        rw [Array.all_eq_true_iff_forall_mem] at h3
        have h4 := h3 e he
        rw [hb] at h4
        simp only [Bool.not_true, Bool.false_or, Bool.or_eq_true] at h4
        rcases h4 with h4 | h4
        · exact hs _ h4
        · exact hall L hz hs hr _ h4
      rw [hr] at hm'
      cases hm'
    obtain ⟨hu, o, ho, hd⟩ := mem_ready.1 hi
    have hlt : i < ops.size := (Array.getElem?_eq_some_iff.1 ho).1
    have hlL : i < L.size := by omega
    have hil : l.getD i true = false := by
      cases hc : l.getD i true with
      | false => rfl
      | true =>
        have h3 := hs i (getD_tf hc (by omega))
        simp [hlL] at h3 hu
        rw [h3] at hu
        cases hu
    by_cases his : i = s
    · subst his
      have hl : ∀ j, (js.map (·.1)).contains j = true → L.getD j false = true := by
        intro j hj
        obtain ⟨p, hp, rfl⟩ := List.mem_map.1 (List.contains_iff_mem.1 hj)
        exact depB_listed ho hd (List.all_eq_true.1 o9 p hp)
      refine wpOp_mono ?_ (hend xs w hS (fun j hj => hf j hj (hl j hj)))
      rintro a' w' ⟨hS', hq⟩
      refine ⟨hS', wpAnyH_done ?_ hq _⟩
      rcases hq2 : Region.ready .any ops (L.setIfInBounds i true) with _ | ⟨k, r⟩
      · rfl
      · exfalso
        have h1 : k ∈ Region.ready .any ops (L.setIfInBounds i true) := by rw [hq2]; simp
        obtain ⟨h2, o', ho', _⟩ := mem_ready.1 h1
        have hk : k < ops.size := (Array.getElem?_eq_some_iff.1 ho').1
        by_cases hki : i = k
        · subst hki
          simp [hlL] at h2
        · have h2' : L.getD k true = false := by
            have hkL : k < L.size := by omega
            simp [hkL, Array.getElem_setIfInBounds_ne, hki] at h2 ⊢
            exact h2
          have h5 := List.all_eq_true.1 o6 k (List.mem_range.2 hk)
          simp only [Bool.or_eq_true, beq_iff_eq] at h5
          have hkL : k < L.size := by omega
          rcases h5 with h5 | h5 | h5
          · have h6 := hs k (getD_tf h5 (by omega))
            simp [hkL] at h6 h2'
            rw [h6] at h2'
            cases h2'
          · have h6 := hl k h5
            simp [hkL] at h6 h2'
            rw [h6] at h2'
            cases h2'
          · exact hki h5.symm
    have hij : (js.map (·.1)).contains i = true := by
      have := List.all_eq_true.1 o6 i (List.mem_range.2 hlt)
      rw [hil] at this
      simp only [Bool.false_or, Bool.or_eq_true, beq_iff_eq] at this
      rcases this with h | h
      · exact h
      · exact absurd h his
    obtain ⟨p, hp, rfl⟩ := List.mem_map.1 (List.contains_iff_mem.1 hij)
    have hst := EachI.mem hop p hp xs w hS (fun j hj => by
      rw [Bool.and_eq_true] at hj
      exact hf j hj.1 (depB_listed ho hd hj.2))
    refine wpOp_mono ?_ hst
    rintro a' w' ⟨v, hR, hv, rfl⟩
    refine ⟨hRS _ _ hS hR, ih _ _ w' (by have := leftN_set hu; omega) (by rw [Array.size_setIfInBounds]; exact hz) ?_ (fun j hj => getD_set_true (hs j hj)) (fun j hj hl => ?_) (hRS _ _ hS hR)⟩
    · have hsL : s < L.size := by omega
      simp [hsL, Array.getElem_setIfInBounds_ne, his] at hsu ⊢
      exact hsu
    by_cases hjp : j = p.1
    · rw [hjp, show upd xs p.1 v p.1 = v from if_pos rfl]; exact hv
    · rw [show upd xs p.1 v j = xs j from if_neg hjp]
      rw [getD_set_ne false (fun e => hjp e.symm)] at hl
      exact hF _ _ _ _ hS hR (hf j hj hl)
theorem invStartS {js : List (Nat × Nat)} {s : Nat} {F : Nat → Value → World → Prop} {n : Nat} {l : Array Bool} {a : Act} {w : World} (hok : okS ops js s n l = true) (hz : (js.all fun p => Nat.blt p.2 a.tmps.size) = true)
    (hRS : ∀ V V', S V → R V V' → S V') (hF : ∀ i v V V', S V → R V V' → F i v V → F i v V') (hS : S w)
    (h : ∀ mk : (Nat → Value) → Act, mk = putXs js a → EachI (StepI P ops Q S R js F mk) js ∧ (∀ xs V, S V → (∀ j, (js.map (·.1)).contains j = true → F j (xs j) V) → wpOp P ops Q s (fun a' V' => S V' ∧ Q .normal a' V') (mk xs) V)) : wpAnyH P .any ops Q S n l a w := by
  obtain ⟨h1, h2⟩ := h _ rfl
  have hok' := hok
  simp only [okS, Bool.and_eq_true, decide_eq_true_eq] at hok'
  obtain ⟨o1, o2, o3, o4, o5, o6, o7, o8, o9, o10, o11, o12⟩ := hok'
  obtain ⟨xs, hxs⟩ : ∃ xs : Nat → Value, ∀ p ∈ js, xs p.1 = a.tmps.getD p.2 undef := by
    clear h h1 h2 hz o3 o5 o6 o7 o8 o9 o10 o11 o12 hok
    induction js with
    | nil => exact ⟨fun _ => undef, by simp⟩
    | cons p r ih =>
      simp only [List.map_cons, distinct, Bool.and_eq_true] at o4
      obtain ⟨xs, hx⟩ := ih o4.2
      refine ⟨upd xs p.1 (a.tmps.getD p.2 undef), fun q hq => ?_⟩
      rcases List.mem_cons.1 hq with rfl | hq
      · exact if_pos rfl
      · rw [show upd xs p.1 (a.tmps.getD p.2 undef) q.1 = xs q.1 from if_neg (not_mem_of_distinct o4.1 _ (List.mem_map_of_mem hq))]
        exact hx q hq
  have e := putXs_self js a xs (fun p hp => by simpa [Nat.blt_eq] using List.all_eq_true.1 hz p hp) o5 hxs
  have := invAnyS hok hRS hF h1 h2 n l xs w o1 rfl (by simpa using o11) (fun _ h => h) (fun j hj hl => by
    exfalso
    obtain ⟨p, hp, rfl⟩ := List.mem_map.1 (List.contains_iff_mem.1 hj)
    have h3 := List.all_eq_true.1 o8 p hp
    have hlt : p.1 < l.size := by
      rcases Nat.lt_or_ge p.1 l.size with h' | h'
      · exact h'
      · simp [h'] at hl
    simp [hlt] at h3 hl
    rw [h3] at hl
    cases hl) hS
  rw [e] at this
  exact this
theorem stepS {s : Nat} {a : Act} {o : Oper} {V : World} (ho : nth ops.toList s = some o)
    (h : ∀ Q' : Exit → Act → World → Prop, Shut (∀ x y, S y → Q .normal x y → Q' .normal x y) → Shut (∀ e a w, e ≠ .normal → Q e a w → Q' e a w) → wpList P ops Q' [o] a V) : wpOp P ops Q s (fun a' V' => S V' ∧ Q .normal a' V') a V := by
  have h1 := h (fun e x y => (e = .normal ∧ S y ∧ Q .normal x y) ∨ (e ≠ .normal ∧ Q e x y)) (fun _ _ h1 h2 => .inl ⟨rfl, h1, h2⟩) (fun _ _ _ h1 h2 => .inr ⟨h1, h2⟩)
  have hx : ∀ e x y, e ≠ Exit.normal → ((e = .normal ∧ S y ∧ Q .normal x y) ∨ (e ≠ .normal ∧ Q e x y)) → Q e x y := by
    rintro e x y h1 (⟨h2, _⟩ | ⟨_, h2⟩)
    · exact (h1 h2).elim
    · exact h2
  unfold wpOp
  rw [show ops[s]? = some o by rw [nth_eq] at ho; simpa using ho]
  unfold wpList at h1
  dsimp only
  split at h1
  · rename_i hw
    rw [if_pos hw]
    rcases h1 with h1 | ⟨h1, x, y, h2⟩
    · refine .inl (wp_exits hx (Oper.wp_mono ?_ h1))
      intro x y h2
      rcases h2 with ⟨_, h2⟩ | ⟨h2, _⟩
      · exact h2
      · exact (h2 rfl).elim
    · exact .inr ⟨h1, x, y, hx _ _ _ (by simp) h2⟩
  · rename_i hw
    rw [if_neg hw]
    rcases h1 with ⟨_, h2⟩ | ⟨h2, _⟩
    · exact h2
    · exact (h2 rfl).elim
end
end Go.Proofs.YtcpikbanghoflaaGreatDoor
namespace Go.Proofs.YtcpikbanghoflaaGreatDoor
set_option linter.unusedSimpArgs false
set_option linter.unusedVariables false
section
variable {P : Program} {ops : Array Oper} {Q : Exit → Act → World → Prop} {S : World → Prop} {V : World}
def wpV (P : Program) (ops : Array Oper) (V : World) : List Nat → Act → Act → Prop
  | [], a, a' => a = a'
  | i :: is, a, a' => ∃ o d x, nth ops.toList i = some o ∧ o.dst = some d ∧ Nat.blt d a.tmps.size = true ∧ valOp o.op = true ∧ wpList P ops (fun e y z => e = .normal ∧ y = x ∧ z = V) [o] a V ∧ wpV P ops V is x a'
def dstsV (ops : Array Oper) (is : List Nat) : List (Option Nat) := is.map fun i => (nth ops.toList i).bind (·.dst)
def distV : List (Option Nat) → Bool
  | [] => true
  | x :: r => (!r.contains x) && distV r
theorem wpV_nil {a : Act} : wpV P ops V [] a a := rfl
theorem wpV_cons {i d : Nat} {is : List Nat} {a a' x : Act} {o : Oper} (ho : nth ops.toList i = some o) (hd : o.dst = some d) (hlt : Nat.blt d a.tmps.size = true) (hv : valOp o.op = true)
    (h1 : ∀ Q' : Exit → Act → World → Prop, Shut (Q' .normal x V) → wpList P ops Q' [o] a V) (h2 : wpV P ops V is x a') : wpV P ops V (i :: is) a a' :=
  ⟨o, d, x, ho, hd, hlt, hv, h1 _ ⟨rfl, rfl, rfl⟩, h2⟩
theorem wpV_key {o : Oper} {a x : Act} (hv : valOp o.op = true) (h1 : wpList P ops (fun e y z => e = .normal ∧ y = x ∧ z = V) [o] a V) :
    (Region.wanted o (yielded ops a.tmps) = true ∧ ∃ v, (execOp a.eval o).run P V = .ok (.value v) V ∧ a.put o.dst v = x) ∨ (Region.wanted o (yielded ops a.tmps) = false ∧ a.put o.dst undef = x) := by
  unfold wpList at h1
  split at h1
  · rename_i hw
    refine .inl ⟨hw, ?_⟩
    rcases h1 with h1 | ⟨_, x, y, hx, _⟩
    case inr => cases hx
    unfold Oper.wp at h1
    cases hr : (execOp a.eval o).run P V with
    | ok n w1 =>
      obtain ⟨v, rfl⟩ := valOp_run hv hr
      rw [hr] at h1
      obtain ⟨_, h2, h3⟩ := h1
      subst h3
      exact ⟨v, rfl, h2⟩
    | halt x w1 =>
      rw [hr] at h1
      cases x <;> first | exact h1.elim | (obtain ⟨h2, _⟩ := h1; cases h2)
  · rename_i hw
    obtain ⟨_, h2, _⟩ := h1
    exact .inr ⟨by simpa using hw, h2⟩
theorem put_other {a : Act} {d e : Nat} {v : Value} (h : e ≠ d) : (a.put (some e) v).tmps.getD d undef = a.tmps.getD d undef := by
  simp only [Act.put]
  by_cases hd : d < a.tmps.size
  · simp [hd, Array.getElem_setIfInBounds_ne hd h]
  · simp [hd]
theorem wpV_keep : ∀ (is : List Nat) (a a' : Act) (d : Nat), wpV P ops V is a a' → (dstsV ops is).contains (some d) = false → a'.tmps.getD d undef = a.tmps.getD d undef
  | [], a, a', d, h, _ => by cases h; rfl
  | i :: is, a, a', d, ⟨o, e, x, ho, hd, hlt, hv, h1, h2⟩, hc => by
    simp only [dstsV, List.map_cons, ho, Option.bind_some, hd, List.contains_cons, Bool.or_eq_false_iff, beq_eq_false_iff_ne] at hc
    have hne : e ≠ d := fun h => hc.1 (by rw [h])
    rw [wpV_keep is x a' d h2 hc.2]
    rcases wpV_key hv h1 with ⟨_, v, _, hx⟩ | ⟨_, hx⟩
    · rw [← hx, hd, put_other hne]
    · rw [← hx, hd, put_other hne]
theorem treeTakesV (hS0 : ∃ V, S V) {r : Tr} {w : World} : ∀ (is : List Nat) {a a' : Act}, distV (dstsV ops is) = true → (∀ V, S V → wpV P ops V is a a') → seqT P ops Q S r a' w → seqT P ops Q S (takesOf is r) a w
  | [], a, a', _, hy, h => by
    obtain ⟨V0, hV0⟩ := hS0
    cases hy V0 hV0
    exact h
  | i :: is, a, a', hd, hy, h => by
    have hd' := hd
    simp only [dstsV, List.map_cons, distV, Bool.and_eq_true, Bool.not_eq_true'] at hd
    obtain ⟨V0, hV0⟩ := id hS0
    obtain ⟨o, d, x, ho, hod, hlt, hv, h1, h2⟩ := hy V0 hV0
    have hlt' : d < a.tmps.size := by simpa [Nat.blt_eq] using hlt
    have hnc : (dstsV ops is).contains (some d) = false := by
      have := hd.1
      rw [ho, Option.bind_some, hod] at this
      exact this
    have hput : ∀ v y, a.put o.dst v = y → v = y.tmps.getD d undef := by
      intro v y e
      rw [← e, hod]
      simp [Act.put, hlt']
    have key : ∀ V, S V → wpV P ops V is x a' ∧ ((Region.wanted o (yielded ops a.tmps) = true ∧ (execOp a.eval o).run P V = .ok (.value (x.tmps.getD d undef)) V ∧ a.put o.dst (x.tmps.getD d undef) = x) ∨ (Region.wanted o (yielded ops a.tmps) = false ∧ a.put o.dst undef = x)) := by
      intro V hV
      obtain ⟨o2, d2, y, ho2, hod2, _, hv2, k1, k2⟩ := hy V hV
      rw [ho] at ho2
      injection ho2 with ho2
      subst ho2
      rw [hod] at hod2
      injection hod2 with hod2
      subst hod2
      have e1 := wpV_keep is x a' d h2 hnc
      have e2 := wpV_keep is y a' d k2 hnc
      have e3 : x.tmps.getD d undef = y.tmps.getD d undef := e1.symm.trans e2
      have hxy : y = x := by
        have fin : ∀ v u, a.put o.dst v = x → a.put o.dst u = y → y = x := by
          intro v u hx hu
          have : u = v := (hput u y hu).trans (e3.symm.trans (hput v x hx).symm)
          rw [← hx, ← hu, this]
        rcases wpV_key hv h1 with ⟨_, v, _, hx⟩ | ⟨_, hx⟩
        · rcases wpV_key hv k1 with ⟨_, u, _, hu⟩ | ⟨_, hu⟩
          · exact fin _ _ hx hu
          · exact fin _ _ hx hu
        · rcases wpV_key hv k1 with ⟨_, u, _, hu⟩ | ⟨_, hu⟩
          · exact fin _ _ hx hu
          · exact fin _ _ hx hu
      subst hxy
      refine ⟨k2, ?_⟩
      rcases wpV_key hv k1 with ⟨hw, u, hr, hu⟩ | ⟨hw, hu⟩
      · have := hput u y hu
        rw [← this]
        exact .inl ⟨hw, hr, hu⟩
      · exact .inr ⟨hw, hu⟩
    have ih := treeTakesV hS0 is (by simpa [dstsV] using hd.2) (fun V hV => (key V hV).1) h
    have ho' : ops[i]? = some o := by rw [nth_eq] at ho; simpa using ho
    rcases (key V0 hV0).2 with ⟨hw, _, hx⟩ | ⟨hw, hx⟩
    · refine ⟨o, x.tmps.getD d undef, ho', .inl ⟨hw, fun V hV => ?_⟩, by rw [hx]; exact ih⟩
      rcases (key V hV).2 with ⟨_, hr, _⟩ | ⟨hw', _⟩
      · exact hr
      · rw [hw] at hw'; cases hw'
    · exact ⟨o, undef, ho', .inr ⟨hw, rfl⟩, by rw [hx]; exact ih⟩
end
end Go.Proofs.YtcpikbanghoflaaGreatDoor
namespace Go.Proofs.YtcpikbanghoflaaGreatDoor
set_option linter.unusedSimpArgs false
set_option linter.unusedVariables false
open Go.RowKit
set_option maxRecDepth 100000
abbrev rowN (h : HdD) (q a : Value) (he : Bool) (e : EdD) : Array Value := #[.int .u16 h.id, .bool h.qr, .int .u8 h.op, .bool h.aa, .bool h.tc, .bool h.rd, .bool h.ra, .bool h.z, .bool h.ad, .bool h.cd, .int .u8 h.code, q, a, .slice none 0 0, .slice none 0 0, .bool he, .int .u16 e.size, .int .u8 e.ext, .int .u8 e.ver, .int .u16 e.flags, .slice none 0 0]
abbrev zeroN : Array Value := #[.int .u16 0, .bool false, .int .u8 0, .bool false, .bool false, .bool false, .bool false, .bool false, .bool false, .bool false, .int .u8 0, .slice none 0 0, .slice none 0 0, .slice none 0 0, .slice none 0 0, .bool false, .int .u16 0, .int .u8 0, .int .u8 0, .int .u16 0, .slice none 0 0]
theorem wpList_load_rowN {P : Program} {ops : Array Oper} {Q : Exit → Act → World → Prop} {rest : List Oper} {o : Oper} {a : Act} {w : World} (hwn : Region.wanted o (yielded ops a.tmps) = true) (ty : TypeId) (x : Operand) (ho : o.op = .load ty x)
    (g : Nat) (hx : a.eval x = .pointer (some ⟨g, 0, none⟩)) (t : TypeId) (cs : Array Value) (fr : Nat × Nat) (d : TypeDesc) (hg : w.heap[g]? = some (.cells cs t fr))
    (hu : P.underlying ty = some d) (hd : (match d with | .struct _ | .array _ _ => true | _ => false) = true) (hi : (P.info? ty).map (·.size) = some cs.size)
    (h : wpList P ops Q rest (a.put o.dst (.agg cs)) w) : wpList P ops Q (o :: rest) a w :=
  wpList_step fun K hK => by
    rw [if_pos hwn]
    exact wp_load_row ty x ho g hx t cs fr d hg hu hd hi (hK _ _ h)
theorem wpList_buildN {P : Program} {ops : Array Oper} {rest : List Oper} {o : Oper} {a : Act} {w : World} {Q : Exit → Act → World → Prop} (hg : o.guard = none) (t : TypeId) (parts : Array (Nat × Operand)) (ho : o.op = .build t parts)
    (vs : List (Nat × Value)) (hv : (parts.map fun (i, x) => (i, a.eval x)).toList = vs) (cells : Array Value) (hc : P.built t vs = some cells) (dst : Option Tmp) (hd : o.dst = dst)
    (h : wpList P ops Q rest (a.put dst (.agg cells)) w) : wpList P ops Q (o :: rest) a w := by
  subst hd
  exact wpList_build hg t parts ho (by rw [hv, hc]; rfl) (by rw [hv, hc]; exact h)
theorem built_ok (A B : Option Addr) (c d : Nat) : Tryz.prog.built 38 [(0, .agg #[.int .u16 0, .bool true, .int .u8 0, .bool false, .bool false, .bool false, .bool false, .bool false, .bool false, .bool false, .int .u8 0]), (1, .slice A 1 c), (2, .slice B 1 d)] = some (rowN okM.hd (.slice A 1 c) (.slice B 1 d) okM.he okM.ed) := by kernel_rfl
theorem built_gone (A : Option Addr) (c : Nat) : Tryz.prog.built 38 [(0, .agg #[.int .u16 0, .bool true, .int .u8 0, .bool false, .bool false, .bool false, .bool false, .bool false, .bool false, .bool false, .int .u8 3]), (1, .slice A 1 c)] = some (rowN goneM.hd (.slice A 1 c) (.slice none 0 0) goneM.he goneM.ed) := by kernel_rfl
theorem heap_newN (w : World) (o : Obj) (g : Nat) (hg : g = w.heap.size) : (w.alloc o).heap[g]? = some o := by subst hg; exact heap_alloc_new w o
theorem recsN_nil (w : World) : Recs w 0 (.slice none 0 0) [] := ⟨none, 0, rfl, Nat.le_refl _, by unfold maxLen; omega, rfl, fun h => absurd h (by decide)⟩
theorem qusN_nil (w : World) : Qus w 0 (.slice none 0 0) [] := ⟨none, 0, rfl, Nat.le_refl _, by unfold maxLen; omega, rfl, fun h => absurd h (by decide)⟩
theorem recN_row {w : World} {g : Nat} {r : RecD} (h : w.heap[g]? = some (.cells #[S r.name, .int .u16 r.typ, .int .u16 r.cls, .int .u32 r.ttl, S r.data] 28)) : Recs w 0 (.slice (some ⟨g, 0, none⟩) 1 1) [r] := by
  refine ⟨some ⟨g, 0, none⟩, 1, rfl, Nat.le_refl _, by unfold maxLen; omega, rfl, fun _ => ⟨g, 0, rfl, Nat.zero_le _, (Array.getElem?_eq_some_iff.1 h).1, fun j u hj => ?_⟩⟩
  rw [Nat.zero_add]
  have hj' : #[S r.name, .int .u16 r.typ, .int .u16 r.cls, .int .u32 r.ttl, S r.data][j]? = some u := by simpa [recCells] using hj
  simp only [World.cell?, h]
  exact hj'
theorem qusN_two {w : World} {g : Nat} {q r : QD} (h : w.heap[g]? = some (.cells #[S q.name, .int .u16 q.typ, .int .u16 q.cls, S r.name, .int .u16 r.typ, .int .u16 r.cls] 25)) : Qus w 0 (.slice (some ⟨g, 0, none⟩) 2 2) [q, r] := by
  refine ⟨some ⟨g, 0, none⟩, 2, rfl, Nat.le_refl _, by unfold maxLen; omega, rfl, fun _ => ⟨g, 0, rfl, Nat.zero_le _, (Array.getElem?_eq_some_iff.1 h).1, fun j u hj => ?_⟩⟩
  rw [Nat.zero_add]
  have hj' : #[S q.name, .int .u16 q.typ, .int .u16 q.cls, S r.name, .int .u16 r.typ, .int .u16 r.cls][j]? = some u := by simpa [quCells] using hj
  simp only [World.cell?, h]
  exact hj'
theorem msg7_N {w : World} {m : MsgD} {q a : Value} (hq : Qus w 0 q m.qs) (ha : Recs w 0 a m.ans) (h1 : m.auth = []) (h2 : m.extra = []) (h3 : m.ed.opts = []) (hk : (m.qs.all (fun q => Nat.ble q.name.length 9)) = true) (hr : (m.ans.all (fun r => Nat.ble r.name.length 9 && Nat.ble r.data.length 9)) = true) : Msg7 w m q a (.slice none 0 0) (.slice none 0 0) (.slice none 0 0) := by
  refine ⟨hq, ha, by rw [h1]; exact recsN_nil w, by rw [h2]; exact recsN_nil w, by rw [h3]; exact ⟨none, 0, rfl, Nat.le_refl _, by unfold maxLen; omega, rfl, fun h => absurd (show 0 < 0 from h) (Nat.lt_irrefl 0)⟩, ?_, ?_, ?_, ?_, by rw [h2]; exact Nat.zero_le _⟩
  · intro q hq
    have := Nat.le_of_ble_eq_true (List.all_eq_true.1 hk q hq)
    omega
  · intro r hr'
    have := List.all_eq_true.1 hr r hr'
    rw [Bool.and_eq_true] at this
    have h4 := Nat.le_of_ble_eq_true this.1
    have h5 := Nat.le_of_ble_eq_true this.2
    exact ⟨by omega, by omega⟩
  · rw [h1]; intro r hr'; cases hr'
  · rw [h2]; intro r hr'; cases hr'
def wfB (m : MsgD) : Bool := decide (0 ≤ m.hd.id ∧ m.hd.id ≤ 65535) && (decide (0 ≤ m.hd.op) && (decide (0 ≤ m.hd.code) && (decide (∀ q ∈ m.qs, (0 ≤ q.typ ∧ q.typ ≤ 65535) ∧ 0 ≤ q.cls ∧ q.cls ≤ 65535) && (decide (∀ r ∈ m.ans, (0 ≤ r.typ ∧ r.typ ≤ 65535) ∧ (0 ≤ r.cls ∧ r.cls ≤ 65535) ∧ 0 ≤ r.ttl ∧ r.ttl ≤ 4294967295) && (m.auth.isEmpty && (m.extra.isEmpty && (decide (0 ≤ m.ed.size ∧ m.ed.size ≤ 65535) && (decide (0 ≤ m.ed.ext ∧ m.ed.ext ≤ 255) && (decide (0 ≤ m.ed.ver ∧ m.ed.ver ≤ 255) && (decide (0 ≤ m.ed.flags ∧ m.ed.flags ≤ 65535) && m.ed.opts.isEmpty))))))))))
theorem wfB_ok {m : MsgD} (h : wfB m = true) : m.wf := by
  unfold wfB at h
  simp only [Bool.and_eq_true, decide_eq_true_eq, List.isEmpty_iff] at h
  obtain ⟨h1, h2, h3, h4, h5, h6, h7, h8, h9, h10, h11, h12⟩ := h
  exact ⟨h1, h2, h3, fun q hq => h4 q hq, fun r hr => h5 r hr, (by rw [h6]; intro r hr; cases hr), (by rw [h7]; intro r hr; cases hr), h8, h9, h10, h11, (by rw [h12]; intro o ho; cases ho)⟩
theorem all24_wf : (all24.all wfB) = true := by decide
theorem wf24 {m : MsgD} (h : m ∈ all24) : m.wf := wfB_ok (List.all_eq_true.1 all24_wf m h)
set_option maxHeartbeats 4000000 in
theorem law24_kind (m : MsgD) (q a : Value) (ea eb : Addr) (w : World) (hg : Laid w) (hb : BitsAt w) (he : ErrsAt w ea eb) (hm : m ∈ all24) (h : Msg7 w m q a (.slice none 0 0) (.slice none 0 0) (.slice none 0 0)) :
    Calls Tryz.prog 22 #[.agg (rowN m.hd q a m.he m.ed)] w fun e w' => e = .returned (.int .u8 (kindOf m)) ∧ Ext w w' := by
  obtain ⟨X0, hX0⟩ : ∃ X0, X0 = w.alloc (.cells (rowN m.hd q a m.he m.ed) 38) := ⟨_, rfl⟩
  have hw0 : Ext w X0 := by rw [hX0]; exact (Ext.refl _).alloc _
  have r0 : X0.heap[w.heap.size]? = some (.cells (rowN m.hd q a m.he m.ed) 38) := by rw [hX0]; exact heap_alloc_new _ _
  have HE := Lib.hid (show Calls Tryz.prog 20 #[.agg (rowN m.hd q a m.he m.ed)] X0 (EncPost m X0) from wire_encode m q a (.slice none 0 0) (.slice none 0 0) (.slice none 0 0) X0 (hg.ext hw0) (hb.ext hw0) (wf24 hm) (h.ext hw0))
  unfold EncPost at HE
  have HX := Lib.hid (fun V => law24_ex V)
  have HL := Lib.hid (fun V (hV : Ext w V) => heard_look (encOf m) ex24 1 1 ea eb V (hg.ext hV) (hb.ext hV) (he.ext hV) (len24 hm) (by decide))
  unfold LookH at HL
  have hfk := fieldKind
  have HK := Lib.hid (show kindOf m = if encErr m = 0 then (replyOf (encOf m) ex24 1 1).kind else 0 from rfl)
  generalize encOf m = s at *
  generalize replyOf s ex24 1 1 = R at *
  generalize encErr m = k at *
  generalize kindOf m = K at *
  clear hm
  go_enter Tryz.func22, Tryz.ntmps22
  go_upto_region 1 with fail
  have hzz : w.alloc (.cells (rowN m.hd q a m.he m.ed) 38) = X0 := hX0.symm
  rw [hzz]
  clear hzz hX0
  go_wp2_with (first | (refine wpList_load_rowN (by rfl) 38 (.tmp 1) rfl w.heap.size rfl 38 _ _ _ r0 Tryz.underlying38 rfl (by kernel_rfl) ?_) | fail)
  refine HE.out.mono ?_
  rintro e w1 ⟨rfl, hE1⟩
  have hw1 := hw0.trans hE1
  clear HE
  by_cases hk : k = 0
  · have hk0 : (((k : Nat) : Int) != 0) = false := by rw [hk]; rfl
    rw [if_pos hk] at HK
    clear hk
    go_wp2_with fail
    refine (HX.out _).mono ?_
    rintro e w2 ⟨rfl, hE2⟩
    go_wp2_with fail
    refine (HL.out _ (hw1.trans hE2)).mono ?_
    rintro e w3 ⟨vs, vo, rfl, _, _, _, hE3⟩
    go_wp2_with fail
    go_ret
    have hk2 := HK.out
    subst hk2
    exact ⟨rfl, (hw1.trans hE2).trans hE3⟩
  · have hk0 : (((k : Nat) : Int) != 0) = true := by simpa using hk
    rw [if_neg hk] at HK
    clear hk
    go_wp2_with fail
    go_ret
    have hk2 := HK.out
    subst hk2
    exact ⟨rfl, hw1⟩
theorem setRow_heapN {w : World} {g : Nat} {old : Array Value} {t : TypeId} (h : w.heap[g]? = some (.cells old t)) (cs : Array Value) : (w.setRow g cs).heap[g]? = some (.cells cs t) := by
  show (w.heap.modify g _)[g]? = _
  rw [Array.getElem?_modify, if_pos rfl, h]
  rfl
theorem cellN_keep {w : World} {g b j : Nat} {old : Array Value} {t : TypeId} {v : Value} (h : w.heap[g]? = some (.cells old t)) (cs : Array Value) (hne : b ≠ g) (hv : w.cell? ⟨b, j, none⟩ = some v) : (w.setRow g cs).cell? ⟨b, j, none⟩ = some v := by
  simp only [World.cell?] at hv ⊢
  rw [setRow_otherH w g cs b hne]
  exact hv
theorem qusN_keep {w : World} {g : Nat} {q : Value} (h : Qus w 0 q okM.qs) (hz : w.heap[g]? = some (.cells zeroN 38)) (cs : Array Value) : Qus (w.setRow g cs) 0 q okM.qs := by
  obtain ⟨A, c, h1, h2, h3, h4⟩ := h
  refine ⟨A, c, h1, h2, h3, h4.1, fun h0 => ?_⟩
  obtain ⟨b, off, e, k1, k2, k3⟩ := h4.2 h0
  have hne : b ≠ g := by
    intro e
    have := k3 1 (.int .u16 1) rfl
    have h0 := k3 0 (S ex24) rfl
    rw [e] at this h0
    simp only [World.cell?, hz] at this h0
    rcases off with _ | _ | _ | _ | _ | _ | _ | _ | _ | _ | _ | _ | _ | _ | _ | _ | _ | _ | _ | _ | _ | off <;> first | (cases h0; done) | (simp at h0; done)
  refine ⟨b, off, e, k1, ?_, fun j u hu => cellN_keep hz cs hne (k3 j u hu)⟩
  simpa [World.setRow] using k2
theorem recsN_keep {w : World} {g : Nat} {a : Value} (h : Recs w 0 a okM.ans) (hz : w.heap[g]? = some (.cells zeroN 38)) (cs : Array Value) : Recs (w.setRow g cs) 0 a okM.ans := by
  obtain ⟨A, c, h1, h2, h3, h4⟩ := h
  refine ⟨A, c, h1, h2, h3, h4.1, fun h0 => ?_⟩
  obtain ⟨b, off, e, k1, k2, k3⟩ := h4.2 h0
  have hne : b ≠ g := by
    intro e
    have h0 := k3 0 (S [2, 69, 88, 0]) rfl
    rw [e] at h0
    simp only [World.cell?, hz] at h0
    rcases off with _ | _ | _ | _ | _ | _ | _ | _ | _ | _ | _ | _ | _ | _ | _ | _ | _ | _ | _ | _ | _ | off <;> first | (cases h0; done) | (simp at h0; done)
  refine ⟨b, off, e, k1, ?_, fun j u hu => cellN_keep hz cs hne (k3 j u hu)⟩
  simpa [World.setRow] using k2
inductive FK24 where
  | e : FK24
  | q : FK24
  | r : FK24
  | m : FK24
  | b : FK24
  | n : FK24
def kind24 : Nat → FK24
  | 1 => .e
  | 2 => .q
  | 4 => .r
  | 5 => .m
  | 6 => .b
  | _ => .n
def FK24.ok (X : World) : FK24 → Value → World → Prop
  | .e, x, V => x = .agg #[S ex24, .int .u16 1, .int .u16 1]
  | .q, x, V => Qus V 0 x okM.qs
  | .r, x, V => Recs V 0 x okM.ans
  | .m, x, V => ∃ q a, x = .agg (rowN okM.hd (q) (a) okM.he okM.ed) ∧ Qus V 0 q okM.qs ∧ Recs V 0 a okM.ans
  | .b, x, V => ∃ g, x = .pointer (some ⟨g, 0, none⟩) ∧ V.heap[g]? = some (.cells zeroN 38) ∧ X.heap.size ≤ g
  | .n, _, _ => True
theorem FK24.mono {X : World} {k : FK24} {v : Value} {V V' : World} (hE : Ext V V') (h : k.ok X v V) : k.ok X v V' := by
  cases k with
  | e => exact h
  | q => exact Qus.ext h hE
  | r => exact Recs.ext h hE
  | m =>
    obtain ⟨q, a, h1, h2, h3⟩ := h
    exact ⟨q, a, h1, h2.ext hE, h3.ext hE⟩
  | b =>
    obtain ⟨g, h1, h2, h3⟩ := h
    exact ⟨g, h1, (hE.block _ (Array.getElem?_eq_some_iff.1 h2).1).trans h2, h3⟩
  | n => trivial
set_option maxHeartbeats 40000000 in
theorem law24_names (ea eb : Addr) (w : World) (hg : Laid w) (hb : BitsAt w) (he : ErrsAt w ea eb) : Calls Tryz.prog 5 #[] w fun e w' => e = .returned (.bool true) ∧ Ext w w' := by
  have HAw := Lib.hid (law24_awake ea eb w hg hb he)
  have HX := Lib.hid (fun V => law24_ex V)
  have HL := Lib.hid (fun d n V (hV : Ext w V) (hd : d.length ≤ 16384) (hn : n.length ≤ 1048576) => heard_look d n 1 1 ea eb V (hg.ext hV) (hb.ext hV) (he.ext hV) hd hn)
  unfold LookH at HL
  have HQ := Lib.hid (fun n ty cls id size V (hV : Ext w V) (hn : n.length ≤ 1048576) (ht : 0 ≤ ty ∧ ty ≤ 65535) (hc : 0 ≤ cls ∧ cls ≤ 65535) (hi : 0 ≤ id ∧ id ≤ 65535) => heard_query n ty cls id size V (hg.ext hV) (hb.ext hV) hn ht hc hi)
  unfold QueryPost at HQ
  have HKd := Lib.hid (fun m q a V (hV : Ext w V) (hm : m ∈ all24) (h : Msg7 V m q a (.slice none 0 0) (.slice none 0 0) (.slice none 0 0)) => law24_kind m q a ea eb V (hg.ext hV) (hb.ext hV) (he.ext hV) hm h)
  have hfk := fieldKind
  go_enter Tryz.func5, Tryz.ntmps5
  go_wp2_with fail
  refine HAw.out.mono ?_
  rintro e w0 ⟨rfl, hE0⟩
  clear HAw
  go_upto_region 4 with fail
  obtain ⟨X, hX⟩ : ∃ X, X = w0.alloc (.cells #[S [2, 69, 88, 0], .int .u16 1, .int .u16 1, .int .u32 9, S [97, 98, 99, 100]] 28) := ⟨_, rfl⟩
  obtain ⟨g1, hg1⟩ : ∃ g1, g1 = w0.heap.size := ⟨_, rfl⟩
  have r1 : X.heap[g1]? = some (.cells #[S [2, 69, 88, 0], .int .u16 1, .int .u16 1, .int .u32 9, S [97, 98, 99, 100]] 28) := by rw [hX, hg1]; exact heap_alloc_new _ _
  have hwX : Ext w X := by rw [hX]; exact hE0.alloc _
  rw [← hX, ← hg1]
  clear hX hg1 hE0
  have H1 := Lib.hid (fun V (hV : Ext X V) => (hV.block g1 (Array.getElem?_eq_some_iff.1 r1).1).trans r1)
  go_cut [2] (fun s2 wx => ∃ (g : Nat) (qA aA : Option Addr) (qc ac : Nat), s2 = .pointer (some ⟨g, 0, none⟩) ∧ wx.heap[g]? = some (.cells (rowN okM.hd (.slice qA 1 qc) (.slice aA 1 ac) okM.he okM.ed) 38) ∧ Qus wx 0 (.slice qA 1 qc) okM.qs ∧ Recs wx 0 (.slice aA 1 ac) okM.ans ∧ Ext X wx)
  case first =>
    have hr1 := H1.out
    refine wp_region_noPanic ?_
    refine wp_region_tree (S := fun V => Ext X V) (takesOf [0, 3] (.any 6 #[true, false, false, true, false, false, false, false])) (by kernel_rfl) (by kernel_rfl) (fun _ _ _ _ _ h => h) ((Ext.refl X).drew) ?_
    refine treeTakesV (a' := ?_) ⟨_, (Ext.refl X).drew⟩ [0, 3] (by kernel_rfl) ?_ ?_
    rotate_left
    · intro V hV
      have hrow := hr1 V hV
      have z0 := box_cell (j := 0) hrow rfl
      have z1 := box_cell (j := 1) hrow rfl
      have z2 := box_cell (j := 2) hrow rfl
      have z3 := box_cell (j := 3) hrow rfl
      have z4 := box_cell (j := 4) hrow rfl
      repeat (refine wpV_cons (x := ?_) (by rfl) rfl (by kernel_rfl) rfl ?_ ?_; rotate_left; (focus (intro Q' hq; (repeat (first | go_guarded | go_skip | go_step)); (first | exact hq | exact wpList_nil hq))))
      exact wpV_nil
    refine treeAny ?_
    refine invStartS (R := fun V V' => Ext V V') (F := fun i v V => (kind24 i).ok X v V) (js := [(1, 34), (2, 35), (4, 37), (5, 38), (6, 2)]) (s := 7) (by kernel_rfl) (by kernel_rfl) (fun V V' h1 h2 => h1.trans h2) (fun i v V V' _ hE h => FK24.mono hE h) ((Ext.refl X).drew) (fun mk hmk0 => ?_)
    have hmk : ∀ xs, mk xs = putXs [(1, 34), (2, 35), (4, 37), (5, 38), (6, 2)] _ xs := fun xs => by rw [hmk0]
    simp only [putXs, Act.put, List.setIfInBounds_toArray, List.set_cons_zero, List.set_cons_succ] at hmk
    refine ⟨⟨?_, ?_, ?_, ?_, ?_, trivial⟩, ?_⟩
    · refine stepI hmk0 (by rfl) rfl (by kernel_rfl) ?_
      intro xs V Q' hS hf hq hP
      rw [hmk xs] at hq ⊢
      simp only [Act.put, List.setIfInBounds_toArray, List.set_cons_zero, List.set_cons_succ] at hq
      clear hf hP
      iterate 2 go_step
      go_at_call 19
      refine (HX.out _).mono ?_
      rintro e wz ⟨rfl, hEz⟩
      (try dsimp only)
      (repeat (first | go_values | go_skip | go_guarded | go_step | go_upon | go_back))
      (try with_reducible refine wpList_nil ?_)
      refine hq.out _ _ hEz ?_
      rfl
    · refine stepI hmk0 (by rfl) rfl (by kernel_rfl) ?_
      intro xs V Q' hS hf hq hP
      have f1 : (xs 1) = .agg #[S ex24, .int .u16 1, .int .u16 1] := hf 1 (by kernel_rfl)
      rw [hmk xs] at hq ⊢
      simp only [Act.put, List.setIfInBounds_toArray, List.set_cons_zero, List.set_cons_succ] at hq
      clear hf hP
      generalize xs 1 = y1 at *
      subst f1
      (repeat (first | go_guarded | go_step))
      (try with_reducible refine wpList_nil ?_)
      refine hq.out _ _ ((Ext.refl V).alloc _) ?_
      exact qus_row7 (q := q24) (heap_alloc_new _ _)
    · refine stepI hmk0 (by rfl) rfl (by kernel_rfl) ?_
      intro xs V Q' hS hf hq hP
      rw [hmk xs] at hq ⊢
      simp only [Act.put, List.setIfInBounds_toArray, List.set_cons_zero, List.set_cons_succ] at hq
      clear hf hP
      (repeat (first | go_guarded | go_step))
      (try with_reducible refine wpList_nil ?_)
      refine hq.out _ _ ((Ext.refl V).alloc _) ?_
      exact recN_row (r := a24) (heap_alloc_new _ _)
    · refine stepI hmk0 (by rfl) rfl (by kernel_rfl) ?_
      intro xs V Q' hS hf hq hP
      have f2 : Qus V 0 (xs 2) okM.qs := hf 2 (by kernel_rfl)
      have f4 : Recs V 0 (xs 4) okM.ans := hf 4 (by kernel_rfl)
      rw [hmk xs] at hq ⊢
      simp only [Act.put, List.setIfInBounds_toArray, List.set_cons_zero, List.set_cons_succ] at hq
      clear hf hP
      have f2' := Lib.hid f2
      have f4' := Lib.hid f4
      obtain ⟨A, c, e2, -⟩ := f2
      obtain ⟨B, d, e4, -⟩ := f4
      replace e2 : xs 2 = .slice A 1 c := e2
      replace e4 : xs 4 = .slice B 1 d := e4
      generalize xs 2 = y2 at *
      generalize xs 4 = y4 at *
      subst e2
      subst e4
      refine wpList_buildN rfl 38 _ rfl [(0, .agg #[.int .u16 0, .bool true, .int .u8 0, .bool false, .bool false, .bool false, .bool false, .bool false, .bool false, .bool false, .int .u8 0]), (1, .slice A 1 c), (2, .slice B 1 d)] (by simp only [List.map_toArray, List.map_cons, List.map_nil]; rfl) (rowN okM.hd (.slice A 1 c) (.slice B 1 d) okM.he okM.ed) (built_ok _ _ _ _) (some 38) rfl ?_
      (try with_reducible refine wpList_nil ?_)
      refine hq.out _ _ (Ext.refl V) ?_
      exact ⟨_, _, rfl, f2'.out, f4'.out⟩
    · refine stepI hmk0 (by rfl) rfl (by kernel_rfl) ?_
      intro xs V Q' hS hf hq hP
      rw [hmk xs] at hq ⊢
      simp only [Act.put, List.setIfInBounds_toArray, List.set_cons_zero, List.set_cons_succ] at hq
      clear hf hP
      refine Go.Great.wpList_allocTo rfl (some 2) rfl (.pointer (some ⟨V.heap.size, 0, none⟩)) (.cells zeroN 38) (by kernel_rfl) ?_
      (try with_reducible refine wpList_nil ?_)
      refine hq.out _ _ ((Ext.refl V).alloc _) ?_
      exact ⟨V.heap.size, rfl, heap_alloc_new _ _, hS.size⟩
    intro xs V hS hf
    have f5 : ∃ q a, (xs 5) = .agg (rowN okM.hd (q) (a) okM.he okM.ed) ∧ Qus V 0 q okM.qs ∧ Recs V 0 a okM.ans := hf 5 (by kernel_rfl)
    have f6 : ∃ g, (xs 6) = .pointer (some ⟨g, 0, none⟩) ∧ V.heap[g]? = some (.cells zeroN 38) ∧ X.heap.size ≤ g := hf 6 (by kernel_rfl)
    rw [hmk xs]
    clear hf hmk hmk0
    generalize xs 5 = y5 at *
    generalize xs 6 = y6 at *
    obtain ⟨q, a, rfl, hq, ha⟩ := f5
    obtain ⟨g, rfl, hgz, hgX⟩ := f6
    obtain ⟨A, c, e2, -⟩ := id hq
    obtain ⟨B, d, e4, -⟩ := id ha
    replace e2 : q = .slice A 1 c := e2
    replace e4 : a = .slice B 1 d := e4
    subst e2
    subst e4
    refine stepS (by rfl) (fun Q' hQ hP => ?_)
    refine Go.wpList_store_rowTo rfl 38 (.tmp 2) (.tmp 38) rfl rfl g (rowN okM.hd (.slice A 1 c) (.slice B 1 d) okM.he okM.ed) rfl rfl 38 _ hgz (by kernel_rfl) rfl (by kernel_rfl) ?_
    (try with_reducible refine wpList_nil ?_)
    refine hQ.out _ _ (ext_setRowH hS hgX _) ?_
    clear hQ hP Q'
    refine NoPanic.normal ?_
    go_wp2_with fail
    go_meet
    refine ⟨g, _, _, _, _, rfl, setRow_heapN hgz _, ?_, ?_, ext_setRowH hS hgX _⟩
    · exact qusN_keep hq hgz _
    · exact recsN_keep ha hgz _
  case rest =>
  obtain ⟨g2, qA, aA, qc, ac, rfl, r2, hq2, ha2, hXA⟩ := hcut
  obtain ⟨A, rfl⟩ : ∃ A : World, A = wc := ⟨_, rfl⟩
  have hwA := hwX.trans hXA
  have HQ2 := Lib.hid (fun V (hV : Ext A V) => hq2.ext hV)
  have HA2 := Lib.hid (fun V (hV : Ext A V) => ha2.ext hV)
  have HB2' := Lib.hid (fun V (hV : Ext A V) => And.intro ((hV.block _ (Array.getElem?_eq_some_iff.1 r2).1).trans r2) (msg7_N (m := okM) (hq2.ext hV) (ha2.ext hV) rfl rfl rfl (by decide) (by decide)))
  have HE := Lib.hid (show Calls Tryz.prog 20 #[.agg (rowN okM.hd (.slice qA 1 qc) (.slice aA 1 ac) okM.he okM.ed)] A (EncPost okM A) from wire_encode okM _ _ (.slice none 0 0) (.slice none 0 0) (.slice none 0 0) A (hg.ext hwA) (hb.ext hwA) (wf24 (by simp [all24])) (HB2'.out A (Ext.refl _)).2)
  unfold EncPost at HE
  rw [s24_enc.1, show encOf okM = s24 from rfl] at HE
  clear hq2 ha2 H1 r1
  go_upto_region 5 with fail
  go_cut [3, 4] (fun s3 s4 wx => s3 = S s24 ∧ s4 = .int .i64 0 ∧ Ext A wx)
  case first =>
    as_aux_lemma =>
    go_wp2_with (first | (refine wpList_load_rowN (by rfl) 38 (.tmp 2) rfl g2 rfl 38 _ _ _ r2 Tryz.underlying38 rfl (by kernel_rfl) ?_) | fail)
    refine HE.out.mono ?_
    rintro e w1 ⟨rfl, hE1⟩
    go_wp2_with fail
    go_meet
    exact ⟨rfl, rfl, hE1⟩
  case rest =>
  obtain ⟨rfl, rfl, hAB⟩ := hcut
  obtain ⟨B, rfl⟩ : ∃ B : World, B = wc := ⟨_, rfl⟩
  clear HE
  have hwB := hwA.trans hAB
  have HL1 := Lib.hid (fun V (hV : Ext B V) => HL.out s24 ex24 V (hwB.trans hV) (by have := s24_enc.2; omega) (by decide))
  rw [s24_look] at HL1
  go_upto_region 6 with fail
  go_cut [5] (fun s5 wx => ∃ (g sb so : Nat) (sc : Nat) (oA : Option Addr) (oc : Nat), s5 = .pointer (some ⟨g, 0, none⟩) ∧ wx.heap[g]? = some (.cells #[.int .u8 3, .int .u8 0, .slice (some ⟨sb, so, none⟩) 1 sc, .slice oA 0 oc, .int .u32 9] 68) ∧ wx.cell? ⟨sb, so, none⟩ = some (S ex24) ∧ wx.cell? ⟨sb, so + 3, none⟩ = some (.int .u32 0) ∧ Ext B wx)
  case first =>
    go_wp2_with fail
    refine (HX.out _).mono ?_
    rintro e w1 ⟨rfl, hE1⟩
    go_wp2_with fail
    refine (HL1.out _ hE1).mono ?_
    rintro e w2 ⟨vs, vo, rfl, hs, ho, _, hE2⟩
    obtain ⟨oA, oc, rfl, -, -⟩ := ho.shape
    have hss := hs.sets
    obtain ⟨ps, sA, sc, hl, rfl, h1, h2, hrd, hst⟩ := hss
    have hlen : ps.length = 1 := by rw [← List.length_map (f := Prod.fst), hl]; rfl
    obtain ⟨sb, so, rfl, _, hbz, hbc⟩ := hrd.2 (by omega)
    obtain ⟨p, rfl⟩ : ∃ p, ps = [p] := by
      match ps, hlen with
      | [p], _ => exact ⟨p, rfl⟩
    have hp1 : p.1 = ⟨ex24, 1, 1, 0, [[97, 98, 99, 100]]⟩ := by injection hl
    obtain ⟨u0, _, _, u3, _⟩ := sets_cells hbc 0 p rfl
    rw [Nat.zero_mul, Nat.add_zero, hp1] at u0 u3
    have hE3 : Ext w2 (w2.alloc (.cells #[.int .u8 3, .int .u8 0, .slice (some ⟨sb, so, none⟩) 1 sc, .slice oA 0 oc, .int .u32 9] 68)) := (Ext.refl _).alloc _
    have v0 := (hE3.cell (p := ⟨sb, so, none⟩) hbz).trans u0
    have v3 := (hE3.cell (p := ⟨sb, so + 3, none⟩) hbz).trans u3
    clear u0 u3 hbc hst hs
    dsimp only [v24, List.length_singleton, List.length_cons, List.length_nil]
    go_wp2_with fail
    go_meet
    exact ⟨_, sb, so, sc, oA, oc, rfl, heap_alloc_new _ _, v0, v3, (hE1.trans hE2).alloc _⟩
  case rest =>
  obtain ⟨g5, sb, so, sc, oA, oc, rfl, r5, v0, v3, hBC⟩ := hcut
  obtain ⟨W0, rfl⟩ : ∃ W0 : World, W0 = wc := ⟨_, rfl⟩
  have E0W : Ext A W0 := hAB.trans hBC
  have hwW := hwA.trans E0W
  have c0 : W0.cell? ⟨g5, 0, none⟩ = some (.int .u8 3) := box_cell r5 rfl
  have c2 : W0.cell? ⟨g5, 2, none⟩ = some (.slice (some ⟨sb, so, none⟩) 1 sc) := box_cell r5 rfl
  have c4 : W0.cell? ⟨g5, 4, none⟩ = some (.int .u32 9) := box_cell r5 rfl
  have HB2 := Lib.hid (fun V (hV : Ext W0 V) => HB2'.out V (E0W.trans hV))
  clear HB2' HL1 r2 r5
  go_upto_region 9 with fail
  clear c0 c2 c4 v0 v3
  have rs := (HB2.out W0 (Ext.refl W0)).1
  have hz : (W0.alloc (.cells zeroN 38)).heap[W0.heap.size]? = some (.cells zeroN 38) := heap_alloc_new _ _
  go_upto_region 10 with (first
    | (refine wpList_load_rowN (by rfl) 38 (.tmp 2) rfl g2 rfl 38 _ _ _ rs Tryz.underlying38 rfl (by kernel_rfl) ?_)
    | (refine Go.Great.wpList_allocTo rfl (some 6) rfl (.pointer (some ⟨W0.heap.size, 0, none⟩)) (.cells zeroN 38) (by kernel_rfl) ?_)
    | (refine Go.wpList_store_rowTo rfl 38 (.tmp 6) (.tmp 84) rfl rfl W0.heap.size (rowN okM.hd (.slice qA 1 qc) (.slice aA 1 ac) okM.he okM.ed) rfl rfl 38 _ hz (by kernel_rfl) rfl (by kernel_rfl) ?_; rw [alloc_setRowH W0 zeroN (rowN okM.hd (.slice qA 1 qc) (.slice aA 1 ac) okM.he okM.ed) 38 W0.heap.size rfl])
    | fail)
  obtain ⟨W0c, hW0c⟩ : ∃ W0c, W0c = W0.alloc (.cells (rowN okM.hd (.slice qA 1 qc) (.slice aA 1 ac) okM.he okM.ed) 38) := ⟨_, rfl⟩
  obtain ⟨g6, hgg⟩ : ∃ g6, g6 = W0.heap.size := ⟨_, rfl⟩
  have r6 : W0c.heap[g6]? = some (.cells (rowN okM.hd (.slice qA 1 qc) (.slice aA 1 ac) okM.he okM.ed) 38) := by rw [hW0c, hgg]; exact heap_alloc_new _ _
  have hE6 : Ext W0 W0c := by rw [hW0c]; exact (Ext.refl _).alloc _
  have hg6 : W0.heap.size ≤ g6 := by rw [hgg]; exact Nat.le_refl _
  rw [← hW0c, ← hgg]
  clear rs hz hW0c hgg
  have c6 := box_cell (j := 11) r6 rfl
  have f6 := box_free (j := 11) r6
  have hlt := (Array.getElem?_eq_some_iff.1 r6).1
  have hne : W0c.heap.size ≠ g6 := by omega
  go_upto_region 11 with fail
  obtain ⟨W1, hN⟩ : ∃ W1, W1 = (W0c.setCell ⟨g6, 11, none⟩ (.slice (some ⟨W0c.heap.size, 0, none⟩) 1 1)).alloc (.cells #[S [2, 101, 121, 0], .int .u16 1, .int .u16 1] 25) := ⟨_, rfl⟩
  obtain ⟨gq6, hgq⟩ : ∃ gq6, gq6 = W0c.heap.size := ⟨_, rfl⟩
  rw [show (W0c.setCell ⟨g6, 11, none⟩ (.slice (some ⟨W0c.heap.size, 0, none⟩) 1 1)).alloc (.cells #[S [2, 101, 121, 0], .int .u16 1, .int .u16 1] 25) = W1 from hN.symm]
  have q6r : W1.heap[g6]? = some (.cells (rowN otherM.hd (.slice (some ⟨gq6, 0, none⟩) 1 1) (.slice aA 1 ac) otherM.he otherM.ed) 38) := by rw [hN, hgq]; exact (heap_alloc_old _ _ (by simpa using hlt)).trans (row_set r6 11 _)
  have q6q : Qus W1 0 (.slice (some ⟨gq6, 0, none⟩) 1 1) otherM.qs := by rw [hN, hgq]; exact qus_row7 (q := ⟨[2, 101, 121, 0], 1, 1⟩) (heap_newN _ _ _ (by simp))
  have EW0 : Ext W0 W1 := by rw [hN]; exact (hE6.setCell hg6 _).alloc _
  clear hgq hne
  clear hN c6 f6 r6 hg6 hE6 hlt
  have HB6 := Lib.hid (fun V (hV : Ext W1 V) => And.intro ((hV.block _ (Array.getElem?_eq_some_iff.1 q6r).1).trans q6r) (msg7_N (m := otherM) (q6q.ext hV) (HA2.out V ((E0W.trans EW0).trans hV)) rfl rfl rfl (by decide) (by decide)))
  have HQ6 := Lib.hid (fun V (hV : Ext W1 V) => q6q.ext hV)
  clear q6r q6q
  have rs := (HB2.out W1 EW0).1
  have hz : (W1.alloc (.cells zeroN 38)).heap[W1.heap.size]? = some (.cells zeroN 38) := heap_alloc_new _ _
  go_upto_region 12 with (first
    | (refine wpList_load_rowN (by rfl) 38 (.tmp 2) rfl g2 rfl 38 _ _ _ rs Tryz.underlying38 rfl (by kernel_rfl) ?_)
    | (refine Go.Great.wpList_allocTo rfl (some 7) rfl (.pointer (some ⟨W1.heap.size, 0, none⟩)) (.cells zeroN 38) (by kernel_rfl) ?_)
    | (refine Go.wpList_store_rowTo rfl 38 (.tmp 7) (.tmp 88) rfl rfl W1.heap.size (rowN okM.hd (.slice qA 1 qc) (.slice aA 1 ac) okM.he okM.ed) rfl rfl 38 _ hz (by kernel_rfl) rfl (by kernel_rfl) ?_; rw [alloc_setRowH W1 zeroN (rowN okM.hd (.slice qA 1 qc) (.slice aA 1 ac) okM.he okM.ed) 38 W1.heap.size rfl])
    | fail)
  obtain ⟨W1c, hW1c⟩ : ∃ W1c, W1c = W1.alloc (.cells (rowN okM.hd (.slice qA 1 qc) (.slice aA 1 ac) okM.he okM.ed) 38) := ⟨_, rfl⟩
  obtain ⟨g7, hgg⟩ : ∃ g7, g7 = W1.heap.size := ⟨_, rfl⟩
  have r7 : W1c.heap[g7]? = some (.cells (rowN okM.hd (.slice qA 1 qc) (.slice aA 1 ac) okM.he okM.ed) 38) := by rw [hW1c, hgg]; exact heap_alloc_new _ _
  have hE7 : Ext W1 W1c := by rw [hW1c]; exact (Ext.refl _).alloc _
  have hg7 : W1.heap.size ≤ g7 := by rw [hgg]; exact Nat.le_refl _
  rw [← hW1c, ← hgg]
  clear rs hz hW1c hgg
  have c7 := box_cell (j := 11) r7 rfl
  have f7 := box_free (j := 11) r7
  have hlt := (Array.getElem?_eq_some_iff.1 r7).1
  have hne : W1c.heap.size ≠ g7 := by omega
  go_upto_region 13 with fail
  obtain ⟨W2, hN⟩ : ∃ W2, W2 = (W1c.setCell ⟨g7, 11, none⟩ (.slice (some ⟨W1c.heap.size, 0, none⟩) 1 1)).alloc (.cells #[S [2, 101, 120, 0], .int .u16 28, .int .u16 1] 25) := ⟨_, rfl⟩
  obtain ⟨gq7, hgq⟩ : ∃ gq7, gq7 = W1c.heap.size := ⟨_, rfl⟩
  rw [show (W1c.setCell ⟨g7, 11, none⟩ (.slice (some ⟨W1c.heap.size, 0, none⟩) 1 1)).alloc (.cells #[S [2, 101, 120, 0], .int .u16 28, .int .u16 1] 25) = W2 from hN.symm]
  have q7r : W2.heap[g7]? = some (.cells (rowN kindsM.hd (.slice (some ⟨gq7, 0, none⟩) 1 1) (.slice aA 1 ac) kindsM.he kindsM.ed) 38) := by rw [hN, hgq]; exact (heap_alloc_old _ _ (by simpa using hlt)).trans (row_set r7 11 _)
  have q7q : Qus W2 0 (.slice (some ⟨gq7, 0, none⟩) 1 1) kindsM.qs := by rw [hN, hgq]; exact qus_row7 (q := ⟨ex24, 28, 1⟩) (heap_newN _ _ _ (by simp))
  have EW1 : Ext W1 W2 := by rw [hN]; exact (hE7.setCell hg7 _).alloc _
  clear hgq hne
  clear hN c7 f7 r7 hg7 hE7 hlt
  have HB7 := Lib.hid (fun V (hV : Ext W2 V) => And.intro ((hV.block _ (Array.getElem?_eq_some_iff.1 q7r).1).trans q7r) (msg7_N (m := kindsM) (q7q.ext hV) (HA2.out V ((E0W.trans (EW0.trans EW1)).trans hV)) rfl rfl rfl (by decide) (by decide)))
  clear q7r q7q
  have rs := (HB2.out W2 (EW0.trans EW1)).1
  have hz : (W2.alloc (.cells zeroN 38)).heap[W2.heap.size]? = some (.cells zeroN 38) := heap_alloc_new _ _
  go_upto_region 14 with (first
    | (refine wpList_load_rowN (by rfl) 38 (.tmp 2) rfl g2 rfl 38 _ _ _ rs Tryz.underlying38 rfl (by kernel_rfl) ?_)
    | (refine Go.Great.wpList_allocTo rfl (some 8) rfl (.pointer (some ⟨W2.heap.size, 0, none⟩)) (.cells zeroN 38) (by kernel_rfl) ?_)
    | (refine Go.wpList_store_rowTo rfl 38 (.tmp 8) (.tmp 92) rfl rfl W2.heap.size (rowN okM.hd (.slice qA 1 qc) (.slice aA 1 ac) okM.he okM.ed) rfl rfl 38 _ hz (by kernel_rfl) rfl (by kernel_rfl) ?_; rw [alloc_setRowH W2 zeroN (rowN okM.hd (.slice qA 1 qc) (.slice aA 1 ac) okM.he okM.ed) 38 W2.heap.size rfl])
    | fail)
  obtain ⟨W2c, hW2c⟩ : ∃ W2c, W2c = W2.alloc (.cells (rowN okM.hd (.slice qA 1 qc) (.slice aA 1 ac) okM.he okM.ed) 38) := ⟨_, rfl⟩
  obtain ⟨g8, hgg⟩ : ∃ g8, g8 = W2.heap.size := ⟨_, rfl⟩
  have r8 : W2c.heap[g8]? = some (.cells (rowN okM.hd (.slice qA 1 qc) (.slice aA 1 ac) okM.he okM.ed) 38) := by rw [hW2c, hgg]; exact heap_alloc_new _ _
  have hE8 : Ext W2 W2c := by rw [hW2c]; exact (Ext.refl _).alloc _
  have hg8 : W2.heap.size ≤ g8 := by rw [hgg]; exact Nat.le_refl _
  rw [← hW2c, ← hgg]
  clear rs hz hW2c hgg
  have c8 := box_cell (j := 11) r8 rfl
  have f8 := box_free (j := 11) r8
  have hlt := (Array.getElem?_eq_some_iff.1 r8).1
  go_wp2_with fail
  refine (HX.out _).mono ?_
  rintro e wy ⟨rfl, hy1⟩
  go_wp2_with fail
  refine (HX.out _).mono ?_
  rintro e wz ⟨rfl, hy2⟩
  have hy := hy1.trans hy2
  have rn0 := (hy.block _ hlt).trans r8
  have hne : wz.heap.size ≠ g8 := by have := hy.size; omega
  have hlt' := (Array.getElem?_eq_some_iff.1 rn0).1
  have c8' := box_cell (j := 11) rn0 rfl
  have f8' := box_free (j := 11) rn0
  go_upto_region 15 with fail
  obtain ⟨W3, hN⟩ : ∃ W3, W3 = (wz.setCell ⟨g8, 11, none⟩ (.slice (some ⟨wz.heap.size, 0, none⟩) 2 2)).alloc (.cells #[S [2, 101, 120, 0], .int .u16 1, .int .u16 1, S [2, 101, 120, 0], .int .u16 1, .int .u16 1] 25) := ⟨_, rfl⟩
  obtain ⟨gq8, hgq⟩ : ∃ gq8, gq8 = wz.heap.size := ⟨_, rfl⟩
  rw [show (wz.setCell ⟨g8, 11, none⟩ (.slice (some ⟨wz.heap.size, 0, none⟩) 2 2)).alloc (.cells #[S [2, 101, 120, 0], .int .u16 1, .int .u16 1, S [2, 101, 120, 0], .int .u16 1, .int .u16 1] 25) = W3 from hN.symm]
  have q8r : W3.heap[g8]? = some (.cells (rowN twoM.hd (.slice (some ⟨gq8, 0, none⟩) 2 2) (.slice aA 1 ac) twoM.he twoM.ed) 38) := by rw [hN, hgq]; exact (heap_alloc_old _ _ (by simpa using hlt')).trans (row_set rn0 11 _)
  have q8q : Qus W3 0 (.slice (some ⟨gq8, 0, none⟩) 2 2) twoM.qs := by rw [hN, hgq]; exact qusN_two (q := q24) (r := q24) (heap_newN _ _ _ (by simp))
  have EW2 : Ext W2 W3 := by rw [hN]; exact ((hE8.trans hy).setCell hg8 _).alloc _
  clear hgq hne c8' f8' hlt' rn0 hy1 hy2 hy
  clear hN c8 f8 r8 hg8 hE8 hlt
  have HB8 := Lib.hid (fun V (hV : Ext W3 V) => And.intro ((hV.block _ (Array.getElem?_eq_some_iff.1 q8r).1).trans q8r) (msg7_N (m := twoM) (q8q.ext hV) (HA2.out V ((E0W.trans ((EW0.trans EW1).trans EW2)).trans hV)) rfl rfl rfl (by decide) (by decide)))
  clear q8r q8q
  have rs := (HB2.out W3 ((EW0.trans EW1).trans EW2)).1
  have hz : (W3.alloc (.cells zeroN 38)).heap[W3.heap.size]? = some (.cells zeroN 38) := heap_alloc_new _ _
  go_upto_region 16 with (first
    | (refine wpList_load_rowN (by rfl) 38 (.tmp 2) rfl g2 rfl 38 _ _ _ rs Tryz.underlying38 rfl (by kernel_rfl) ?_)
    | (refine Go.Great.wpList_allocTo rfl (some 9) rfl (.pointer (some ⟨W3.heap.size, 0, none⟩)) (.cells zeroN 38) (by kernel_rfl) ?_)
    | (refine Go.wpList_store_rowTo rfl 38 (.tmp 9) (.tmp 97) rfl rfl W3.heap.size (rowN okM.hd (.slice qA 1 qc) (.slice aA 1 ac) okM.he okM.ed) rfl rfl 38 _ hz (by kernel_rfl) rfl (by kernel_rfl) ?_; rw [alloc_setRowH W3 zeroN (rowN okM.hd (.slice qA 1 qc) (.slice aA 1 ac) okM.he okM.ed) 38 W3.heap.size rfl])
    | fail)
  obtain ⟨W3c, hW3c⟩ : ∃ W3c, W3c = W3.alloc (.cells (rowN okM.hd (.slice qA 1 qc) (.slice aA 1 ac) okM.he okM.ed) 38) := ⟨_, rfl⟩
  obtain ⟨g9, hgg⟩ : ∃ g9, g9 = W3.heap.size := ⟨_, rfl⟩
  have r9 : W3c.heap[g9]? = some (.cells (rowN okM.hd (.slice qA 1 qc) (.slice aA 1 ac) okM.he okM.ed) 38) := by rw [hW3c, hgg]; exact heap_alloc_new _ _
  have hE9 : Ext W3 W3c := by rw [hW3c]; exact (Ext.refl _).alloc _
  have hg9 : W3.heap.size ≤ g9 := by rw [hgg]; exact Nat.le_refl _
  rw [← hW3c, ← hgg]
  clear rs hz hW3c hgg
  have c9 := box_cell (j := 11) r9 rfl
  have f9 := box_free (j := 11) r9
  have hlt := (Array.getElem?_eq_some_iff.1 r9).1
  go_upto_region 17 with fail
  obtain ⟨W4, hN⟩ : ∃ W4, W4 = W3c.setCell ⟨g9, 11, none⟩ (.slice none 0 0) := ⟨_, rfl⟩
  rw [← hN]
  have q9r : W4.heap[g9]? = some (.cells (rowN noneM.hd (.slice none 0 0) (.slice aA 1 ac) noneM.he noneM.ed) 38) := by rw [hN]; exact row_set r9 11 _
  have q9q : Qus W4 0 (.slice none 0 0) noneM.qs := qusN_nil _
  have EW3 : Ext W3 W4 := by rw [hN]; exact hE9.setCell hg9 _
  clear hN c9 f9 r9 hg9 hE9 hlt
  have HB9 := Lib.hid (fun V (hV : Ext W4 V) => And.intro ((hV.block _ (Array.getElem?_eq_some_iff.1 q9r).1).trans q9r) (msg7_N (m := noneM) (q9q.ext hV) (HA2.out V ((E0W.trans (((EW0.trans EW1).trans EW2).trans EW3)).trans hV)) rfl rfl rfl (by decide) (by decide)))
  clear q9r q9q
  have rs := (HB2.out W4 (((EW0.trans EW1).trans EW2).trans EW3)).1
  have hz : (W4.alloc (.cells zeroN 38)).heap[W4.heap.size]? = some (.cells zeroN 38) := heap_alloc_new _ _
  go_upto_region 18 with (first
    | (refine wpList_load_rowN (by rfl) 38 (.tmp 2) rfl g2 rfl 38 _ _ _ rs Tryz.underlying38 rfl (by kernel_rfl) ?_)
    | (refine Go.Great.wpList_allocTo rfl (some 10) rfl (.pointer (some ⟨W4.heap.size, 0, none⟩)) (.cells zeroN 38) (by kernel_rfl) ?_)
    | (refine Go.wpList_store_rowTo rfl 38 (.tmp 10) (.tmp 99) rfl rfl W4.heap.size (rowN okM.hd (.slice qA 1 qc) (.slice aA 1 ac) okM.he okM.ed) rfl rfl 38 _ hz (by kernel_rfl) rfl (by kernel_rfl) ?_; rw [alloc_setRowH W4 zeroN (rowN okM.hd (.slice qA 1 qc) (.slice aA 1 ac) okM.he okM.ed) 38 W4.heap.size rfl])
    | fail)
  obtain ⟨W4c, hW4c⟩ : ∃ W4c, W4c = W4.alloc (.cells (rowN okM.hd (.slice qA 1 qc) (.slice aA 1 ac) okM.he okM.ed) 38) := ⟨_, rfl⟩
  obtain ⟨g10, hgg⟩ : ∃ g10, g10 = W4.heap.size := ⟨_, rfl⟩
  have r10 : W4c.heap[g10]? = some (.cells (rowN okM.hd (.slice qA 1 qc) (.slice aA 1 ac) okM.he okM.ed) 38) := by rw [hW4c, hgg]; exact heap_alloc_new _ _
  have hE10 : Ext W4 W4c := by rw [hW4c]; exact (Ext.refl _).alloc _
  have hg10 : W4.heap.size ≤ g10 := by rw [hgg]; exact Nat.le_refl _
  rw [← hW4c, ← hgg]
  clear rs hz hW4c hgg
  have c10 := box_cell (j := 2) r10 rfl
  have f10 := box_free (j := 2) r10
  go_upto_region 19 with fail
  obtain ⟨W4c', hN⟩ : ∃ W4c', W4c' = W4c.setCell ⟨g10, 2, none⟩ (.int .u8 1) := ⟨_, rfl⟩
  rw [← hN]
  have r10' : W4c'.heap[g10]? = some (.cells ((rowN okM.hd (.slice qA 1 qc) (.slice aA 1 ac) okM.he okM.ed).setIfInBounds 2 (.int .u8 1)) 38) := by rw [hN]; exact row_set r10 2 _
  have hE10' : Ext W4 W4c' := by rw [hN]; exact hE10.setCell hg10 _
  clear hN c10 f10 r10 hE10
  have q10r : W4c'.heap[g10]? = some (.cells (rowN opM.hd (.slice qA 1 qc) (.slice aA 1 ac) opM.he opM.ed) 38) := r10'
  have EW4 : Ext W4 W4c' := hE10'
  obtain ⟨W5, hWn⟩ : ∃ W5 : World, W5 = W4c' := ⟨_, rfl⟩
  rw [← hWn] at q10r EW4 ⊢
  clear hWn r10' hE10' hg10
  have HB10 := Lib.hid (fun V (hV : Ext W5 V) => And.intro ((hV.block _ (Array.getElem?_eq_some_iff.1 q10r).1).trans q10r) (msg7_N (m := opM) (HQ2.out V ((E0W.trans ((((EW0.trans EW1).trans EW2).trans EW3).trans EW4)).trans hV)) (HA2.out V ((E0W.trans ((((EW0.trans EW1).trans EW2).trans EW3).trans EW4)).trans hV)) rfl rfl rfl (by decide) (by decide)))
  clear q10r
  have rs := (HB6.out W5 (((EW1.trans EW2).trans EW3).trans EW4)).1
  have hz : (W5.alloc (.cells zeroN 38)).heap[W5.heap.size]? = some (.cells zeroN 38) := heap_alloc_new _ _
  go_upto_region 20 with (first
    | (refine wpList_load_rowN (by rfl) 38 (.tmp 6) rfl g6 rfl 38 _ _ _ rs Tryz.underlying38 rfl (by kernel_rfl) ?_)
    | (refine Go.Great.wpList_allocTo rfl (some 11) rfl (.pointer (some ⟨W5.heap.size, 0, none⟩)) (.cells zeroN 38) (by kernel_rfl) ?_)
    | (refine Go.wpList_store_rowTo rfl 38 (.tmp 11) (.tmp 102) rfl rfl W5.heap.size (rowN otherM.hd (.slice (some ⟨gq6, 0, none⟩) 1 1) (.slice aA 1 ac) otherM.he otherM.ed) rfl rfl 38 _ hz (by kernel_rfl) rfl (by kernel_rfl) ?_; rw [alloc_setRowH W5 zeroN (rowN otherM.hd (.slice (some ⟨gq6, 0, none⟩) 1 1) (.slice aA 1 ac) otherM.he otherM.ed) 38 W5.heap.size rfl])
    | fail)
  obtain ⟨W5c, hW5c⟩ : ∃ W5c, W5c = W5.alloc (.cells (rowN otherM.hd (.slice (some ⟨gq6, 0, none⟩) 1 1) (.slice aA 1 ac) otherM.he otherM.ed) 38) := ⟨_, rfl⟩
  obtain ⟨g11, hgg⟩ : ∃ g11, g11 = W5.heap.size := ⟨_, rfl⟩
  have r11 : W5c.heap[g11]? = some (.cells (rowN otherM.hd (.slice (some ⟨gq6, 0, none⟩) 1 1) (.slice aA 1 ac) otherM.he otherM.ed) 38) := by rw [hW5c, hgg]; exact heap_alloc_new _ _
  have hE11 : Ext W5 W5c := by rw [hW5c]; exact (Ext.refl _).alloc _
  have hg11 : W5.heap.size ≤ g11 := by rw [hgg]; exact Nat.le_refl _
  rw [← hW5c, ← hgg]
  clear rs hz hW5c hgg
  have c11 := box_cell (j := 4) r11 rfl
  have f11 := box_free (j := 4) r11
  go_upto_region 21 with fail
  obtain ⟨W5c', hN⟩ : ∃ W5c', W5c' = W5c.setCell ⟨g11, 4, none⟩ (.bool true) := ⟨_, rfl⟩
  rw [← hN]
  have r11' : W5c'.heap[g11]? = some (.cells ((rowN otherM.hd (.slice (some ⟨gq6, 0, none⟩) 1 1) (.slice aA 1 ac) otherM.he otherM.ed).setIfInBounds 4 (.bool true)) 38) := by rw [hN]; exact row_set r11 4 _
  have hE11' : Ext W5 W5c' := by rw [hN]; exact hE11.setCell hg11 _
  clear hN c11 f11 r11 hE11
  have q11r : W5c'.heap[g11]? = some (.cells (rowN lateM.hd (.slice (some ⟨gq6, 0, none⟩) 1 1) (.slice aA 1 ac) lateM.he lateM.ed) 38) := r11'
  have EW5 : Ext W5 W5c' := hE11'
  obtain ⟨W6, hWn⟩ : ∃ W6 : World, W6 = W5c' := ⟨_, rfl⟩
  rw [← hWn] at q11r EW5 ⊢
  clear hWn r11' hE11' hg11
  have HB11 := Lib.hid (fun V (hV : Ext W6 V) => And.intro ((hV.block _ (Array.getElem?_eq_some_iff.1 q11r).1).trans q11r) (msg7_N (m := lateM) (HQ6.out V (((((EW1.trans EW2).trans EW3).trans EW4).trans EW5).trans hV)) (HA2.out V ((E0W.trans (((((EW0.trans EW1).trans EW2).trans EW3).trans EW4).trans EW5)).trans hV)) rfl rfl rfl (by decide) (by decide)))
  clear q11r
  have rs := (HB2.out W6 (((((EW0.trans EW1).trans EW2).trans EW3).trans EW4).trans EW5)).1
  have hz : (W6.alloc (.cells zeroN 38)).heap[W6.heap.size]? = some (.cells zeroN 38) := heap_alloc_new _ _
  go_upto_region 22 with (first
    | (refine wpList_load_rowN (by rfl) 38 (.tmp 2) rfl g2 rfl 38 _ _ _ rs Tryz.underlying38 rfl (by kernel_rfl) ?_)
    | (refine Go.Great.wpList_allocTo rfl (some 12) rfl (.pointer (some ⟨W6.heap.size, 0, none⟩)) (.cells zeroN 38) (by kernel_rfl) ?_)
    | (refine Go.wpList_store_rowTo rfl 38 (.tmp 12) (.tmp 105) rfl rfl W6.heap.size (rowN okM.hd (.slice qA 1 qc) (.slice aA 1 ac) okM.he okM.ed) rfl rfl 38 _ hz (by kernel_rfl) rfl (by kernel_rfl) ?_; rw [alloc_setRowH W6 zeroN (rowN okM.hd (.slice qA 1 qc) (.slice aA 1 ac) okM.he okM.ed) 38 W6.heap.size rfl])
    | fail)
  obtain ⟨W6c, hW6c⟩ : ∃ W6c, W6c = W6.alloc (.cells (rowN okM.hd (.slice qA 1 qc) (.slice aA 1 ac) okM.he okM.ed) 38) := ⟨_, rfl⟩
  obtain ⟨g12, hgg⟩ : ∃ g12, g12 = W6.heap.size := ⟨_, rfl⟩
  have r12 : W6c.heap[g12]? = some (.cells (rowN okM.hd (.slice qA 1 qc) (.slice aA 1 ac) okM.he okM.ed) 38) := by rw [hW6c, hgg]; exact heap_alloc_new _ _
  have hE12 : Ext W6 W6c := by rw [hW6c]; exact (Ext.refl _).alloc _
  have hg12 : W6.heap.size ≤ g12 := by rw [hgg]; exact Nat.le_refl _
  rw [← hW6c, ← hgg]
  clear rs hz hW6c hgg
  have c12 := box_cell (j := 4) r12 rfl
  have f12 := box_free (j := 4) r12
  go_upto_region 23 with fail
  obtain ⟨W6c', hN⟩ : ∃ W6c', W6c' = W6c.setCell ⟨g12, 4, none⟩ (.bool true) := ⟨_, rfl⟩
  rw [← hN]
  have r12' : W6c'.heap[g12]? = some (.cells ((rowN okM.hd (.slice qA 1 qc) (.slice aA 1 ac) okM.he okM.ed).setIfInBounds 4 (.bool true)) 38) := by rw [hN]; exact row_set r12 4 _
  have hE12' : Ext W6 W6c' := by rw [hN]; exact hE12.setCell hg12 _
  clear hN c12 f12 r12 hE12
  have c12 := box_cell (j := 10) r12' rfl
  have f12 := box_free (j := 10) r12'
  go_upto_region 24 with fail
  obtain ⟨W6c'', hN⟩ : ∃ W6c'', W6c'' = W6c'.setCell ⟨g12, 10, none⟩ (.int .u8 3) := ⟨_, rfl⟩
  rw [← hN]
  have r12'' : W6c''.heap[g12]? = some (.cells (((rowN okM.hd (.slice qA 1 qc) (.slice aA 1 ac) okM.he okM.ed).setIfInBounds 4 (.bool true)).setIfInBounds 10 (.int .u8 3)) 38) := by rw [hN]; exact row_set r12' 10 _
  have hE12'' : Ext W6 W6c'' := by rw [hN]; exact hE12'.setCell hg12 _
  clear hN c12 f12 r12' hE12'
  have q12r : W6c''.heap[g12]? = some (.cells (rowN cutM.hd (.slice qA 1 qc) (.slice aA 1 ac) cutM.he cutM.ed) 38) := r12''
  have EW6 : Ext W6 W6c'' := hE12''
  obtain ⟨W7, hWn⟩ : ∃ W7 : World, W7 = W6c'' := ⟨_, rfl⟩
  rw [← hWn] at q12r EW6 ⊢
  clear hWn r12'' hE12'' hg12
  have HB12 := Lib.hid (fun V (hV : Ext W7 V) => And.intro ((hV.block _ (Array.getElem?_eq_some_iff.1 q12r).1).trans q12r) (msg7_N (m := cutM) (HQ2.out V ((E0W.trans ((((((EW0.trans EW1).trans EW2).trans EW3).trans EW4).trans EW5).trans EW6)).trans hV)) (HA2.out V ((E0W.trans ((((((EW0.trans EW1).trans EW2).trans EW3).trans EW4).trans EW5).trans EW6)).trans hV)) rfl rfl rfl (by decide) (by decide)))
  clear q12r
  have rs := (HB2.out W7 ((((((EW0.trans EW1).trans EW2).trans EW3).trans EW4).trans EW5).trans EW6)).1
  have hz : (W7.alloc (.cells zeroN 38)).heap[W7.heap.size]? = some (.cells zeroN 38) := heap_alloc_new _ _
  go_upto_region 25 with (first
    | (refine wpList_load_rowN (by rfl) 38 (.tmp 2) rfl g2 rfl 38 _ _ _ rs Tryz.underlying38 rfl (by kernel_rfl) ?_)
    | (refine Go.Great.wpList_allocTo rfl (some 13) rfl (.pointer (some ⟨W7.heap.size, 0, none⟩)) (.cells zeroN 38) (by kernel_rfl) ?_)
    | (refine Go.wpList_store_rowTo rfl 38 (.tmp 13) (.tmp 110) rfl rfl W7.heap.size (rowN okM.hd (.slice qA 1 qc) (.slice aA 1 ac) okM.he okM.ed) rfl rfl 38 _ hz (by kernel_rfl) rfl (by kernel_rfl) ?_; rw [alloc_setRowH W7 zeroN (rowN okM.hd (.slice qA 1 qc) (.slice aA 1 ac) okM.he okM.ed) 38 W7.heap.size rfl])
    | fail)
  obtain ⟨W7c, hW7c⟩ : ∃ W7c, W7c = W7.alloc (.cells (rowN okM.hd (.slice qA 1 qc) (.slice aA 1 ac) okM.he okM.ed) 38) := ⟨_, rfl⟩
  obtain ⟨g13, hgg⟩ : ∃ g13, g13 = W7.heap.size := ⟨_, rfl⟩
  have r13 : W7c.heap[g13]? = some (.cells (rowN okM.hd (.slice qA 1 qc) (.slice aA 1 ac) okM.he okM.ed) 38) := by rw [hW7c, hgg]; exact heap_alloc_new _ _
  have hE13 : Ext W7 W7c := by rw [hW7c]; exact (Ext.refl _).alloc _
  have hg13 : W7.heap.size ≤ g13 := by rw [hgg]; exact Nat.le_refl _
  rw [← hW7c, ← hgg]
  clear rs hz hW7c hgg
  have c13 := box_cell (j := 10) r13 rfl
  have f13 := box_free (j := 10) r13
  go_upto_region 26 with fail
  obtain ⟨W7c', hN⟩ : ∃ W7c', W7c' = W7c.setCell ⟨g13, 10, none⟩ (.int .u8 3) := ⟨_, rfl⟩
  rw [← hN]
  have r13' : W7c'.heap[g13]? = some (.cells ((rowN okM.hd (.slice qA 1 qc) (.slice aA 1 ac) okM.he okM.ed).setIfInBounds 10 (.int .u8 3)) 38) := by rw [hN]; exact row_set r13 10 _
  have hE13' : Ext W7 W7c' := by rw [hN]; exact hE13.setCell hg13 _
  clear hN c13 f13 r13 hE13
  have q13r : W7c'.heap[g13]? = some (.cells (rowN badM.hd (.slice qA 1 qc) (.slice aA 1 ac) badM.he badM.ed) 38) := r13'
  have EW7 : Ext W7 W7c' := hE13'
  obtain ⟨W8, hWn⟩ : ∃ W8 : World, W8 = W7c' := ⟨_, rfl⟩
  rw [← hWn] at q13r EW7 ⊢
  clear hWn r13' hE13' hg13
  have HB13 := Lib.hid (fun V (hV : Ext W8 V) => And.intro ((hV.block _ (Array.getElem?_eq_some_iff.1 q13r).1).trans q13r) (msg7_N (m := badM) (HQ2.out V ((E0W.trans (((((((EW0.trans EW1).trans EW2).trans EW3).trans EW4).trans EW5).trans EW6).trans EW7)).trans hV)) (HA2.out V ((E0W.trans (((((((EW0.trans EW1).trans EW2).trans EW3).trans EW4).trans EW5).trans EW6).trans EW7)).trans hV)) rfl rfl rfl (by decide) (by decide)))
  clear q13r
  have rs := (HB2.out W8 (((((((EW0.trans EW1).trans EW2).trans EW3).trans EW4).trans EW5).trans EW6).trans EW7)).1
  have hz : (W8.alloc (.cells zeroN 38)).heap[W8.heap.size]? = some (.cells zeroN 38) := heap_alloc_new _ _
  go_upto_region 27 with (first
    | (refine wpList_load_rowN (by rfl) 38 (.tmp 2) rfl g2 rfl 38 _ _ _ rs Tryz.underlying38 rfl (by kernel_rfl) ?_)
    | (refine Go.Great.wpList_allocTo rfl (some 14) rfl (.pointer (some ⟨W8.heap.size, 0, none⟩)) (.cells zeroN 38) (by kernel_rfl) ?_)
    | (refine Go.wpList_store_rowTo rfl 38 (.tmp 14) (.tmp 113) rfl rfl W8.heap.size (rowN okM.hd (.slice qA 1 qc) (.slice aA 1 ac) okM.he okM.ed) rfl rfl 38 _ hz (by kernel_rfl) rfl (by kernel_rfl) ?_; rw [alloc_setRowH W8 zeroN (rowN okM.hd (.slice qA 1 qc) (.slice aA 1 ac) okM.he okM.ed) 38 W8.heap.size rfl])
    | fail)
  obtain ⟨W8c, hW8c⟩ : ∃ W8c, W8c = W8.alloc (.cells (rowN okM.hd (.slice qA 1 qc) (.slice aA 1 ac) okM.he okM.ed) 38) := ⟨_, rfl⟩
  obtain ⟨g14, hgg⟩ : ∃ g14, g14 = W8.heap.size := ⟨_, rfl⟩
  have r14 : W8c.heap[g14]? = some (.cells (rowN okM.hd (.slice qA 1 qc) (.slice aA 1 ac) okM.he okM.ed) 38) := by rw [hW8c, hgg]; exact heap_alloc_new _ _
  have hE14 : Ext W8 W8c := by rw [hW8c]; exact (Ext.refl _).alloc _
  have hg14 : W8.heap.size ≤ g14 := by rw [hgg]; exact Nat.le_refl _
  rw [← hW8c, ← hgg]
  clear rs hz hW8c hgg
  have c14 := box_cell (j := 15) r14 rfl
  have f14 := box_free (j := 15) r14
  go_upto_region 28 with fail
  obtain ⟨W8c', hN⟩ : ∃ W8c', W8c' = W8c.setCell ⟨g14, 15, none⟩ (.bool true) := ⟨_, rfl⟩
  rw [← hN]
  have r14' : W8c'.heap[g14]? = some (.cells ((rowN okM.hd (.slice qA 1 qc) (.slice aA 1 ac) okM.he okM.ed).setIfInBounds 15 (.bool true)) 38) := by rw [hN]; exact row_set r14 15 _
  have hE14' : Ext W8 W8c' := by rw [hN]; exact hE14.setCell hg14 _
  clear hN c14 f14 r14 hE14
  have c14 := box_cell (j := 17) r14' rfl
  have f14 := box_free (j := 17) r14'
  go_upto_region 29 with fail
  obtain ⟨W8c'', hN⟩ : ∃ W8c'', W8c'' = W8c'.setCell ⟨g14, 17, none⟩ (.int .u8 1) := ⟨_, rfl⟩
  rw [← hN]
  have r14'' : W8c''.heap[g14]? = some (.cells (((rowN okM.hd (.slice qA 1 qc) (.slice aA 1 ac) okM.he okM.ed).setIfInBounds 15 (.bool true)).setIfInBounds 17 (.int .u8 1)) 38) := by rw [hN]; exact row_set r14' 17 _
  have hE14'' : Ext W8 W8c'' := by rw [hN]; exact hE14'.setCell hg14 _
  clear hN c14 f14 r14' hE14'
  have q14r : W8c''.heap[g14]? = some (.cells (rowN versM.hd (.slice qA 1 qc) (.slice aA 1 ac) versM.he versM.ed) 38) := r14''
  have EW8 : Ext W8 W8c'' := hE14''
  obtain ⟨W9, hWn⟩ : ∃ W9 : World, W9 = W8c'' := ⟨_, rfl⟩
  rw [← hWn] at q14r EW8 ⊢
  clear hWn r14'' hE14'' hg14
  have HB14 := Lib.hid (fun V (hV : Ext W9 V) => And.intro ((hV.block _ (Array.getElem?_eq_some_iff.1 q14r).1).trans q14r) (msg7_N (m := versM) (HQ2.out V ((E0W.trans ((((((((EW0.trans EW1).trans EW2).trans EW3).trans EW4).trans EW5).trans EW6).trans EW7).trans EW8)).trans hV)) (HA2.out V ((E0W.trans ((((((((EW0.trans EW1).trans EW2).trans EW3).trans EW4).trans EW5).trans EW6).trans EW7).trans EW8)).trans hV)) rfl rfl rfl (by decide) (by decide)))
  clear q14r
  go_upto_region 29 with fail
  go_cut [15] (fun sN wx => ∃ g gq : Nat, sN = .pointer (some ⟨g, 0, none⟩) ∧ wx.heap[g]? = some (.cells (rowN goneM.hd (.slice (some ⟨gq, 0, none⟩) 1 1) (.slice none 0 0) goneM.he goneM.ed) 38) ∧ Qus wx 0 (.slice (some ⟨gq, 0, none⟩) 1 1) goneM.qs ∧ Ext W9 wx)
  case first =>
    as_aux_lemma =>
    go_wp2_with fail
    refine (HX.out _).mono ?_
    rintro e wy ⟨rfl, hy⟩
    have hz : ((wy.alloc (.cells #[S [2, 101, 120, 0], .int .u16 1, .int .u16 1] 25)).alloc (.cells zeroN 38)).heap[(wy.alloc (.cells #[S [2, 101, 120, 0], .int .u16 1, .int .u16 1] 25)).heap.size]? = some (.cells zeroN 38) := heap_alloc_new _ _
    go_wp2_with (first
      | (refine wpList_buildN rfl 38 _ rfl [(0, .agg #[.int .u16 0, .bool true, .int .u8 0, .bool false, .bool false, .bool false, .bool false, .bool false, .bool false, .bool false, .int .u8 3]), (1, .slice (some ⟨wy.heap.size, 0, none⟩) 1 1)] (by simp only [List.map_toArray, List.map_cons, List.map_nil]; rfl) (rowN goneM.hd (.slice (some ⟨wy.heap.size, 0, none⟩) 1 1) (.slice none 0 0) goneM.he goneM.ed) (built_gone _ _) (some 120) rfl ?_)
      | (refine Go.Great.wpList_allocTo rfl (some 15) rfl (.pointer (some ⟨(wy.alloc (.cells #[S [2, 101, 120, 0], .int .u16 1, .int .u16 1] 25)).heap.size, 0, none⟩)) (.cells zeroN 38) (by kernel_rfl) ?_)
      | (refine Go.wpList_store_rowTo rfl 38 (.tmp 15) (.tmp 120) rfl rfl (wy.alloc (.cells #[S [2, 101, 120, 0], .int .u16 1, .int .u16 1] 25)).heap.size (rowN goneM.hd (.slice (some ⟨wy.heap.size, 0, none⟩) 1 1) (.slice none 0 0) goneM.he goneM.ed) rfl rfl 38 _ hz (by kernel_rfl) rfl (by kernel_rfl) ?_; rw [alloc_setRowH (wy.alloc (.cells #[S [2, 101, 120, 0], .int .u16 1, .int .u16 1] 25)) zeroN (rowN goneM.hd (.slice (some ⟨wy.heap.size, 0, none⟩) 1 1) (.slice none 0 0) goneM.he goneM.ed) 38 (wy.alloc (.cells #[S [2, 101, 120, 0], .int .u16 1, .int .u16 1] 25)).heap.size rfl])
      | fail)
    go_meet
    exact ⟨_, wy.heap.size, rfl, heap_alloc_new _ _, (qus_row7 (q := q24) (heap_alloc_new wy _)).ext ((Ext.refl _).alloc _), (hy.alloc _).alloc _⟩
  case rest =>
  obtain ⟨g15, gq15, rfl, r15, hq15, EW9⟩ := hcut
  obtain ⟨W10, rfl⟩ : ∃ W10 : World, W10 = wc := ⟨_, rfl⟩
  have HB15 := Lib.hid (fun V (hV : Ext W10 V) => And.intro ((hV.block _ (Array.getElem?_eq_some_iff.1 r15).1).trans r15) (msg7_N (m := goneM) (hq15.ext hV) (recsN_nil V) rfl rfl rfl (by decide) (by decide)))
  clear r15 hq15
  have hw10 : Ext w W10 := hwW.trans (((((((((EW0.trans EW1).trans EW2).trans EW3).trans EW4).trans EW5).trans EW6).trans EW7).trans EW8).trans EW9)
  have HK6 := Lib.hid (fun V (hV : Ext W10 V) => (show Calls Tryz.prog 22 #[.agg (rowN otherM.hd (.slice (some ⟨gq6, 0, none⟩) 1 1) (.slice aA 1 ac) otherM.he otherM.ed)] V (fun e w' => e = .returned (.int .u8 1) ∧ Ext V w') from by
    have h := HKd.out otherM _ _ V (hw10.trans hV) (by simp [all24]) (HB6.out V (((((((((EW1.trans EW2).trans EW3).trans EW4).trans EW5).trans EW6).trans EW7).trans EW8).trans EW9).trans hV)).2
    rw [k_other] at h
    exact h))
  have HR6 := Lib.hid (fun V (hV : Ext W10 V) => (HB6.out V (((((((((EW1.trans EW2).trans EW3).trans EW4).trans EW5).trans EW6).trans EW7).trans EW8).trans EW9).trans hV)).1)
  have HK7 := Lib.hid (fun V (hV : Ext W10 V) => (show Calls Tryz.prog 22 #[.agg (rowN kindsM.hd (.slice (some ⟨gq7, 0, none⟩) 1 1) (.slice aA 1 ac) kindsM.he kindsM.ed)] V (fun e w' => e = .returned (.int .u8 1) ∧ Ext V w') from by
    have h := HKd.out kindsM _ _ V (hw10.trans hV) (by simp [all24]) (HB7.out V ((((((((EW2.trans EW3).trans EW4).trans EW5).trans EW6).trans EW7).trans EW8).trans EW9).trans hV)).2
    rw [k_kinds] at h
    exact h))
  have HR7 := Lib.hid (fun V (hV : Ext W10 V) => (HB7.out V ((((((((EW2.trans EW3).trans EW4).trans EW5).trans EW6).trans EW7).trans EW8).trans EW9).trans hV)).1)
  have HK8 := Lib.hid (fun V (hV : Ext W10 V) => (show Calls Tryz.prog 22 #[.agg (rowN twoM.hd (.slice (some ⟨gq8, 0, none⟩) 2 2) (.slice aA 1 ac) twoM.he twoM.ed)] V (fun e w' => e = .returned (.int .u8 1) ∧ Ext V w') from by
    have h := HKd.out twoM _ _ V (hw10.trans hV) (by simp [all24]) (HB8.out V (((((((EW3.trans EW4).trans EW5).trans EW6).trans EW7).trans EW8).trans EW9).trans hV)).2
    rw [k_two] at h
    exact h))
  have HR8 := Lib.hid (fun V (hV : Ext W10 V) => (HB8.out V (((((((EW3.trans EW4).trans EW5).trans EW6).trans EW7).trans EW8).trans EW9).trans hV)).1)
  have HK9 := Lib.hid (fun V (hV : Ext W10 V) => (show Calls Tryz.prog 22 #[.agg (rowN noneM.hd (.slice none 0 0) (.slice aA 1 ac) noneM.he noneM.ed)] V (fun e w' => e = .returned (.int .u8 1) ∧ Ext V w') from by
    have h := HKd.out noneM _ _ V (hw10.trans hV) (by simp [all24]) (HB9.out V ((((((EW4.trans EW5).trans EW6).trans EW7).trans EW8).trans EW9).trans hV)).2
    rw [k_none] at h
    exact h))
  have HR9 := Lib.hid (fun V (hV : Ext W10 V) => (HB9.out V ((((((EW4.trans EW5).trans EW6).trans EW7).trans EW8).trans EW9).trans hV)).1)
  have HK10 := Lib.hid (fun V (hV : Ext W10 V) => (show Calls Tryz.prog 22 #[.agg (rowN opM.hd (.slice qA 1 qc) (.slice aA 1 ac) opM.he opM.ed)] V (fun e w' => e = .returned (.int .u8 1) ∧ Ext V w') from by
    have h := HKd.out opM _ _ V (hw10.trans hV) (by simp [all24]) (HB10.out V (((((EW5.trans EW6).trans EW7).trans EW8).trans EW9).trans hV)).2
    rw [k_op] at h
    exact h))
  have HR10 := Lib.hid (fun V (hV : Ext W10 V) => (HB10.out V (((((EW5.trans EW6).trans EW7).trans EW8).trans EW9).trans hV)).1)
  have HK11 := Lib.hid (fun V (hV : Ext W10 V) => (show Calls Tryz.prog 22 #[.agg (rowN lateM.hd (.slice (some ⟨gq6, 0, none⟩) 1 1) (.slice aA 1 ac) lateM.he lateM.ed)] V (fun e w' => e = .returned (.int .u8 1) ∧ Ext V w') from by
    have h := HKd.out lateM _ _ V (hw10.trans hV) (by simp [all24]) (HB11.out V ((((EW6.trans EW7).trans EW8).trans EW9).trans hV)).2
    rw [k_late] at h
    exact h))
  have HR11 := Lib.hid (fun V (hV : Ext W10 V) => (HB11.out V ((((EW6.trans EW7).trans EW8).trans EW9).trans hV)).1)
  have HK12 := Lib.hid (fun V (hV : Ext W10 V) => (show Calls Tryz.prog 22 #[.agg (rowN cutM.hd (.slice qA 1 qc) (.slice aA 1 ac) cutM.he cutM.ed)] V (fun e w' => e = .returned (.int .u8 2) ∧ Ext V w') from by
    have h := HKd.out cutM _ _ V (hw10.trans hV) (by simp [all24]) (HB12.out V (((EW7.trans EW8).trans EW9).trans hV)).2
    rw [k_cut] at h
    exact h))
  have HR12 := Lib.hid (fun V (hV : Ext W10 V) => (HB12.out V (((EW7.trans EW8).trans EW9).trans hV)).1)
  have HK13 := Lib.hid (fun V (hV : Ext W10 V) => (show Calls Tryz.prog 22 #[.agg (rowN badM.hd (.slice qA 1 qc) (.slice aA 1 ac) badM.he badM.ed)] V (fun e w' => e = .returned (.int .u8 1) ∧ Ext V w') from by
    have h := HKd.out badM _ _ V (hw10.trans hV) (by simp [all24]) (HB13.out V ((EW8.trans EW9).trans hV)).2
    rw [k_bad] at h
    exact h))
  have HR13 := Lib.hid (fun V (hV : Ext W10 V) => (HB13.out V ((EW8.trans EW9).trans hV)).1)
  have HK14 := Lib.hid (fun V (hV : Ext W10 V) => (show Calls Tryz.prog 22 #[.agg (rowN versM.hd (.slice qA 1 qc) (.slice aA 1 ac) versM.he versM.ed)] V (fun e w' => e = .returned (.int .u8 2) ∧ Ext V w') from by
    have h := HKd.out versM _ _ V (hw10.trans hV) (by simp [all24]) (HB14.out V (EW9.trans hV)).2
    rw [k_vers] at h
    exact h))
  have HR14 := Lib.hid (fun V (hV : Ext W10 V) => (HB14.out V (EW9.trans hV)).1)
  have HK15 := Lib.hid (fun V (hV : Ext W10 V) => (show Calls Tryz.prog 22 #[.agg (rowN goneM.hd (.slice (some ⟨gq15, 0, none⟩) 1 1) (.slice none 0 0) goneM.he goneM.ed)] V (fun e w' => e = .returned (.int .u8 3) ∧ Ext V w') from by
    have h := HKd.out goneM _ _ V (hw10.trans hV) (by simp [all24]) (HB15.out V ((Ext.refl W10).trans hV)).2
    rw [k_gone] at h
    exact h))
  have HR15 := Lib.hid (fun V (hV : Ext W10 V) => (HB15.out V ((Ext.refl W10).trans hV)).1)
  clear HB6 HB7 HB8 HB9 HB10 HB11 HB12 HB13 HB14 HB15 HKd
  go_upto_region 30 with fail
  go_cut [168] (fun s wx => s = .bool false ∧ Ext W10 wx)
  case first =>
    as_aux_lemma =>
    have hcur := Ext.refl W10
    have rk := HR6.out _ hcur
    go_wp2_with (first | (refine wpList_load_rowN (by rfl) 38 (.tmp 6) rfl g6 rfl 38 _ _ _ rk Tryz.underlying38 rfl (by kernel_rfl) ?_) | fail)
    refine (HK6.out _ hcur).mono ?_
    rintro e wk6 ⟨rfl, hx⟩
    replace hcur := hcur.trans hx
    clear hx rk
    have rk := HR7.out _ hcur
    go_wp2_with (first | (refine wpList_load_rowN (by rfl) 38 (.tmp 7) rfl g7 rfl 38 _ _ _ rk Tryz.underlying38 rfl (by kernel_rfl) ?_) | fail)
    refine (HK7.out _ hcur).mono ?_
    rintro e wk7 ⟨rfl, hx⟩
    replace hcur := hcur.trans hx
    clear hx rk
    have rk := HR8.out _ hcur
    go_wp2_with (first | (refine wpList_load_rowN (by rfl) 38 (.tmp 8) rfl g8 rfl 38 _ _ _ rk Tryz.underlying38 rfl (by kernel_rfl) ?_) | fail)
    refine (HK8.out _ hcur).mono ?_
    rintro e wk8 ⟨rfl, hx⟩
    replace hcur := hcur.trans hx
    clear hx rk
    have rk := HR9.out _ hcur
    go_wp2_with (first | (refine wpList_load_rowN (by rfl) 38 (.tmp 9) rfl g9 rfl 38 _ _ _ rk Tryz.underlying38 rfl (by kernel_rfl) ?_) | fail)
    refine (HK9.out _ hcur).mono ?_
    rintro e wk9 ⟨rfl, hx⟩
    replace hcur := hcur.trans hx
    clear hx rk
    have rk := HR10.out _ hcur
    go_wp2_with (first | (refine wpList_load_rowN (by rfl) 38 (.tmp 10) rfl g10 rfl 38 _ _ _ rk Tryz.underlying38 rfl (by kernel_rfl) ?_) | fail)
    refine (HK10.out _ hcur).mono ?_
    rintro e wk10 ⟨rfl, hx⟩
    replace hcur := hcur.trans hx
    clear hx rk
    have rk := HR11.out _ hcur
    go_wp2_with (first | (refine wpList_load_rowN (by rfl) 38 (.tmp 11) rfl g11 rfl 38 _ _ _ rk Tryz.underlying38 rfl (by kernel_rfl) ?_) | fail)
    refine (HK11.out _ hcur).mono ?_
    rintro e wk11 ⟨rfl, hx⟩
    replace hcur := hcur.trans hx
    clear hx rk
    have rk := HR12.out _ hcur
    go_wp2_with (first | (refine wpList_load_rowN (by rfl) 38 (.tmp 12) rfl g12 rfl 38 _ _ _ rk Tryz.underlying38 rfl (by kernel_rfl) ?_) | fail)
    refine (HK12.out _ hcur).mono ?_
    rintro e wk12 ⟨rfl, hx⟩
    replace hcur := hcur.trans hx
    clear hx rk
    have rk := HR13.out _ hcur
    go_wp2_with (first | (refine wpList_load_rowN (by rfl) 38 (.tmp 13) rfl g13 rfl 38 _ _ _ rk Tryz.underlying38 rfl (by kernel_rfl) ?_) | fail)
    refine (HK13.out _ hcur).mono ?_
    rintro e wk13 ⟨rfl, hx⟩
    replace hcur := hcur.trans hx
    clear hx rk
    have rk := HR14.out _ hcur
    go_wp2_with (first | (refine wpList_load_rowN (by rfl) 38 (.tmp 14) rfl g14 rfl 38 _ _ _ rk Tryz.underlying38 rfl (by kernel_rfl) ?_) | fail)
    refine (HK14.out _ hcur).mono ?_
    rintro e wk14 ⟨rfl, hx⟩
    replace hcur := hcur.trans hx
    clear hx rk
    have rk := HR15.out _ hcur
    go_wp2_with (first | (refine wpList_load_rowN (by rfl) 38 (.tmp 15) rfl g15 rfl 38 _ _ _ rk Tryz.underlying38 rfl (by kernel_rfl) ?_) | fail)
    refine (HK15.out _ hcur).mono ?_
    rintro e wk15 ⟨rfl, hx⟩
    replace hcur := hcur.trans hx
    clear hx rk
    go_wp2_with fail
    go_meet
    exact ⟨rfl, hcur⟩
  case rest =>
  obtain ⟨rfl, hE30⟩ := hcut
  obtain ⟨Y, rfl⟩ : ∃ Y : World, Y = wc := ⟨_, rfl⟩
  have hwY := hw10.trans hE30
  clear HK6 HR6 HK7 HR7 HK8 HR8 HK9 HR9 HK10 HR10 HK11 HR11 HK12 HR12 HK13 HR13 HK14 HR14 HK15 HR15
  have hcap : ¬ (9223372036854775807 : Nat) < s24.length + 1 := by have := s24_enc.2; omega
  have HLe := HL.out [] ex24
  have HLm := HL.out (s24 ++ [97]) ex24
  have HLn := HL.out s24 [101, 120]
  have HLf := HL.out s24 [2, 69, 120, 0]
  rw [l_empty] at HLe
  rw [l_more] at HLm
  rw [l_name] at HLn
  rw [l_fold] at HLf
  have HE1 := Lib.hid (fun V (hV : Ext Y V) => HLe V (hwY.trans hV) (by simp) (by decide))
  have HM1 := Lib.hid (fun V (hV : Ext Y V) => HLm V (hwY.trans hV) (by have := s24_enc.2; simp; omega) (by decide))
  have HN1 := Lib.hid (fun V (hV : Ext Y V) => HLn V (hwY.trans hV) (by have := s24_enc.2; omega) (by decide))
  have HF1 := Lib.hid (fun V (hV : Ext Y V) => HLf V (hwY.trans hV) (by have := s24_enc.2; omega) (by decide))
  clear HLe HLm HLn HLf HL
  go_upto_region 32 with fail
  go_cut [194] (fun s wx => s = .bool false ∧ Ext Y wx)
  case first =>
    have hcur := Ext.refl Y
    go_wp2_with fail
    refine (HX.out _).mono ?_
    rintro e y1 ⟨rfl, hx⟩
    replace hcur := hcur.trans hx
    clear hx
    go_wp2_with fail
    refine (HE1.out _ hcur).mono ?_
    rintro e y2 ⟨vs, vo, rfl, _, _, _, hx⟩
    replace hcur := hcur.trans hx
    clear hx
    go_wp2_with fail
    refine (HX.out _).mono ?_
    rintro e y3 ⟨rfl, hx⟩
    replace hcur := hcur.trans hx
    clear hx
    go_wp2_with fail
    refine (HM1.out _ hcur).mono ?_
    rintro e y4 ⟨vs, vo, rfl, _, _, _, hx⟩
    replace hcur := hcur.trans hx
    clear hx
    go_wp2_with fail
    refine (HN1.out _ hcur).mono ?_
    rintro e y5 ⟨vs, vo, rfl, _, _, _, hx⟩
    replace hcur := hcur.trans hx
    clear hx
    go_wp2_with fail
    refine (HF1.out _ hcur).mono ?_
    rintro e y6 ⟨vs, vo, rfl, _, _, _, hx⟩
    replace hcur := hcur.trans hx
    clear hx
    go_wp2_with fail
    go_meet
    exact ⟨rfl, hcur⟩
  case rest =>
  obtain ⟨rfl, hE32⟩ := hcut
  obtain ⟨Z, rfl⟩ : ∃ Z : World, Z = wc := ⟨_, rfl⟩
  have hwZ := hwY.trans hE32
  clear HE1 HM1 HN1 HF1
  have HQa := HQ.out ex24 1 1 0 (-1)
  have HQb := HQ.out ex24 1 1 0 65536
  have HQc := HQ.out ex24 1 1 65535 65535
  have HQd := HQ.out [] 0 0 0 0
  rw [e_a] at HQa
  rw [e_b] at HQb
  rw [e_c] at HQc
  rw [e_d] at HQd
  have HA1 := Lib.hid (fun V (hV : Ext w V) => HQa V hV (by decide) (by decide) (by decide) (by decide))
  have HB1 := Lib.hid (fun V (hV : Ext w V) => HQb V hV (by decide) (by decide) (by decide) (by decide))
  have HC1 := Lib.hid (fun V (hV : Ext w V) => HQc V hV (by decide) (by decide) (by decide) (by decide))
  have HD1 := Lib.hid (fun V (hV : Ext w V) => HQd V hV (by decide) (by decide) (by decide) (by decide))
  clear HQa HQb HQc HQd HQ
  have hcur := hwZ
  go_wp2_with fail
  refine (HX.out _).mono ?_
  rintro e z0a ⟨rfl, hx⟩
  replace hcur := hcur.trans hx
  clear hx
  go_wp2_with fail
  refine (HA1.out _ hcur).mono ?_
  rintro e z0b ⟨rfl, hx⟩
  replace hcur := hcur.trans hx
  clear hx
  go_wp2_with fail
  refine (HX.out _).mono ?_
  rintro e z1a ⟨rfl, hx⟩
  replace hcur := hcur.trans hx
  clear hx
  go_wp2_with fail
  refine (HB1.out _ hcur).mono ?_
  rintro e z1b ⟨rfl, hx⟩
  replace hcur := hcur.trans hx
  clear hx
  go_wp2_with fail
  refine (HX.out _).mono ?_
  rintro e z2a ⟨rfl, hx⟩
  replace hcur := hcur.trans hx
  clear hx
  go_wp2_with fail
  refine (HC1.out _ hcur).mono ?_
  rintro e z2b ⟨rfl, hx⟩
  replace hcur := hcur.trans hx
  clear hx
  go_wp2_with fail
  refine (HD1.out _ hcur).mono ?_
  rintro e z9 ⟨rfl, hx⟩
  replace hcur := hcur.trans hx
  clear hx
  go_wp2_with fail
  go_ret
  exact ⟨rfl, hcur⟩
end Go.Proofs.YtcpikbanghoflaaGreatDoor
namespace Go.Proofs.YtcpikbanghoflaaGreatDoor
set_option linter.unusedSimpArgs false
set_option linter.unusedVariables false
open Go.ChangeShapes Go.WideShapes Go.ChangeAt Go.RowKit
set_option maxRecDepth 100000
theorem heardNames_contract (H : Type) (enc : TypeId × Value → H) (W : World) (base : Nat) (args : Array Value) (ds gs : List (DataW H)) (before : List MemPlace)
    (hval : ∀ (j : Nat) t v, Tryz.f5.params[j]? = some t → args[j]? = some v → Value.okWide Tryz.prog W .any base t v)
    (hW : DataW.Whole enc Tryz.prog Tryz.f5.params.toList Rows.heardNamesSpec.vars false W args.toList ds gs before)
    (hsz : (DataW.weightsEach Tryz.prog (Tryz.f5.params.toList ++ (OpenSpec.ofChange Rows.heardNamesSpec).bare.plain.varTypes Tryz.prog) (ds ++ gs)).all (· ≤ reachBytes) = true)
    (hL : laidMetH Tryz.prog laidL W) :
    Calls Tryz.prog 5 args W fun e W' => ∃ v, e = .returned v ∧ Rows.heardNamesSpec.post enc Tryz.prog Tryz.f5 false true false false W args v W' := by
  have hW' := hW
  have hp : ∀ t ∈ Tryz.f5.params.toList, Tryz.prog.readableRec t = true ∧ t < Tryz.prog.types.size := by
    have h : (Tryz.f5.params.toList.all fun t => Tryz.prog.readableRec t && decide (t < Tryz.prog.types.size)) = true := by kernel_rfl
    simpa only [List.all_eq_true, Bool.and_eq_true, decide_eq_true_eq] using h
  have hg := laid_of hL
  have hb := laidbits_of hL
  obtain ⟨p, q, hA0, hV, rfl, _, _⟩ := hW
  have hA : DataW.TrodAll enc Tryz.prog W 0 (fun _ => true) true Tryz.f5.params.toList args.toList ds p := hA0
  clear hA0
  rw [Tryz.params5] at hA hval hsz
  obtain ⟨rfl, rfl⟩ := trodVars_none hV
  obtain ⟨ea, eb, he⟩ := errs_of hL
  obtain ⟨rfl, rfl, rfl⟩ := trodAll_none hA
  refine (law24_names ea eb W hg hb he).mono ?_
  rintro e W' ⟨rfl, hE⟩
  exact ⟨_, rfl, post_true laid_out rfl (by kernel_rfl) Tryz.underlying4 hp hW' rfl hE⟩

theorem heardNames_reads (os : Os) {H : Type} (enc : TypeId × Value → H) : ∃ places, DataW.whole enc Tryz.prog ((laidWorld os).forCall (fun _ _ => 0) ⟨#[], #[], []⟩).memory Tryz.f5.params.toList Rows.heardNamesSpec.vars false (#[] : Array Value).toList 8 = some ([], [], places) :=
  ⟨[], by kernel_rfl⟩
theorem heardNames_lifted (os : Os) (started : os.Started) (H : Type) (enc : TypeId × Value → H) (F : Stop.Interp) :
    ReturnsInHanded {} Tryz.checked os 5 .any ((OpenSpec.ofChange Rows.heardNamesSpec).preRow enc Tryz.prog Tryz.f5 Rows.heardNamesRow.domain false Rows.heardNamesRow.laid) (((OpenSpec.ofChange Rows.heardNamesSpec).at F).post enc Tryz.prog Tryz.f5 false true false false) := by
  obtain ⟨places, hx⟩ := heardNames_reads os enc
  refine returnsInHanded_of_row (C := Tryz.checked) (s := OpenSpec.ofChange Rows.heardNamesSpec) own_knob started (by kernel_rfl) Tryz.func5
    (witness_row_at (enc := enc) (C := Tryz.checked) false (laidWorld os) #[] rfl (by kernel_rfl) (by kernel_rfl) (by kernel_rfl)
      (OpenSpec.preRow_of_cond 8 hx (by kernel_rfl) (fun k hk => by cases hk) (by kernel_rfl) (laid_met os _))) ?_
  intro W base args ds gs before hval hW _ _ hsz hL _ _
  exact heardNames_contract H enc W base args ds gs before hval hW hsz hL
theorem band_card (a b : Bool) (h1 : a = true) (h2 : b = true) : (a && b) = true := by rw [h1, h2]; rfl
set_option maxHeartbeats 4000000 in
theorem heardNames_joined : joinedFacts Tryz.prog 5 Tryz.f5 (OpenSpec.ofChange Rows.heardNamesSpec).bare Rows.heardNamesRow = true := by
  unfold joinedFacts; repeat' (with_reducible refine band_card _ _ ?_ ?_)
  all_goals (as_aux_lemma => kernel_rfl)
set_option maxHeartbeats 4000000 in
theorem heardNames_said : Rows.HeardNamesSaid :=
  OpenClaim.holds_of_cond 5 Tryz.f5 rfl rfl rfl rfl rfl rfl rfl ⟨rfl, rfl, rfl, rfl, rfl⟩ rfl rfl rfl rfl rfl (by kernel_rfl) Tryz.func5 heardNames_joined
    (of_decide_eq_true (by kernel_rfl)) (by unfold Func.isWrapper; first | (rw [if_pos (by decide +kernel)]; kernel_rfl) | (rw [if_neg (by decide +kernel)]; exact ⟨rfl, rfl⟩))
    (fun os started H enc _ F => by rw [OpenClaim.pre_eq_preRow]; exact heardNames_lifted os started H enc F)
theorem heardNames_card : Rows.HeardNamesCardSaid :=
  Claim7.holds_tied_plain_at .later [] _ _ _ _ heardNames_said (fun _ h => by cases h) (by as_aux_lemma => kernel_rfl) (fun _ h => by cases h) heardNames_row_tie rfl ⟨rfl, rfl⟩ (by as_aux_lemma => kernel_rfl) rfl
    (fun f fn hf hfn => by
      obtain rfl : f = 5 := Option.some.inj ((show Tryz.prog.funcNamed Rows.heardNamesRow.func = some 5 by kernel_rfl).symm.trans hf) |>.symm
      obtain rfl : fn = Tryz.f5 := (Option.some.inj (Tryz.func5.symm.trans hfn)).symm
      refine ⟨by kernel_rfl, fun j t ht => ?_⟩
      have h : (Tryz.f5.params.toList.all fun t => !Tryz.prog.wantsStandIn t) = true := by kernel_rfl
      have h2 := List.all_eq_true.1 h t (by simpa using Array.mem_of_getElem? ht)
      exact (by simpa using h2 : Tryz.prog.wantsStandIn t = false))
    (by as_aux_lemma => kernel_rfl)
#print axioms heardNames_card
end Go.Proofs.YtcpikbanghoflaaGreatDoor
