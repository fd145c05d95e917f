/- hustingslaw30.ResolverFits returns true for every input, and every argument reads behind the call as it read before; the listed variables are tied to the program's text. No condition of ours. -/
import Derived.Test.YtdnpmapelmjfpaaGreatDoorCards
import Derived.Test.YtdnpmapelmjfpaaGreatDoorTie
import Derived.Test.YtdnpmapelmjfpaaGreatDoorRb
import Derived.ProofKit
import Derived.OpenShut
import Derived.LaidHandle
import Derived.LaidLaws
import Derived.Test.YtdnpmapelmjfpaaGreatDoorRwy
import Derived.Deep.DeepHandedRow
import Derived.Test.YtdnpmapelmjfpaaGreatDoorRhx
import Derived.Test.YtdnpmapelmjfpaaGreatDoorRwp
import Derived.Test.YtdnpmapelmjfpaaGreatDoorRpr
import Derived.Test.YtdnpmapelmjfpaaGreatDoorRl3
import Derived.Test.YtdnpmapelmjfpaaGreatDoorRrr
import Derived.Test.YtdnpmapelmjfpaaGreatDoorRg
import Derived.Test.YtdnpmapelmjfpaaGreatDoorRry
import Derived.Carry
namespace Go.Proofs.YtdnpmapelmjfpaaGreatDoor
set_option linter.unusedSimpArgs false
set_option linter.unusedVariables false
open Go.ChangeShapes Go.WideShapes Go.ChangeAt Go.RowKit
set_option maxRecDepth 100000
theorem own_knob : ownKnob Tryz.prog.godebug = none := by kernel_rfl
theorem et_at : Tryz.prog.globalNamed "errors.errorType" = some 3 := by kernel_rfl
theorem one_row : ((List.range Tryz.prog.types.size).filter fun t => Tryz.prog.rowNamed t [101, 114, 114, 111, 114]) = [124] := by kernel_rfl
def laidL : List (String × DataW Unit) := [("errors.errorType", Rows.laid_errors_errorType), ("hustings/head.bits", Rows.laid_hustings_head_bits)]

theorem laid_of {W : World} (h : laidMetH Tryz.prog laidL W) : Laid W := by
  have h' : laidMet Tryz.prog [("hustings/head.bits", Rows.laid_hustings_head_bits)] W ∧ handlesMet Tryz.prog [("errors.errorType", Rows.laid_errors_errorType)] W := h
  obtain ⟨name, u, ty, e1, e2, e3, e4, e5⟩ := h'.2 _ (List.mem_singleton.2 rfl)
  have en : name = [101, 114, 114, 111, 114] := (Option.some.inj e1).symm
  subst en
  obtain rfl : u = 286 := Option.some.inj (e2.symm.trans (by kernel_rfl))
  have hm : ty ∈ (List.range Tryz.prog.types.size).filter fun t => Tryz.prog.rowNamed t [101, 114, 114, 111, 114] := List.mem_filter.2 ⟨List.mem_range.2 e3, e4⟩
  rw [one_row] at hm
  obtain rfl := List.mem_singleton.1 hm
  have hh : typeHandle Tryz.prog 124 = hdl 124 := by kernel_rfl
  rw [hh] at e5
  show W.cell? ⟨3, 0, none⟩ = _
  simpa using World.var?_cell et_at e5 0

theorem bits_at : Tryz.prog.globalNamed "hustings/head.bits" = some 2 := by kernel_rfl
theorem one_cell {l : List Value} {i : Nat} {v : Value} (h : (l.drop i).take 1 = [v]) : l[i]? = some v := by
  have h1 := congrArg (fun x : List Value => x[0]?) h
  simpa using h1
def bitsL : List Int := [32768, 1024, 512, 256, 128, 64, 32, 16]
theorem laidbits_of {W : World} (h : laidMetH Tryz.prog laidL W) : BitsAt W := by
  have h' : laidMet Tryz.prog [("hustings/head.bits", Rows.laid_hustings_head_bits)] W ∧ handlesMet Tryz.prog [("errors.errorType", Rows.laid_errors_errorType)] W := h
  obtain ⟨ps, hlv, _, _⟩ := h'.1
  obtain ⟨g, t, cs, fuel, p, q, e1, e2, e3, e4, _, _⟩ := hlv
  obtain rfl : 2 = g := Option.some.inj (bits_at.symm.trans e1)
  obtain rfl : 223 = t := Option.some.inj ((show (Tryz.prog.globals[2]?).map (·.type) = some 223 by kernel_rfl).symm.trans e2)
  obtain ⟨xs, n, _, hd, _, hlen, hf⟩ := DataW.trod_array Tryz.underlying223 e4
  have hd1 := (Prod.mk.inj hd).1
  have key : ∀ i, i < 8 → cs.toList[i]? = some (.int .u16 (bitsL.getD i 0)) := fun i hi => by
    have hx : (xs.map (·.1))[i]? = some (.lit (.int .u16 (bitsL.getD i 0))) := by
      have h1 : xs.map (·.1) = bitsL.map fun k => (.lit (.int .u16 k) : DataW Unit) := by
        injection hd1 with h1
        exact h1.symm
      rw [h1, List.getElem?_map, List.getElem?_eq_getElem (show i < bitsL.length from hi)]
      simp [List.getD, List.getElem?_eq_getElem (show i < bitsL.length from hi)]
    rw [List.getElem?_map] at hx
    obtain ⟨y, hy1, hy2⟩ := Option.map_eq_some_iff.1 hx
    have h2 := (hf i hi).trans hy1
    rw [show Tryz.prog.cellsOf 26 = 1 by kernel_rfl, Nat.mul_one] at h2
    obtain ⟨m, g1, g2, _⟩ := DataW.trod_int Tryz.underlying26 h2
    rw [g2] at hy2
    have hm : m = bitsL.getD i 0 := by
      injection hy2 with hy2
      injection hy2
    rw [← hm]
    exact one_cell g1
  have key2 : ∀ i, i < 8 → W.cell? ⟨2, i, none⟩ = some (.int .u16 (bitsL.getD i 0)) := fun i hi => by
    rw [World.var?_cell bits_at e3 i]
    simpa using key i hi
  exact ⟨key2 0 (by omega), key2 1 (by omega), key2 2 (by omega), key2 3 (by omega), key2 4 (by omega), key2 5 (by omega), key2 6 (by omega), key2 7 (by omega)⟩
noncomputable def laidWorld (os : Os) : World :=
  let w0 := World.holding Tryz.prog os ⟨#[], #[], []⟩
  { w0 with heap := (w0.heap.modify 3 fun
      | .cells _ t frozen => .cells #[errTy] t frozen
      | o => o).modify 2 fun
      | .cells _ t frozen => .cells #[.int .u16 32768, .int .u16 1024, .int .u16 512, .int .u16 256, .int .u16 128, .int .u16 64, .int .u16 32, .int .u16 16] t frozen
      | o => o }
theorem laid_met (os : Os) (args : Array Value) : laidMetH Tryz.prog laidL ((laidWorld os).forCall (fun _ _ => 0) ⟨#[], args, []⟩).memory :=
  laidMetH_of_parts (laidMet_of_run' 8 (by kernel_rfl) (by kernel_rfl)) (by kernel_rfl)

section
variable {H : Type} {enc : TypeId × Value → H} {P : Program}
theorem trodAll_stays (hl : laidOutB P = true) {W W' : World} (hb : Below W.heap.size W W') {sp : Nat → Bool} : ∀ {ts : List TypeId} {vs : List Value} {ds : List (DataW H)} {ps : List MemPlace},
    (∀ t ∈ ts, P.readableRec t = true ∧ t < P.types.size) → DataW.TrodAll enc P W 0 (fun _ => true) true ts vs ds ps → (∀ x ∈ ps, x.block < W.heap.size) → (∀ x ∈ ps, sp x.block = true) → DataW.TrodAll enc P W' 0 sp true ts vs ds ps
  | [], _, _, _, _, h, _, _ => by obtain ⟨rfl, rfl, rfl⟩ := trodAll_nil h; exact trodAll_mk0
  | t :: ts, _, _, _, ht, h, hlt, hs => by
    obtain ⟨v, vs, d, ds, p, q, rfl, rfl, rfl, h0, h1⟩ := trodAll_cons h
    have h2 := ht t (by simp)
    exact trodAll_cons_mk (WideElems.Trod_stays hl h2.1 h2.2 h0 (fun x hx => hb.same (hlt x (by simp [hx]))) (fun x hx => hs x (by simp [hx])))
      (trodAll_stays hl hb (fun t ht' => ht t (by simp [ht'])) h1 (fun x hx => hlt x (by simp [hx])) (fun x hx => hs x (by simp [hx])))
theorem post_of_below {f : Func} {s : ChangeSpec} {apart fresh handsOn again : Bool} {W W' : World} {args : Array Value} {v : Value} {ds gs : List (DataW H)} {before pa pv : List MemPlace}
    (hW : DataW.Whole enc P f.params.toList s.vars apart W args.toList ds gs before)
    (hres : ∀ (b : Nat) (sp : Nat → Bool) (hd : Bool), DataW.TrodAll enc P W' b sp hd f.resultTypes.toList (v.resultList f.resultTypes.size) (s.fn H (ds ++ gs)).results [])
    (hargs : ∀ sp : Nat → Bool, (∀ p ∈ before, sp p.block = true) → DataW.TrodAll enc P W' 0 sp true f.params.toList args.toList (s.fn H (ds ++ gs)).args pa)
    (hvars : ∀ sp : Nat → Bool, (∀ p ∈ before, sp p.block = true) → DataW.TrodVars enc P W' sp s.vars (s.fn H (ds ++ gs)).vars pv)
    (hps : before = pa ++ pv) (hb : Below W.heap.size W W')
    (hok : ∀ (j : Nat) (t : TypeId) (r : Value), f.resultTypes[j]? = some t → (v.resultList f.resultTypes.size)[j]? = some r → Value.okWide P W' .any 0 t r) :
    s.post enc P f apart fresh handsOn again W args v W' := by
  have hlt : ∀ p ∈ before, p.block < W.heap.size := fun p hp => hW.lt p hp
  have hold : ∀ p ∈ before, (fun b => decide (b < W.heap.size)) p.block = true := fun p hp => by simpa using hlt p hp
  refine ⟨ds, gs, before, [], pa, pv, hW, hres _ _ _, hargs _ hold, hvars _ hold, World.keptBut_mono (fun p hp => ⟨hp, ?_⟩) (hb.frame (· ∈ before)), fun _ => ?_⟩
  · rw [hps, List.mem_append] at hp
    exact Or.inr hp
  · obtain ⟨_, _, _, _, _, hz, hn⟩ := hW
    refine ⟨hok, _, _, ([] ++ pa) ++ pv, ⟨[] ++ pa, pv, trodAll_append (hargs _ (fun _ _ => rfl)) (hres _ _ _), hvars _ (fun _ _ => rfl), rfl, ?_, ?_⟩, ?_⟩
    · intro b off hp
      have hin : MemPlace.cell b off ∈ before := by rw [hps]; simpa using hp
      rw [hb.frozen (hlt _ hin)]
      exact hz b off hin
    · intro ha
      have := hn ha
      rw [hps] at this
      simpa using this
    · intro p hp _
      rw [hps]
      simpa using hp
theorem post_true {f : Func} {s : ChangeSpec} {apart fresh handsOn again : Bool} {W W' : World} {args : Array Value} {ds gs : List (DataW H)} {before : List MemPlace} {t : TypeId}
    (hl : laidOutB P = true) (hvn : s.vars = []) (hr : f.resultTypes = #[t]) (ht : P.underlying t = some .bool)
    (hp : ∀ t ∈ f.params.toList, P.readableRec t = true ∧ t < P.types.size)
    (hW : DataW.Whole enc P f.params.toList s.vars apart W args.toList ds gs before)
    (hfn : s.fn H ds = { results := [.lit (.bool true)], args := ds }) (hb : Ext W W') :
    s.post enc P f apart fresh handsOn again W args (.bool true) W' := by
  have hW' := hW
  obtain ⟨p, q, hA, hV, rfl, _, _⟩ := hW
  rw [hvn] at hV
  obtain ⟨rfl, rfl⟩ := trodVars_none hV
  have hlt : ∀ x ∈ p, x.block < W.heap.size := fun x hx => by simpa using hW'.lt x (by simp [hx])
  refine post_of_below (pa := p) (pv := []) hW' (fun _ _ _ => ?_) (fun sp hs => ?_) (fun _ _ => ?_) rfl hb (ok_one hr rfl (okWide_bool_mk ht _))
  · rw [List.append_nil, hfn, hr]; exact trodAll_mk1 (shut_bool ht true)
  · rw [List.append_nil, hfn]; exact trodAll_stays hl hb hp hA hlt (fun x hx => hs x (by simp [hx]))
  · rw [List.append_nil, hfn, hvn]; rfl
end
theorem laid_out : laidOutB Tryz.prog = true := by kernel_rfl
end Go.Proofs.YtdnpmapelmjfpaaGreatDoor
namespace Go.Proofs.YtdnpmapelmjfpaaGreatDoor
set_option linter.unusedSimpArgs false
set_option linter.unusedVariables false
section
variable {P : Program} {ops : Array Oper} {Q : Exit → Act → World → Prop} {S : World → Prop} {V : World}
def wpW (P : Program) (ops : Array Oper) (V : World) (n : Nat) : List Nat → Act → Act → Prop
  | [], a, a' => a = a'
  | i :: is, a, a' => ∃ o d x, nth ops.toList i = some o ∧ o.dst = some d ∧ Nat.blt d n = true ∧ valOp o.op = true ∧ wpList P ops (fun e y z => e = .normal ∧ y = x ∧ z = V) [o] a V ∧ wpW P ops V n is x a'
def dstsW (ops : Array Oper) (is : List Nat) : List (Option Nat) := is.map fun i => (nth ops.toList i).bind (·.dst)
def distW : List (Option Nat) → Bool
  | [] => true
  | x :: r => (!r.contains x) && distW r
theorem wpW_nil {n : Nat} {a : Act} : wpW P ops V n [] a a := rfl
theorem wpW_cons {n i d : Nat} {is : List Nat} {a a' x : Act} {o : Oper} (ho : nth ops.toList i = some o) (hd : o.dst = some d) (hlt : Nat.blt d n = true) (hv : valOp o.op = true)
    (h1 : ∀ Q' : Exit → Act → World → Prop, Shut (Q' .normal x V) → wpList P ops Q' [o] a V) (h2 : wpW P ops V n is x a') : wpW P ops V n (i :: is) a a' :=
  ⟨o, d, x, ho, hd, hlt, hv, h1 _ ⟨rfl, rfl, rfl⟩, h2⟩
theorem wpW_key {o : Oper} {a x : Act} (hv : valOp o.op = true) (h1 : wpList P ops (fun e y z => e = .normal ∧ y = x ∧ z = V) [o] a V) :
    (Region.wanted o (yielded ops a.tmps) = true ∧ ∃ v, (execOp a.eval o).run P V = .ok (.value v) V ∧ a.put o.dst v = x) ∨ (Region.wanted o (yielded ops a.tmps) = false ∧ a.put o.dst undef = x) := by
  unfold wpList at h1
  split at h1
  · rename_i hw
    refine .inl ⟨hw, ?_⟩
    rcases h1 with h1 | ⟨_, x, y, hx, _⟩
    case inr => cases hx
    unfold Oper.wp at h1
    cases hr : (execOp a.eval o).run P V with
    | ok n w1 =>
      obtain ⟨v, rfl⟩ := valOp_run hv hr
      rw [hr] at h1
      obtain ⟨_, h2, h3⟩ := h1
      subst h3
      exact ⟨v, rfl, h2⟩
    | halt x w1 =>
      rw [hr] at h1
      cases x <;> first | exact h1.elim | (obtain ⟨h2, _⟩ := h1; cases h2)
  · rename_i hw
    obtain ⟨_, h2, _⟩ := h1
    exact .inr ⟨by simpa using hw, h2⟩
theorem put_otherW {a : Act} {d e : Nat} {v : Value} (h : e ≠ d) : (a.put (some e) v).tmps.getD d undef = a.tmps.getD d undef := by
  simp only [Act.put]
  by_cases hd : d < a.tmps.size
  · simp [hd, Array.getElem_setIfInBounds_ne hd h]
  · simp [hd]
theorem wpW_keep {n : Nat} : ∀ (is : List Nat) (a a' : Act) (d : Nat), wpW P ops V n is a a' → (dstsW ops is).contains (some d) = false → a'.tmps.getD d undef = a.tmps.getD d undef
  | [], a, a', d, h, _ => by cases h; rfl
  | i :: is, a, a', d, ⟨o, e, x, ho, hd, hlt, hv, h1, h2⟩, hc => by
    simp only [dstsW, List.map_cons, ho, Option.bind_some, hd, List.contains_cons, Bool.or_eq_false_iff, beq_eq_false_iff_ne] at hc
    have hne : e ≠ d := fun h => hc.1 (by rw [h])
    rw [wpW_keep is x a' d h2 hc.2]
    rcases wpW_key hv h1 with ⟨_, v, _, hx⟩ | ⟨_, hx⟩
    · rw [← hx, hd, put_otherW hne]
    · rw [← hx, hd, put_otherW hne]
theorem put_size {a : Act} {d : Option Nat} {v : Value} : (a.put d v).tmps.size = a.tmps.size := by
  cases d <;> simp [Act.put]
theorem treeTakesW (hS0 : ∃ V, S V) (n : Nat) {r : Tr} {w : World} : ∀ (is : List Nat) {a a' : Act}, a.tmps.size = n → distW (dstsW ops is) = true → (∀ V, S V → wpW P ops V n is a a') → seqT P ops Q S r a' w → seqT P ops Q S (takesOf is r) a w
  | [], a, a', _, _, hy, h => by
    obtain ⟨V0, hV0⟩ := hS0
    cases hy V0 hV0
    exact h
  | i :: is, a, a', hz, hd, hy, h => by
    have hd' := hd
    simp only [dstsW, List.map_cons, distW, Bool.and_eq_true, Bool.not_eq_true'] at hd
    obtain ⟨V0, hV0⟩ := id hS0
    obtain ⟨o, d, x, ho, hod, hlt, hv, h1, h2⟩ := hy V0 hV0
    have hlt' : d < a.tmps.size := by rw [hz]; simpa [Nat.blt_eq] using hlt
    have hnc : (dstsW ops is).contains (some d) = false := by
      have := hd.1
      rw [ho, Option.bind_some, hod] at this
      exact this
    have hput : ∀ v y, a.put o.dst v = y → v = y.tmps.getD d undef := by
      intro v y e
      rw [← e, hod]
      simp [Act.put, hlt']
    have key : ∀ V, S V → wpW P ops V n is x a' ∧ ((Region.wanted o (yielded ops a.tmps) = true ∧ (execOp a.eval o).run P V = .ok (.value (x.tmps.getD d undef)) V ∧ a.put o.dst (x.tmps.getD d undef) = x) ∨ (Region.wanted o (yielded ops a.tmps) = false ∧ a.put o.dst undef = x)) := by
      intro V hV
      obtain ⟨o2, d2, y, ho2, hod2, _, hv2, k1, k2⟩ := hy V hV
      rw [ho] at ho2
      injection ho2 with ho2
      subst ho2
      rw [hod] at hod2
      injection hod2 with hod2
      subst hod2
      have e1 := wpW_keep is x a' d h2 hnc
      have e2 := wpW_keep is y a' d k2 hnc
      have e3 : x.tmps.getD d undef = y.tmps.getD d undef := e1.symm.trans e2
      have hxy : y = x := by
        have fin : ∀ v u, a.put o.dst v = x → a.put o.dst u = y → y = x := by
          intro v u hx hu
          have : u = v := (hput u y hu).trans (e3.symm.trans (hput v x hx).symm)
          rw [← hx, ← hu, this]
        rcases wpW_key hv h1 with ⟨_, v, _, hx⟩ | ⟨_, hx⟩
        · rcases wpW_key hv k1 with ⟨_, u, _, hu⟩ | ⟨_, hu⟩
          · exact fin _ _ hx hu
          · exact fin _ _ hx hu
        · rcases wpW_key hv k1 with ⟨_, u, _, hu⟩ | ⟨_, hu⟩
          · exact fin _ _ hx hu
          · exact fin _ _ hx hu
      subst hxy
      refine ⟨k2, ?_⟩
      rcases wpW_key hv k1 with ⟨hw, u, hr, hu⟩ | ⟨hw, hu⟩
      · have := hput u y hu
        rw [← this]
        exact .inl ⟨hw, hr, hu⟩
      · exact .inr ⟨hw, hu⟩
    have hxz : x.tmps.size = n := by
      rcases (key V0 hV0).2 with ⟨_, _, hx⟩ | ⟨_, hx⟩
      · rw [← hx, put_size]; exact hz
      · rw [← hx, put_size]; exact hz
    have ih := treeTakesW hS0 n is hxz (by simpa [dstsW] using hd.2) (fun V hV => (key V hV).1) h
    have ho' : ops[i]? = some o := by rw [nth_eq] at ho; simpa using ho
    rcases (key V0 hV0).2 with ⟨hw, _, hx⟩ | ⟨hw, hx⟩
    · refine ⟨o, x.tmps.getD d undef, ho', .inl ⟨hw, fun V hV => ?_⟩, by rw [hx]; exact ih⟩
      rcases (key V hV).2 with ⟨_, hr, _⟩ | ⟨hw', _⟩
      · exact hr
      · rw [hw] at hw'; cases hw'
    · exact ⟨o, undef, ho', .inr ⟨hw, rfl⟩, by rw [hx]; exact ih⟩
end
end Go.Proofs.YtdnpmapelmjfpaaGreatDoor
namespace Go.Proofs.YtdnpmapelmjfpaaGreatDoor
set_option linter.unusedSimpArgs false
set_option linter.unusedVariables false
section
variable {P : Program} {ops : Array Oper} {Q : Exit → Act → World → Prop} {S : World → Prop} {R : World → World → Prop}
def okS (ops : Array Oper) (js : List (Nat × Nat)) (s : Nat) (n : Nat) (l : Array Bool) : Bool :=
  decide (leftN l = n) && (decide (l.size = ops.size) && (topo ops js l && (distinct (js.map (·.1)) && (distinct (js.map (·.2)) &&
    (((List.range ops.size).all fun i => l.getD i true || ((js.map (·.1)).contains i || i == s)) && ((js.all fun p => ((ops[p.1]?).map fun o => o.dst == some p.2).getD false) && ((js.all fun p => !l.getD p.1 true) &&
      ((js.all fun p => depB ops s p.1) && (!(js.map (·.1)).contains s && (!l.getD s true && ((ops[s]?).map (·.after.all fun e => !Region.binds .any e || (l.getD e.on false || (js.map (·.1)).contains e.on))).getD false))))))))))
theorem depB_listed {L : Array Bool} {s j : Nat} {o : Oper} (ho : ops[s]? = some o) (hd : ∀ e ∈ o.after, Region.binds .any e = true → L.getD e.on false = true) (h : depB ops s j = true) : L.getD j false = true := by
  unfold depB at h
  rw [ho] at h
  have h3 : (o.after.any fun e => Region.binds .any e && e.on == j) = true := h
  rw [Array.any_eq_true'] at h3
  obtain ⟨e, he, h4⟩ := h3
  simp only [Bool.and_eq_true, beq_iff_eq] at h4
  rw [← h4.2]
  exact hd e he h4.1
theorem getD_tf {l : Array Bool} {i : Nat} (h : l.getD i true = true) (hlt : i < l.size) : l.getD i false = true := by
  simp [hlt] at h ⊢; exact h
end
end Go.Proofs.YtdnpmapelmjfpaaGreatDoor
namespace Go.Proofs.YtdnpmapelmjfpaaGreatDoor
set_option linter.unusedSimpArgs false
set_option linter.unusedVariables false
section
variable {P : Program} {ops : Array Oper} {Q : Exit → Act → World → Prop} {S : World → Prop} {R : World → World → Prop}
theorem invAnyL {js : List (Nat × Nat)} {s : Nat} {mk : (Nat → Value) → Act} {F : Nat → Value → World → Prop} {n : Nat} {l : Array Bool} (hok : okS ops js s n l = true)
    (hRS : ∀ V V', S V → R V V' → S V') (hF : ∀ i v V V', S V → R V V' → F i v V → F i v V')
    (hop : EachI (StepI P ops Q S R js F mk) js) (hend : ∀ xs V, S V → (∀ j, (js.map (·.1)).contains j = true → F j (xs j) V) → wpOp P ops Q s (fun a' V' => Q .normal a' V') (mk xs) V) :
    ∀ (m : Nat) (L : Array Bool) (xs : Nat → Value) (w : World), leftN L = m → L.size = l.size → L.getD s true = false → (∀ i, l.getD i false = true → L.getD i false = true) → (∀ j, (js.map (·.1)).contains j = true → L.getD j false = true → F j (xs j) w) → S w → wpAnyH P .any ops Q (fun _ => True) m L (mk xs) w := by
  simp only [okS, Bool.and_eq_true, decide_eq_true_eq] at hok
  obtain ⟨o1, o2, o3, o4, o5, o6, o7, o8, o9, o10, o11, o12⟩ := hok
  have hsj : ∀ j, (js.map (·.1)).contains j = true → j ≠ s := by
    intro j hj e
    rw [e] at hj
    rw [hj] at o10
    cases o10
  have hss : s < ops.size := by
    rcases Nat.lt_or_ge s ops.size with h | h
    · exact h
    · simp [Array.getElem?_eq_none h] at o12
  obtain ⟨os, hos⟩ : ∃ os, ops[s]? = some os := ⟨_, Array.getElem?_eq_getElem hss⟩
  have hall : ∀ (L : Array Bool), L.size = l.size → (∀ i, l.getD i false = true → L.getD i false = true) → Region.ready .any ops L = [] → ∀ j, (js.map (·.1)).contains j = true → L.getD j false = true := by
    intro L hz hs hr j hj
    obtain ⟨p, hp, rfl⟩ := List.mem_map.1 (List.contains_iff_mem.1 hj)
    refine topo_done js l L o3 hz hs hr p hp ?_
    have := List.all_eq_true.1 o8 p hp
    rcases Nat.lt_or_ge p.1 l.size with h' | h'
    · exact h'
    · simp [h'] at this
  intro m
  induction m with
  | zero =>
    intro L xs w hm hz hsu hs hf hS
    rw [leftN_zero hm s] at hsu
    cases hsu
  | succ m ih =>
    intro L xs w hm hz hsu hs hf hS
    refine ⟨fun hr => ?_, fun i hi => ?_⟩
    · exfalso
      have hm' : s ∈ Region.ready .any ops L := by
        rw [mem_ready]
        refine ⟨hsu, os, hos, fun e he hb => ?_⟩
        rw [hos] at o12
        have h3 : (os.after.all fun e => !Region.binds .any e || (l.getD e.on false || (js.map (·.1)).contains e.on)) = true := o12
        rw [Array.all_eq_true_iff_forall_mem] at h3
        have h4 := h3 e he
        rw [hb] at h4
        simp only [Bool.not_true, Bool.false_or, Bool.or_eq_true] at h4
        rcases h4 with h4 | h4
        · exact hs _ h4
        · exact hall L hz hs hr _ h4
      rw [hr] at hm'
      cases hm'
    obtain ⟨hu, o, ho, hd⟩ := mem_ready.1 hi
    have hlt : i < ops.size := (Array.getElem?_eq_some_iff.1 ho).1
    have hlL : i < L.size := by omega
    have hil : l.getD i true = false := by
      cases hc : l.getD i true with
      | false => rfl
      | true =>
        have h3 := hs i (getD_tf hc (by omega))
        simp [hlL] at h3 hu
        rw [h3] at hu
        cases hu
    by_cases his : i = s
    · subst his
      have hl : ∀ j, (js.map (·.1)).contains j = true → L.getD j false = true := by
        intro j hj
        obtain ⟨p, hp, rfl⟩ := List.mem_map.1 (List.contains_iff_mem.1 hj)
        exact depB_listed ho hd (List.all_eq_true.1 o9 p hp)
      refine wpOp_mono ?_ (hend xs w hS (fun j hj => hf j hj (hl j hj)))
      rintro a' w' hq
      refine ⟨trivial, wpAnyH_done ?_ hq _⟩
      rcases hq2 : Region.ready .any ops (L.setIfInBounds i true) with _ | ⟨k, r⟩
      · rfl
      · exfalso
        have h1 : k ∈ Region.ready .any ops (L.setIfInBounds i true) := by rw [hq2]; simp
        obtain ⟨h2, o', ho', _⟩ := mem_ready.1 h1
        have hk : k < ops.size := (Array.getElem?_eq_some_iff.1 ho').1
        by_cases hki : i = k
        · subst hki
          simp [hlL] at h2
        · have h2' : L.getD k true = false := by
            have hkL : k < L.size := by omega
            simp [hkL, Array.getElem_setIfInBounds_ne, hki] at h2 ⊢
            exact h2
          have h5 := List.all_eq_true.1 o6 k (List.mem_range.2 hk)
          simp only [Bool.or_eq_true, beq_iff_eq] at h5
          have hkL : k < L.size := by omega
          rcases h5 with h5 | h5 | h5
          · have h6 := hs k (getD_tf h5 (by omega))
            simp [hkL] at h6 h2'
            rw [h6] at h2'
            cases h2'
          · have h6 := hl k h5
            simp [hkL] at h6 h2'
            rw [h6] at h2'
            cases h2'
          · exact hki h5.symm
    have hij : (js.map (·.1)).contains i = true := by
      have := List.all_eq_true.1 o6 i (List.mem_range.2 hlt)
      rw [hil] at this
      simp only [Bool.false_or, Bool.or_eq_true, beq_iff_eq] at this
      rcases this with h | h
      · exact h
      · exact absurd h his
    obtain ⟨p, hp, rfl⟩ := List.mem_map.1 (List.contains_iff_mem.1 hij)
    have hst := EachI.mem hop p hp xs w hS (fun j hj => by
      rw [Bool.and_eq_true] at hj
      exact hf j hj.1 (depB_listed ho hd hj.2))
    refine wpOp_mono ?_ hst
    rintro a' w' ⟨v, hR, hv, rfl⟩
    refine ⟨trivial, ih _ _ w' (by have := leftN_set hu; omega) (by rw [Array.size_setIfInBounds]; exact hz) ?_ (fun j hj => getD_set_true (hs j hj)) (fun j hj hl => ?_) (hRS _ _ hS hR)⟩
    · have hsL : s < L.size := by omega
      simp [hsL, Array.getElem_setIfInBounds_ne, his] at hsu ⊢
      exact hsu
    by_cases hjp : j = p.1
    · rw [hjp, show upd xs p.1 v p.1 = v from if_pos rfl]; exact hv
    · rw [show upd xs p.1 v j = xs j from if_neg hjp]
      rw [getD_set_ne false (fun e => hjp e.symm)] at hl
      exact hF _ _ _ _ hS hR (hf j hj hl)
theorem invStartL {js : List (Nat × Nat)} {s : Nat} {F : Nat → Value → World → Prop} {n : Nat} {l : Array Bool} {a : Act} {w : World} (hok : okS ops js s n l = true) (hz : (js.all fun p => Nat.blt p.2 a.tmps.size) = true)
    (hRS : ∀ V V', S V → R V V' → S V') (hF : ∀ i v V V', S V → R V V' → F i v V → F i v V') (hS : S w)
    (h : ∀ mk : (Nat → Value) → Act, mk = putXs js a → EachI (StepI P ops Q S R js F mk) js ∧ (∀ xs V, S V → (∀ j, (js.map (·.1)).contains j = true → F j (xs j) V) → wpOp P ops Q s (fun a' V' => Q .normal a' V') (mk xs) V)) : wpAnyH P .any ops Q (fun _ => True) n l a w := by
  obtain ⟨h1, h2⟩ := h _ rfl
  have hok' := hok
  simp only [okS, Bool.and_eq_true, decide_eq_true_eq] at hok'
  obtain ⟨o1, o2, o3, o4, o5, o6, o7, o8, o9, o10, o11, o12⟩ := hok'
  obtain ⟨xs, hxs⟩ : ∃ xs : Nat → Value, ∀ p ∈ js, xs p.1 = a.tmps.getD p.2 undef := by
    clear h h1 h2 hz o3 o5 o6 o7 o8 o9 o10 o11 o12 hok
    induction js with
    | nil => exact ⟨fun _ => undef, by simp⟩
    | cons p r ih =>
      simp only [List.map_cons, distinct, Bool.and_eq_true] at o4
      obtain ⟨xs, hx⟩ := ih o4.2
      refine ⟨upd xs p.1 (a.tmps.getD p.2 undef), fun q hq => ?_⟩
      rcases List.mem_cons.1 hq with rfl | hq
      · exact if_pos rfl
      · rw [show upd xs p.1 (a.tmps.getD p.2 undef) q.1 = xs q.1 from if_neg (not_mem_of_distinct o4.1 _ (List.mem_map_of_mem hq))]
        exact hx q hq
  have e := putXs_self js a xs (fun p hp => by simpa [Nat.blt_eq] using List.all_eq_true.1 hz p hp) o5 hxs
  have := invAnyL hok hRS hF h1 h2 n l xs w o1 rfl (by simpa using o11) (fun _ h => h) (fun j hj hl => by
    exfalso
    obtain ⟨p, hp, rfl⟩ := List.mem_map.1 (List.contains_iff_mem.1 hj)
    have h3 := List.all_eq_true.1 o8 p hp
    have hlt : p.1 < l.size := by
      rcases Nat.lt_or_ge p.1 l.size with h' | h'
      · exact h'
      · simp [h'] at hl
    simp [hlt] at h3 hl
    rw [h3] at hl
    cases hl) hS
  rw [e] at this
  exact this
theorem stepL {s : Nat} {a : Act} {o : Oper} {V : World} (ho : nth ops.toList s = some o)
    (h : ∀ Q' : Exit → Act → World → Prop, Shut (∀ x y, Q .normal x y → Q' .normal x y) → Shut (∀ e a w, e ≠ .normal → Q e a w → Q' e a w) → wpList P ops Q' [o] a V) : wpOp P ops Q s (fun a' V' => Q .normal a' V') a V := by
  have h1 := h (fun e x y => (e = .normal ∧ Q .normal x y) ∨ (e ≠ .normal ∧ Q e x y)) (fun _ _ h1 => .inl ⟨rfl, h1⟩) (fun _ _ _ h1 h2 => .inr ⟨h1, h2⟩)
  have hx : ∀ e x y, e ≠ Exit.normal → ((e = .normal ∧ Q .normal x y) ∨ (e ≠ .normal ∧ Q e x y)) → Q e x y := by
    rintro e x y h1 (⟨h2, _⟩ | ⟨_, h2⟩)
    · exact (h1 h2).elim
    · exact h2
  unfold wpOp
  rw [show ops[s]? = some o by rw [nth_eq] at ho; simpa using ho]
  unfold wpList at h1
  dsimp only
  split at h1
  · rename_i hw
    rw [if_pos hw]
    rcases h1 with h1 | ⟨h1, x, y, h2⟩
    · refine .inl (wp_exits hx (Oper.wp_mono ?_ h1))
      intro x y h2
      rcases h2 with ⟨_, h2⟩ | ⟨h2, _⟩
      · exact h2
      · exact (h2 rfl).elim
    · exact .inr ⟨h1, x, y, hx _ _ _ (by simp) h2⟩
  · rename_i hw
    rw [if_neg hw]
    rcases h1 with ⟨_, h2⟩ | ⟨h2, _⟩
    · exact h2
    · exact (h2 rfl).elim
end
end Go.Proofs.YtdnpmapelmjfpaaGreatDoor
namespace Go.Proofs.YtdnpmapelmjfpaaGreatDoor
set_option linter.unusedSimpArgs false
set_option linter.unusedVariables false
open Go.RowKit
set_option maxRecDepth 100000
def findC (k : Nat) : Nat → Code → Option Code
  | 0, _ => none
  | _ + 1, .region i ops b => if i = k then some (.region i ops b) else none
  | n + 1, .seq a b => (findC k n a).orElse fun _ => findC k n b
  | n + 1, .cond _ a b => (findC k n a).orElse fun _ => findC k n b
  | n + 1, .loop a => findC k n a
  | n + 1, .scope a => findC k n a
  | n + 1, .block _ a => findC k n a
  | _ + 1, _ => none
theorem wpList_notW {P : Program} {ops : Array Oper} {Q : Exit → Act → World → Prop} {a : Act} {w : World} {rest : List Oper} {o : Oper} (hw : Region.wanted o (yielded ops a.tmps) = false) (h : wpList P ops Q rest (a.put o.dst undef) w) : wpList P ops Q (o :: rest) a w := by
  unfold wpList
  rw [if_neg (by rw [hw]; decide)]
  exact h
def FitR (b10 b8 : Nat) (m : MsgD) (x : QD) (tc : Bool) (na nu qb qo qc rb ro rc : Nat) (aA uA xA : Option Addr) (ac uc xc : Nat) (V : World) : Prop :=
  V.cell? ⟨b10, 0, none⟩ = some (.int .u16 m.hd.id) ∧ V.cell? ⟨b10, 5, none⟩ = some (.bool m.hd.rd) ∧ V.cell? ⟨b10, 1, none⟩ = some (.bool true) ∧ V.cell? ⟨b10, 6, none⟩ = some (.bool true) ∧ V.cell? ⟨b10, 3, none⟩ = some (.bool false) ∧ V.cell? ⟨b10, 7, none⟩ = some (.bool false) ∧ V.cell? ⟨b10, 8, none⟩ = some (.bool false) ∧ V.cell? ⟨b10, 9, none⟩ = some (.bool false) ∧ V.cell? ⟨b10, 11, none⟩ = some (.slice (some ⟨qb, qo, none⟩) 1 qc) ∧ V.cell? ⟨qb, qo, none⟩ = some (S x.name) ∧ V.cell? ⟨qb, qo + 1, none⟩ = some (.int .u16 x.typ) ∧ V.cell? ⟨qb, qo + 2, none⟩ = some (.int .u16 x.cls) ∧ V.cell? ⟨b10, 15, none⟩ = some (.bool m.he) ∧ V.cell? ⟨b10, 17, none⟩ = some (.int .u8 0) ∧ V.cell? ⟨b10, 14, none⟩ = some (.slice xA 0 xc) ∧ V.cell? ⟨b10, 4, none⟩ = some (.bool tc) ∧ V.cell? ⟨b10, 12, none⟩ = some (.slice aA na ac) ∧ V.cell? ⟨b10, 13, none⟩ = some (.slice uA nu uc) ∧ V.cell? ⟨b8, 0, none⟩ = some (.int .u16 m.hd.id) ∧ V.cell? ⟨b8, 5, none⟩ = some (.bool m.hd.rd) ∧ V.cell? ⟨b8, 11, none⟩ = some (.slice (some ⟨rb, ro, none⟩) 1 rc) ∧ V.cell? ⟨rb, ro, none⟩ = some (S x.name) ∧ V.cell? ⟨rb, ro + 1, none⟩ = some (.int .u16 x.typ) ∧ V.cell? ⟨rb, ro + 2, none⟩ = some (.int .u16 x.cls) ∧ V.cell? ⟨b8, 15, none⟩ = some (.bool m.he) ∧ (m.he = true → V.cell? ⟨b10, 16, none⟩ = some (.int .u16 4096))
def valR (x : QD) (b8 rb ro rc : Nat) (i : Nat) : Option Value := (([some (.pointer (some ⟨b8, 11, none⟩)), some (.slice (some ⟨rb, ro, none⟩) 1 rc), some (.pointer (some ⟨rb, ro, none⟩)), some (.pointer (some ⟨rb, ro, none⟩)), some (S x.name), some (S (fold x.name)), some (.pointer (some ⟨b8, 11, none⟩)), some (.slice (some ⟨rb, ro, none⟩) 1 rc), some (.pointer (some ⟨rb, ro, none⟩)), some (.pointer (some ⟨rb, ro + 1, none⟩)), some (.int .u16 x.typ), some (.pointer (some ⟨b8, 11, none⟩)), some (.slice (some ⟨rb, ro, none⟩) 1 rc), some (.pointer (some ⟨rb, ro, none⟩)), some (.pointer (some ⟨rb, ro + 2, none⟩)), some (.int .u16 x.cls), some (.agg #[S (fold x.name), .int .u16 x.typ, .int .u16 x.cls]), none, some (.pointer (some ⟨b8, 11, none⟩))] : List (Option Value))[i]?).getD none
def FitF (X : World) (x : QD) (b8 rb ro rc : Nat) (i : Nat) (v : Value) (V : World) : Prop :=
  (i = 17 → ∃ g, v = .slice (some ⟨g, 0, none⟩) 1 1 ∧ V.heap[g]? = some (.cells #[S (fold x.name), .int .u16 x.typ, .int .u16 x.cls] 32) ∧ X.heap.size ≤ g) ∧ (∀ u, valR x b8 rb ro rc i = some u → v = u)
theorem FitF.mono {X : World} {x : QD} {b8 rb ro rc i : Nat} {v : Value} {V V' : World} (hE : Ext V V') (h : FitF X x b8 rb ro rc i v V) : FitF X x b8 rb ro rc i v V' := by
  refine ⟨fun e => ?_, h.2⟩
  obtain ⟨g, h1, h2, h3⟩ := h.1 e
  exact ⟨g, h1, (hE.block _ (Array.getElem?_eq_some_iff.1 h2).1).trans h2, h3⟩
noncomputable def rfits_r14C : Code := ((Tryz.f4.body).bind (findC 14 400)).getD .skip
set_option maxHeartbeats 40000000 in
theorem rfits_r14 {Q : Exit → Act → World → Prop} {f0 f1 f2 f3 f4 f5 f6 f9 f13 f14 f15 f16 f17 f18 f19 f20 f21 f22 f23 f24 f25 f26 f27 f28 f29 f30 f31 f32 f33 f34 f35 f36 f37 f38 f39 f40 f41 f42 f43 f44 f45 f46 f47 f48 f49 f50 f51 f52 f53 f54 f55 f56 f57 f58 f59 f60 f61 f62 f63 f64 f65 f66 f67 f68 f69 f70 f71 f72 f73 f74 f75 f76 f77 f78 f79 f80 f81 f82 f83 f84 f85 f86 f87 f88 f89 f90 f91 f92 f93 f94 f95 f96 f97 f98 f99 f100 f101 f102 f103 f104 f105 f106 f107 f108 f109 f110 f111 f112 f113 f114 f115 f116 f117 f118 f119 f120 f121 f122 f123 f124 f125 f126 f127 f128 f129 f130 f131 f132 f133 f134 f135 f136 f137 f138 f139 f140 f141 f142 f143 f144 f145 f146 f147 f148 f149 f150 f151 f152 f153 f154 f155 f156 f157 f158 f159 f160 f161 f162 f163 f164 f165 f166 f167 f168 f169 f170 f171 f172 f173 f174 f175 f176 f177 f178 f179 f180 f181 f182 f183 f184 f185 f186 f187 f188 f189 f190 f191 f192 f193 f194 f195 f196 f197 f198 f199 f200 f201 f202 f203 f204 f205 f206 f207 f208 f209 f210 f211 f212 f213 f214 f215 f216 f217 f218 f219 f220 f221 f222 f223 f224 f225 f226 f227 f228 f229 f230 f231 f232 f233 f234 f235 f236 f237 f238 f239 f240 f241 f242 f243 f244 f245 f246 f247 f248 f249 f250 f251 f252 f253 f254 f255 f256 : Value} {m : MsgD} {x : QD} {tc : Bool} {s : List UInt8} {rm : Int} {b10 b8 na nu qb qo qc rb ro rc : Nat} {aA uA xA : Option Addr} {ac uc xc : Nat} (X : World) (HS0 : ∀ V, Ext X V → FitR b10 b8 m x tc na nu qb qo qc rb ro rc aA uA xA ac uc xc V) (hl : (s.length : Int) ≤ rm) (htz : tc = true → na = 0 ∧ nu = 0)
    (hQ : ∀ (t79 t80 t81 t82 t83 t84 t85 t86 t87 t88 t89 t90 t91 t92 t93 t94 t95 t96 t97 t98 t99 t100 t101 t102 t103 t104 t105 t106 t107 t108 t109 t110 t111 t112 t113 t114 t115 t116 t117 t118 t119 t120 t121 t122 t123 t124 t125 t126 t127 t128 t129 t130 t131 t132 t133 t134 t135 t136 t137 t138 t139 t140 t141 t142 t143 t144 t145 t146 t147 t148 t149 t150 t151 t152 t153 t154 t155 t156 t157 t158 t159 t160 t161 t162 t163 t164 t165 t166 t167 t168 t169 t170 t171 t172 t173 t174 t175 t176 t177 t178 t179 t180 t181 t182 t183 t184 t185 t186 t187 t188 t189 t190 t191 t192 t193 t194 t195 t196 t197 t198 : Value) (V : World), Ext X V → Q .normal ⟨(f0 :: f1 :: f2 :: f3 :: f4 :: f5 :: f6 :: S s :: .pointer (some ⟨b8, 0, none⟩) :: f9 :: .pointer (some ⟨b10, 0, none⟩) :: .int .i64 0 :: .int .i64 rm :: f13 :: f14 :: f15 :: f16 :: f17 :: f18 :: f19 :: f20 :: f21 :: f22 :: f23 :: f24 :: f25 :: f26 :: f27 :: f28 :: f29 :: f30 :: f31 :: f32 :: f33 :: f34 :: f35 :: f36 :: f37 :: f38 :: f39 :: f40 :: f41 :: f42 :: f43 :: f44 :: f45 :: f46 :: f47 :: f48 :: f49 :: f50 :: f51 :: f52 :: f53 :: f54 :: f55 :: f56 :: f57 :: f58 :: f59 :: f60 :: f61 :: f62 :: f63 :: f64 :: f65 :: f66 :: f67 :: f68 :: f69 :: f70 :: f71 :: f72 :: f73 :: f74 :: f75 :: f76 :: f77 :: f78 :: t79 :: t80 :: t81 :: t82 :: t83 :: t84 :: t85 :: t86 :: t87 :: t88 :: t89 :: t90 :: t91 :: t92 :: t93 :: t94 :: t95 :: t96 :: t97 :: t98 :: t99 :: t100 :: t101 :: t102 :: t103 :: t104 :: t105 :: t106 :: t107 :: t108 :: t109 :: t110 :: t111 :: t112 :: t113 :: t114 :: t115 :: t116 :: t117 :: t118 :: t119 :: t120 :: t121 :: t122 :: t123 :: t124 :: t125 :: t126 :: t127 :: t128 :: t129 :: t130 :: t131 :: t132 :: t133 :: t134 :: t135 :: t136 :: t137 :: t138 :: t139 :: t140 :: t141 :: t142 :: t143 :: t144 :: t145 :: t146 :: t147 :: t148 :: t149 :: t150 :: t151 :: t152 :: t153 :: t154 :: t155 :: t156 :: t157 :: t158 :: t159 :: t160 :: t161 :: t162 :: t163 :: t164 :: t165 :: t166 :: t167 :: t168 :: t169 :: t170 :: t171 :: t172 :: t173 :: t174 :: t175 :: t176 :: t177 :: t178 :: t179 :: t180 :: t181 :: t182 :: t183 :: t184 :: t185 :: t186 :: t187 :: t188 :: t189 :: t190 :: t191 :: t192 :: t193 :: t194 :: t195 :: t196 :: t197 :: t198 :: .bool false :: f200 :: f201 :: f202 :: f203 :: f204 :: f205 :: f206 :: f207 :: f208 :: f209 :: f210 :: f211 :: f212 :: f213 :: f214 :: f215 :: f216 :: f217 :: f218 :: f219 :: f220 :: f221 :: f222 :: f223 :: f224 :: f225 :: f226 :: f227 :: f228 :: f229 :: f230 :: f231 :: f232 :: f233 :: f234 :: f235 :: f236 :: f237 :: f238 :: f239 :: f240 :: f241 :: f242 :: f243 :: f244 :: f245 :: f246 :: f247 :: f248 :: f249 :: f250 :: f251 :: f252 :: f253 :: f254 :: f255 :: f256 :: []).toArray, []⟩ V) :
    Code.wp Tryz.prog rfits_r14C Q ⟨(f0 :: f1 :: f2 :: f3 :: f4 :: f5 :: f6 :: S s :: .pointer (some ⟨b8, 0, none⟩) :: f9 :: .pointer (some ⟨b10, 0, none⟩) :: .int .i64 0 :: .int .i64 rm :: f13 :: f14 :: f15 :: f16 :: f17 :: f18 :: f19 :: f20 :: f21 :: f22 :: f23 :: f24 :: f25 :: f26 :: f27 :: f28 :: f29 :: f30 :: f31 :: f32 :: f33 :: f34 :: f35 :: f36 :: f37 :: f38 :: f39 :: f40 :: f41 :: f42 :: f43 :: f44 :: f45 :: f46 :: f47 :: f48 :: f49 :: f50 :: f51 :: f52 :: f53 :: f54 :: f55 :: f56 :: f57 :: f58 :: f59 :: f60 :: f61 :: f62 :: f63 :: f64 :: f65 :: f66 :: f67 :: f68 :: f69 :: f70 :: f71 :: f72 :: f73 :: f74 :: f75 :: f76 :: f77 :: f78 :: f79 :: f80 :: f81 :: f82 :: f83 :: f84 :: f85 :: f86 :: f87 :: f88 :: f89 :: f90 :: f91 :: f92 :: f93 :: f94 :: f95 :: f96 :: f97 :: f98 :: f99 :: f100 :: f101 :: f102 :: f103 :: f104 :: f105 :: f106 :: f107 :: f108 :: f109 :: f110 :: f111 :: f112 :: f113 :: f114 :: f115 :: f116 :: f117 :: f118 :: f119 :: f120 :: f121 :: f122 :: f123 :: f124 :: f125 :: f126 :: f127 :: f128 :: f129 :: f130 :: f131 :: f132 :: f133 :: f134 :: f135 :: f136 :: f137 :: f138 :: f139 :: f140 :: f141 :: f142 :: f143 :: f144 :: f145 :: f146 :: f147 :: f148 :: f149 :: f150 :: f151 :: f152 :: f153 :: f154 :: f155 :: f156 :: f157 :: f158 :: f159 :: f160 :: f161 :: f162 :: f163 :: f164 :: f165 :: f166 :: f167 :: f168 :: f169 :: f170 :: f171 :: f172 :: f173 :: f174 :: f175 :: f176 :: f177 :: f178 :: f179 :: f180 :: f181 :: f182 :: f183 :: f184 :: f185 :: f186 :: f187 :: f188 :: f189 :: f190 :: f191 :: f192 :: f193 :: f194 :: f195 :: f196 :: f197 :: f198 :: f199 :: f200 :: f201 :: f202 :: f203 :: f204 :: f205 :: f206 :: f207 :: f208 :: f209 :: f210 :: f211 :: f212 :: f213 :: f214 :: f215 :: f216 :: f217 :: f218 :: f219 :: f220 :: f221 :: f222 :: f223 :: f224 :: f225 :: f226 :: f227 :: f228 :: f229 :: f230 :: f231 :: f232 :: f233 :: f234 :: f235 :: f236 :: f237 :: f238 :: f239 :: f240 :: f241 :: f242 :: f243 :: f244 :: f245 :: f246 :: f247 :: f248 :: f249 :: f250 :: f251 :: f252 :: f253 :: f254 :: f255 :: f256 :: []).toArray, []⟩ X := by
  conv => arg 2; whnf
  have HS := Lib.hid HS0
  clear HS0
  have p4i : ¬ rm < (s.length : Int) := by omega
  have p4d : decide (rm < (s.length : Int)) = false := decide_eq_false p4i
  refine wp_region_noPanic ?_
  refine wp_region_tree (S := fun V => Ext X V) (takesOf [0, 1, 2, 3, 4, 5, 6, 7, 8, 9, 10, 11, 12, 13, 14, 15, 16, 17, 18, 19, 20, 21, 22, 23, 24, 25, 26, 27, 28, 29, 30, 31, 32, 33, 34, 35, 36, 37, 38, 39, 40, 41, 42, 43, 44, 45, 46, 47, 48, 49, 50, 51, 52, 53, 54, 55, 56, 57, 58, 59, 60, 61, 62, 63, 64, 65, 66, 67, 68, 69, 70, 71, 72, 73, 74, 75, 76, 77, 78, 79, 80, 81, 82, 83, 84, 85] (takesOf [86, 87, 88, 89, 90] (takesOf [91, 92, 93, 94] (takesOf [95, 96, 97, 98, 99, 100, 101, 102, 103, 104, 105, 106, 107] (takesOf [108, 109, 110, 111, 112, 113] (takesOf [114, 115, 116, 117] (takesOf [118, 119, 120] .done))))))) (by kernel_rfl) (by rw [Bool.and_eq_true]; refine ⟨by kernel_rfl, ?_⟩; refine okT_takes [0, 1, 2, 3, 4, 5] _ _ 115 _ #[true, true, true, true, true, true, false, false, false, false, false, false, false, false, false, false, false, false, false, false, false, false, false, false, false, false, false, false, false, false, false, false, false, false, false, false, false, false, false, false, false, false, false, false, false, false, false, false, false, false, false, false, false, false, false, false, false, false, false, false, false, false, false, false, false, false, false, false, false, false, false, false, false, false, false, false, false, false, false, false, false, false, false, false, false, false, false, false, false, false, false, false, false, false, false, false, false, false, false, false, false, false, false, false, false, false, false, false, false, false, false, false, false, false, false, false, false, false, false, false, false] (by as_aux_lemma => kernel_rfl) (by kernel_rfl) (by kernel_rfl) ?_; refine okT_takes [6, 7, 8, 9, 10, 11] _ _ 109 _ #[true, true, true, true, true, true, true, true, true, true, true, true, false, false, false, false, false, false, false, false, false, false, false, false, false, false, false, false, false, false, false, false, false, false, false, false, false, false, false, false, false, false, false, false, false, false, false, false, false, false, false, false, false, false, false, false, false, false, false, false, false, false, false, false, false, false, false, false, false, false, false, false, false, false, false, false, false, false, false, false, false, false, false, false, false, false, false, false, false, false, false, false, false, false, false, false, false, false, false, false, false, false, false, false, false, false, false, false, false, false, false, false, false, false, false, false, false, false, false, false, false] (by as_aux_lemma => kernel_rfl) (by kernel_rfl) (by kernel_rfl) ?_; refine okT_takes [12, 13, 14, 15, 16, 17] _ _ 103 _ #[true, true, true, true, true, true, true, true, true, true, true, true, true, true, true, true, true, true, false, false, false, false, false, false, false, false, false, false, false, false, false, false, false, false, false, false, false, false, false, false, false, false, false, false, false, false, false, false, false, false, false, false, false, false, false, false, false, false, false, false, false, false, false, false, false, false, false, false, false, false, false, false, false, false, false, false, false, false, false, false, false, false, false, false, false, false, false, false, false, false, false, false, false, false, false, false, false, false, false, false, false, false, false, false, false, false, false, false, false, false, false, false, false, false, false, false, false, false, false, false, false] (by as_aux_lemma => kernel_rfl) (by kernel_rfl) (by kernel_rfl) ?_; refine okT_takes [18, 19, 20, 21, 22, 23] _ _ 97 _ #[true, true, true, true, true, true, true, true, true, true, true, true, true, true, true, true, true, true, true, true, true, true, true, true, false, false, false, false, false, false, false, false, false, false, false, false, false, false, false, false, false, false, false, false, false, false, false, false, false, false, false, false, false, false, false, false, false, false, false, false, false, false, false, false, false, false, false, false, false, false, false, false, false, false, false, false, false, false, false, false, false, false, false, false, false, false, false, false, false, false, false, false, false, false, false, false, false, false, false, false, false, false, false, false, false, false, false, false, false, false, false, false, false, false, false, false, false, false, false, false, false] (by as_aux_lemma => kernel_rfl) (by kernel_rfl) (by kernel_rfl) ?_; refine okT_takes [24, 25, 26, 27, 28, 29] _ _ 91 _ #[true, true, true, true, true, true, true, true, true, true, true, true, true, true, true, true, true, true, true, true, true, true, true, true, true, true, true, true, true, true, false, false, false, false, false, false, false, false, false, false, false, false, false, false, false, false, false, false, false, false, false, false, false, false, false, false, false, false, false, false, false, false, false, false, false, false, false, false, false, false, false, false, false, false, false, false, false, false, false, false, false, false, false, false, false, false, false, false, false, false, false, false, false, false, false, false, false, false, false, false, false, false, false, false, false, false, false, false, false, false, false, false, false, false, false, false, false, false, false, false, false] (by as_aux_lemma => kernel_rfl) (by kernel_rfl) (by kernel_rfl) ?_; refine okT_takes [30, 31, 32, 33, 34, 35] _ _ 85 _ #[true, true, true, true, true, true, true, true, true, true, true, true, true, true, true, true, true, true, true, true, true, true, true, true, true, true, true, true, true, true, true, true, true, true, true, true, false, false, false, false, false, false, false, false, false, false, false, false, false, false, false, false, false, false, false, false, false, false, false, false, false, false, false, false, false, false, false, false, false, false, false, false, false, false, false, false, false, false, false, false, false, false, false, false, false, false, false, false, false, false, false, false, false, false, false, false, false, false, false, false, false, false, false, false, false, false, false, false, false, false, false, false, false, false, false, false, false, false, false, false, false] (by as_aux_lemma => kernel_rfl) (by kernel_rfl) (by kernel_rfl) ?_; refine okT_takes [36, 37, 38, 39, 40, 41] _ _ 79 _ #[true, true, true, true, true, true, true, true, true, true, true, true, true, true, true, true, true, true, true, true, true, true, true, true, true, true, true, true, true, true, true, true, true, true, true, true, true, true, true, true, true, true, false, false, false, false, false, false, false, false, false, false, false, false, false, false, false, false, false, false, false, false, false, false, false, false, false, false, false, false, false, false, false, false, false, false, false, false, false, false, false, false, false, false, false, false, false, false, false, false, false, false, false, false, false, false, false, false, false, false, false, false, false, false, false, false, false, false, false, false, false, false, false, false, false, false, false, false, false, false, false] (by as_aux_lemma => kernel_rfl) (by kernel_rfl) (by kernel_rfl) ?_; refine okT_takes [42, 43, 44, 45, 46, 47] _ _ 73 _ #[true, true, true, true, true, true, true, true, true, true, true, true, true, true, true, true, true, true, true, true, true, true, true, true, true, true, true, true, true, true, true, true, true, true, true, true, true, true, true, true, true, true, true, true, true, true, true, true, false, false, false, false, false, false, false, false, false, false, false, false, false, false, false, false, false, false, false, false, false, false, false, false, false, false, false, false, false, false, false, false, false, false, false, false, false, false, false, false, false, false, false, false, false, false, false, false, false, false, false, false, false, false, false, false, false, false, false, false, false, false, false, false, false, false, false, false, false, false, false, false, false] (by as_aux_lemma => kernel_rfl) (by kernel_rfl) (by kernel_rfl) ?_; refine okT_takes [48, 49, 50, 51, 52, 53] _ _ 67 _ #[true, true, true, true, true, true, true, true, true, true, true, true, true, true, true, true, true, true, true, true, true, true, true, true, true, true, true, true, true, true, true, true, true, true, true, true, true, true, true, true, true, true, true, true, true, true, true, true, true, true, true, true, true, true, false, false, false, false, false, false, false, false, false, false, false, false, false, false, false, false, false, false, false, false, false, false, false, false, false, false, false, false, false, false, false, false, false, false, false, false, false, false, false, false, false, false, false, false, false, false, false, false, false, false, false, false, false, false, false, false, false, false, false, false, false, false, false, false, false, false, false] (by as_aux_lemma => kernel_rfl) (by kernel_rfl) (by kernel_rfl) ?_; refine okT_takes [54, 55, 56, 57, 58, 59] _ _ 61 _ #[true, true, true, true, true, true, true, true, true, true, true, true, true, true, true, true, true, true, true, true, true, true, true, true, true, true, true, true, true, true, true, true, true, true, true, true, true, true, true, true, true, true, true, true, true, true, true, true, true, true, true, true, true, true, true, true, true, true, true, true, false, false, false, false, false, false, false, false, false, false, false, false, false, false, false, false, false, false, false, false, false, false, false, false, false, false, false, false, false, false, false, false, false, false, false, false, false, false, false, false, false, false, false, false, false, false, false, false, false, false, false, false, false, false, false, false, false, false, false, false, false] (by as_aux_lemma => kernel_rfl) (by kernel_rfl) (by kernel_rfl) ?_; refine okT_takes [60, 61, 62, 63, 64, 65] _ _ 55 _ #[true, true, true, true, true, true, true, true, true, true, true, true, true, true, true, true, true, true, true, true, true, true, true, true, true, true, true, true, true, true, true, true, true, true, true, true, true, true, true, true, true, true, true, true, true, true, true, true, true, true, true, true, true, true, true, true, true, true, true, true, true, true, true, true, true, true, false, false, false, false, false, false, false, false, false, false, false, false, false, false, false, false, false, false, false, false, false, false, false, false, false, false, false, false, false, false, false, false, false, false, false, false, false, false, false, false, false, false, false, false, false, false, false, false, false, false, false, false, false, false, false] (by as_aux_lemma => kernel_rfl) (by kernel_rfl) (by kernel_rfl) ?_; refine okT_takes [66, 67, 68, 69, 70, 71] _ _ 49 _ #[true, true, true, true, true, true, true, true, true, true, true, true, true, true, true, true, true, true, true, true, true, true, true, true, true, true, true, true, true, true, true, true, true, true, true, true, true, true, true, true, true, true, true, true, true, true, true, true, true, true, true, true, true, true, true, true, true, true, true, true, true, true, true, true, true, true, true, true, true, true, true, true, false, false, false, false, false, false, false, false, false, false, false, false, false, false, false, false, false, false, false, false, false, false, false, false, false, false, false, false, false, false, false, false, false, false, false, false, false, false, false, false, false, false, false, false, false, false, false, false, false] (by as_aux_lemma => kernel_rfl) (by kernel_rfl) (by kernel_rfl) ?_; refine okT_takes [72, 73, 74, 75, 76, 77] _ _ 43 _ #[true, true, true, true, true, true, true, true, true, true, true, true, true, true, true, true, true, true, true, true, true, true, true, true, true, true, true, true, true, true, true, true, true, true, true, true, true, true, true, true, true, true, true, true, true, true, true, true, true, true, true, true, true, true, true, true, true, true, true, true, true, true, true, true, true, true, true, true, true, true, true, true, true, true, true, true, true, true, false, false, false, false, false, false, false, false, false, false, false, false, false, false, false, false, false, false, false, false, false, false, false, false, false, false, false, false, false, false, false, false, false, false, false, false, false, false, false, false, false, false, false] (by as_aux_lemma => kernel_rfl) (by kernel_rfl) (by kernel_rfl) ?_; refine okT_takes [78, 79, 80, 81, 82, 83] _ _ 37 _ #[true, true, true, true, true, true, true, true, true, true, true, true, true, true, true, true, true, true, true, true, true, true, true, true, true, true, true, true, true, true, true, true, true, true, true, true, true, true, true, true, true, true, true, true, true, true, true, true, true, true, true, true, true, true, true, true, true, true, true, true, true, true, true, true, true, true, true, true, true, true, true, true, true, true, true, true, true, true, true, true, true, true, true, true, false, false, false, false, false, false, false, false, false, false, false, false, false, false, false, false, false, false, false, false, false, false, false, false, false, false, false, false, false, false, false, false, false, false, false, false, false] (by as_aux_lemma => kernel_rfl) (by kernel_rfl) (by kernel_rfl) ?_; refine okT_takes [84, 85, 86, 87, 88, 89] _ _ 31 _ #[true, true, true, true, true, true, true, true, true, true, true, true, true, true, true, true, true, true, true, true, true, true, true, true, true, true, true, true, true, true, true, true, true, true, true, true, true, true, true, true, true, true, true, true, true, true, true, true, true, true, true, true, true, true, true, true, true, true, true, true, true, true, true, true, true, true, true, true, true, true, true, true, true, true, true, true, true, true, true, true, true, true, true, true, true, true, true, true, true, true, false, false, false, false, false, false, false, false, false, false, false, false, false, false, false, false, false, false, false, false, false, false, false, false, false, false, false, false, false, false, false] (by as_aux_lemma => kernel_rfl) (by kernel_rfl) (by kernel_rfl) ?_; refine okT_takes [90, 91, 92, 93, 94, 95] _ _ 25 _ #[true, true, true, true, true, true, true, true, true, true, true, true, true, true, true, true, true, true, true, true, true, true, true, true, true, true, true, true, true, true, true, true, true, true, true, true, true, true, true, true, true, true, true, true, true, true, true, true, true, true, true, true, true, true, true, true, true, true, true, true, true, true, true, true, true, true, true, true, true, true, true, true, true, true, true, true, true, true, true, true, true, true, true, true, true, true, true, true, true, true, true, true, true, true, true, true, false, false, false, false, false, false, false, false, false, false, false, false, false, false, false, false, false, false, false, false, false, false, false, false, false] (by as_aux_lemma => kernel_rfl) (by kernel_rfl) (by kernel_rfl) ?_; refine okT_takes [96, 97, 98, 99, 100, 101] _ _ 19 _ #[true, true, true, true, true, true, true, true, true, true, true, true, true, true, true, true, true, true, true, true, true, true, true, true, true, true, true, true, true, true, true, true, true, true, true, true, true, true, true, true, true, true, true, true, true, true, true, true, true, true, true, true, true, true, true, true, true, true, true, true, true, true, true, true, true, true, true, true, true, true, true, true, true, true, true, true, true, true, true, true, true, true, true, true, true, true, true, true, true, true, true, true, true, true, true, true, true, true, true, true, true, true, false, false, false, false, false, false, false, false, false, false, false, false, false, false, false, false, false, false, false] (by as_aux_lemma => kernel_rfl) (by kernel_rfl) (by kernel_rfl) ?_; refine okT_takes [102, 103, 104, 105, 106, 107] _ _ 13 _ #[true, true, true, true, true, true, true, true, true, true, true, true, true, true, true, true, true, true, true, true, true, true, true, true, true, true, true, true, true, true, true, true, true, true, true, true, true, true, true, true, true, true, true, true, true, true, true, true, true, true, true, true, true, true, true, true, true, true, true, true, true, true, true, true, true, true, true, true, true, true, true, true, true, true, true, true, true, true, true, true, true, true, true, true, true, true, true, true, true, true, true, true, true, true, true, true, true, true, true, true, true, true, true, true, true, true, true, true, false, false, false, false, false, false, false, false, false, false, false, false, false] (by as_aux_lemma => kernel_rfl) (by kernel_rfl) (by kernel_rfl) ?_; refine okT_takes [108, 109, 110, 111, 112, 113] _ _ 7 _ #[true, true, true, true, true, true, true, true, true, true, true, true, true, true, true, true, true, true, true, true, true, true, true, true, true, true, true, true, true, true, true, true, true, true, true, true, true, true, true, true, true, true, true, true, true, true, true, true, true, true, true, true, true, true, true, true, true, true, true, true, true, true, true, true, true, true, true, true, true, true, true, true, true, true, true, true, true, true, true, true, true, true, true, true, true, true, true, true, true, true, true, true, true, true, true, true, true, true, true, true, true, true, true, true, true, true, true, true, true, true, true, true, true, true, false, false, false, false, false, false, false] (by as_aux_lemma => kernel_rfl) (by kernel_rfl) (by kernel_rfl) ?_; refine okT_takes [114, 115, 116, 117, 118, 119] _ _ 1 _ #[true, true, true, true, true, true, true, true, true, true, true, true, true, true, true, true, true, true, true, true, true, true, true, true, true, true, true, true, true, true, true, true, true, true, true, true, true, true, true, true, true, true, true, true, true, true, true, true, true, true, true, true, true, true, true, true, true, true, true, true, true, true, true, true, true, true, true, true, true, true, true, true, true, true, true, true, true, true, true, true, true, true, true, true, true, true, true, true, true, true, true, true, true, true, true, true, true, true, true, true, true, true, true, true, true, true, true, true, true, true, true, true, true, true, true, true, true, true, true, true, false] (by as_aux_lemma => kernel_rfl) (by kernel_rfl) (by kernel_rfl) ?_; refine okT_takes [120] _ _ 0 _ #[true, true, true, true, true, true, true, true, true, true, true, true, true, true, true, true, true, true, true, true, true, true, true, true, true, true, true, true, true, true, true, true, true, true, true, true, true, true, true, true, true, true, true, true, true, true, true, true, true, true, true, true, true, true, true, true, true, true, true, true, true, true, true, true, true, true, true, true, true, true, true, true, true, true, true, true, true, true, true, true, true, true, true, true, true, true, true, true, true, true, true, true, true, true, true, true, true, true, true, true, true, true, true, true, true, true, true, true, true, true, true, true, true, true, true, true, true, true, true, true, true] (by as_aux_lemma => kernel_rfl) (by kernel_rfl) (by kernel_rfl) ?_; as_aux_lemma => kernel_rfl) (fun _ _ _ _ _ h => h) ((Ext.refl X).drew) ?_
  refine treeTakesW (a' := ?_) ⟨_, (Ext.refl X).drew⟩ 257 [0, 1, 2, 3, 4, 5, 6, 7, 8, 9, 10, 11, 12, 13, 14, 15, 16, 17, 18, 19, 20, 21, 22, 23, 24, 25, 26, 27, 28, 29, 30, 31, 32, 33, 34, 35, 36, 37, 38, 39, 40, 41, 42, 43, 44, 45, 46, 47, 48, 49, 50, 51, 52, 53, 54, 55, 56, 57, 58, 59, 60, 61, 62, 63, 64, 65, 66, 67, 68, 69, 70, 71, 72, 73, 74, 75, 76, 77, 78, 79, 80, 81, 82, 83, 84, 85] (by kernel_rfl) (by kernel_rfl) ?_ ?_
  rotate_left
  · intro V hV
    obtain ⟨h1, h2, h3, h4, h5, h6, h7, h8, h9, h10, h11, h12, h13, h14, h15, h16, h17, h18, h19, h20, h21, h22, h23, h24, h25, h26⟩ := HS.out V hV
    clear h14 h15 h16 h17 h18 h26
    repeat (refine wpW_cons (x := ?_) (by rfl) rfl rfl rfl ?_ ?_; rotate_left; (focus (intro Q' hq; (repeat (first | go_guarded | go_skip | go_step)); (first | exact hq | exact wpList_nil hq))))
    exact wpW_nil
  rcases he : m.he with _ | _
  all_goals
    refine treeTakesW (a' := ?_) ⟨_, (Ext.refl X).drew⟩ 257 [86, 87, 88, 89, 90] (by kernel_rfl) (by kernel_rfl) ?_ ?_
    rotate_left
    · intro V hV
      obtain ⟨h1, h2, h3, h4, h5, h6, h7, h8, h9, h10, h11, h12, h13, h14, h15, h16, h17, h18, h19, h20, h21, h22, h23, h24, h25, h26⟩ := HS.out V hV
      rw [he] at h13 h25
      have h27 := h26
      rw [he] at h27
      try replace h27 := h27 rfl
      clear h1 h2 h3 h4 h5 h6 h7 h8 h9 h10 h11 h12 h17 h18 h19 h20 h21 h22 h23 h24 h26
      repeat (refine wpW_cons (x := ?_) (by rfl) rfl rfl rfl ?_ ?_; rotate_left; (focus (intro Q' hq; (repeat (first | go_guarded | go_skip | go_step)); (first | exact hq | exact wpList_nil hq))))
      exact wpW_nil
    refine treeTakesW (a' := ?_) ⟨_, (Ext.refl X).drew⟩ 257 [91, 92, 93, 94] (by kernel_rfl) (by kernel_rfl) ?_ ?_
    rotate_left
    · intro V hV
      obtain ⟨h1, h2, h3, h4, h5, h6, h7, h8, h9, h10, h11, h12, h13, h14, h15, h16, h17, h18, h19, h20, h21, h22, h23, h24, h25, h26⟩ := HS.out V hV
      rw [he] at h13 h25
      have h27 := h26
      rw [he] at h27
      try replace h27 := h27 rfl
      clear h1 h2 h3 h4 h5 h6 h7 h8 h9 h10 h11 h12 h17 h18 h19 h20 h21 h22 h23 h24 h26
      repeat (refine wpW_cons (x := ?_) (by rfl) rfl rfl rfl ?_ ?_; rotate_left; (focus (intro Q' hq; (repeat (first | (refine wpList_notW (by rfl) ?_; simp only [Act.put, List.setIfInBounds_toArray, List.set_cons_zero, List.set_cons_succ]) | go_guarded | go_skip | go_step)); (first | exact hq | exact wpList_nil hq))))
      exact wpW_nil
    refine treeTakesW (a' := ?_) ⟨_, (Ext.refl X).drew⟩ 257 [95, 96, 97, 98, 99, 100, 101, 102, 103, 104, 105, 106, 107] (by kernel_rfl) (by kernel_rfl) ?_ ?_
    rotate_left
    · intro V hV
      obtain ⟨h1, h2, h3, h4, h5, h6, h7, h8, h9, h10, h11, h12, h13, h14, h15, h16, h17, h18, h19, h20, h21, h22, h23, h24, h25, h26⟩ := HS.out V hV
      rw [he] at h13 h25
      have h27 := h26
      rw [he] at h27
      try replace h27 := h27 rfl
      clear h1 h2 h3 h4 h5 h6 h7 h8 h9 h10 h11 h12 h17 h18 h19 h20 h21 h22 h23 h24 h26
      repeat (refine wpW_cons (x := ?_) (by rfl) rfl rfl rfl ?_ ?_; rotate_left; (focus (intro Q' hq; (repeat (first | go_guarded | go_skip | go_step)); (first | exact hq | exact wpList_nil hq))))
      exact wpW_nil
    rcases htc : tc with _ | _
    · refine treeTakesW (a' := ?_) ⟨_, (Ext.refl X).drew⟩ 257 [108, 109, 110, 111, 112, 113] (by kernel_rfl) (by kernel_rfl) ?_ ?_
      rotate_left
      · intro V hV
        obtain ⟨h1, h2, h3, h4, h5, h6, h7, h8, h9, h10, h11, h12, h13, h14, h15, h16, h17, h18, h19, h20, h21, h22, h23, h24, h25, h26⟩ := HS.out V hV
        clear h1 h2 h3 h4 h5 h6 h7 h8 h9 h10 h11 h12 h13 h14 h15 h19 h20 h21 h22 h23 h24 h25 h26
        repeat (refine wpW_cons (x := ?_) (by rfl) rfl rfl rfl ?_ ?_; rotate_left; (focus (intro Q' hq; (repeat (first | go_guarded | go_skip | go_step)); (first | exact hq | exact wpList_nil hq))))
        exact wpW_nil
      refine treeTakesW (a' := ?_) ⟨_, (Ext.refl X).drew⟩ 257 [114, 115, 116, 117] (by kernel_rfl) (by kernel_rfl) ?_ ?_
      rotate_left
      · intro V hV
        obtain ⟨h1, h2, h3, h4, h5, h6, h7, h8, h9, h10, h11, h12, h13, h14, h15, h16, h17, h18, h19, h20, h21, h22, h23, h24, h25, h26⟩ := HS.out V hV
        clear h1 h2 h3 h4 h5 h6 h7 h8 h9 h10 h11 h12 h13 h14 h15 h19 h20 h21 h22 h23 h24 h25 h26
        repeat (refine wpW_cons (x := ?_) (by rfl) rfl rfl rfl ?_ ?_; rotate_left; (focus (intro Q' hq; (repeat (first | (refine wpList_notW (by rfl) ?_; simp only [Act.put, List.setIfInBounds_toArray, List.set_cons_zero, List.set_cons_succ]) | go_guarded | go_skip | go_step)); (first | exact hq | exact wpList_nil hq))))
        exact wpW_nil
      refine treeTakesW (a' := ?_) ⟨_, (Ext.refl X).drew⟩ 257 [118, 119, 120] (by kernel_rfl) (by kernel_rfl) ?_ ?_
      rotate_left
      · intro V hV
        obtain ⟨h1, h2, h3, h4, h5, h6, h7, h8, h9, h10, h11, h12, h13, h14, h15, h16, h17, h18, h19, h20, h21, h22, h23, h24, h25, h26⟩ := HS.out V hV
        clear h1 h2 h3 h4 h5 h6 h7 h8 h9 h10 h11 h12 h13 h14 h15 h19 h20 h21 h22 h23 h24 h25 h26
        repeat (refine wpW_cons (x := ?_) (by rfl) rfl rfl rfl ?_ ?_; rotate_left; (focus (intro Q' hq; (repeat (first | go_guarded | go_skip | go_step)); (first | exact hq | exact wpList_nil hq))))
        exact wpW_nil
      refine treeDone ?_
      refine NoPanic.normal ?_
      exact hQ _ _ _ _ _ _ _ _ _ _ _ _ _ _ _ _ _ _ _ _ _ _ _ _ _ _ _ _ _ _ _ _ _ _ _ _ _ _ _ _ _ _ _ _ _ _ _ _ _ _ _ _ _ _ _ _ _ _ _ _ _ _ _ _ _ _ _ _ _ _ _ _ _ _ _ _ _ _ _ _ _ _ _ _ _ _ _ _ _ _ _ _ _ _ _ _ _ _ _ _ _ _ _ _ _ _ _ _ _ _ _ _ _ _ _ _ _ _ _ _ _ (Ext.refl X).drew
    · obtain ⟨n1, n2⟩ := htz htc
      refine treeTakesW (a' := ?_) ⟨_, (Ext.refl X).drew⟩ 257 [108, 109, 110, 111, 112, 113] (by kernel_rfl) (by kernel_rfl) ?_ ?_
      rotate_left
      · intro V hV
        obtain ⟨h1, h2, h3, h4, h5, h6, h7, h8, h9, h10, h11, h12, h13, h14, h15, h16, h17, h18, h19, h20, h21, h22, h23, h24, h25, h26⟩ := HS.out V hV
        rw [n1] at h17
        rw [n2] at h18
        clear h1 h2 h3 h4 h5 h6 h7 h8 h9 h10 h11 h12 h13 h14 h15 h19 h20 h21 h22 h23 h24 h25 h26
        repeat (refine wpW_cons (x := ?_) (by rfl) rfl rfl rfl ?_ ?_; rotate_left; (focus (intro Q' hq; (repeat (first | go_guarded | go_skip | go_step)); (first | exact hq | exact wpList_nil hq))))
        exact wpW_nil
      refine treeTakesW (a' := ?_) ⟨_, (Ext.refl X).drew⟩ 257 [114, 115, 116, 117] (by kernel_rfl) (by kernel_rfl) ?_ ?_
      rotate_left
      · intro V hV
        obtain ⟨h1, h2, h3, h4, h5, h6, h7, h8, h9, h10, h11, h12, h13, h14, h15, h16, h17, h18, h19, h20, h21, h22, h23, h24, h25, h26⟩ := HS.out V hV
        rw [n1] at h17
        rw [n2] at h18
        clear h1 h2 h3 h4 h5 h6 h7 h8 h9 h10 h11 h12 h13 h14 h15 h19 h20 h21 h22 h23 h24 h25 h26
        repeat (refine wpW_cons (x := ?_) (by rfl) rfl rfl rfl ?_ ?_; rotate_left; (focus (intro Q' hq; (repeat (first | (refine wpList_notW (by rfl) ?_; simp only [Act.put, List.setIfInBounds_toArray, List.set_cons_zero, List.set_cons_succ]) | go_guarded | go_skip | go_step)); (first | exact hq | exact wpList_nil hq))))
        exact wpW_nil
      refine treeTakesW (a' := ?_) ⟨_, (Ext.refl X).drew⟩ 257 [118, 119, 120] (by kernel_rfl) (by kernel_rfl) ?_ ?_
      rotate_left
      · intro V hV
        obtain ⟨h1, h2, h3, h4, h5, h6, h7, h8, h9, h10, h11, h12, h13, h14, h15, h16, h17, h18, h19, h20, h21, h22, h23, h24, h25, h26⟩ := HS.out V hV
        rw [n1] at h17
        rw [n2] at h18
        clear h1 h2 h3 h4 h5 h6 h7 h8 h9 h10 h11 h12 h13 h14 h15 h19 h20 h21 h22 h23 h24 h25 h26
        repeat (refine wpW_cons (x := ?_) (by rfl) rfl rfl rfl ?_ ?_; rotate_left; (focus (intro Q' hq; (repeat (first | go_guarded | go_skip | go_step)); (first | exact hq | exact wpList_nil hq))))
        exact wpW_nil
      refine treeDone ?_
      refine NoPanic.normal ?_
      exact hQ _ _ _ _ _ _ _ _ _ _ _ _ _ _ _ _ _ _ _ _ _ _ _ _ _ _ _ _ _ _ _ _ _ _ _ _ _ _ _ _ _ _ _ _ _ _ _ _ _ _ _ _ _ _ _ _ _ _ _ _ _ _ _ _ _ _ _ _ _ _ _ _ _ _ _ _ _ _ _ _ _ _ _ _ _ _ _ _ _ _ _ _ _ _ _ _ _ _ _ _ _ _ _ _ _ _ _ _ _ _ _ _ _ _ _ _ _ _ _ _ _ (Ext.refl X).drew
noncomputable def rfits_r16C : Code := ((Tryz.f4.body).bind (findC 16 400)).getD .skip
set_option maxHeartbeats 40000000 in
theorem rfits_r16 {Q : Exit → Act → World → Prop} {f0 f1 f2 f3 f4 f5 f6 f7 f9 f10 f11 f12 f13 f14 f15 f16 f17 f18 f19 f20 f21 f22 f23 f24 f25 f26 f27 f28 f29 f30 f31 f32 f33 f34 f35 f36 f37 f38 f39 f40 f41 f42 f43 f44 f45 f46 f47 f48 f49 f50 f51 f52 f53 f54 f55 f56 f57 f58 f59 f60 f61 f62 f63 f64 f65 f66 f67 f68 f69 f70 f71 f72 f73 f74 f75 f76 f77 f78 f79 f80 f81 f82 f83 f84 f85 f86 f87 f88 f89 f90 f91 f92 f93 f94 f95 f96 f97 f98 f99 f100 f101 f102 f103 f104 f105 f106 f107 f108 f109 f110 f111 f112 f113 f114 f115 f116 f117 f118 f119 f120 f121 f122 f123 f124 f125 f126 f127 f128 f129 f130 f131 f132 f133 f134 f135 f136 f137 f138 f139 f140 f141 f142 f143 f144 f145 f146 f147 f148 f149 f150 f151 f152 f153 f154 f155 f156 f157 f158 f159 f160 f161 f162 f163 f164 f165 f166 f167 f168 f169 f170 f171 f172 f173 f174 f175 f176 f177 f178 f179 f180 f181 f182 f183 f184 f185 f186 f187 f188 f189 f190 f191 f192 f193 f194 f195 f196 f197 f198 f199 f200 f201 f202 f203 f204 f205 f206 f207 f208 f209 f210 f211 f212 f213 f214 f215 f216 f217 f218 f219 f220 f221 f222 f223 f224 f225 f226 f227 f228 f229 f230 f231 f232 f233 f234 f235 f236 f237 f238 f239 f240 f241 f242 f243 f244 f245 f246 f247 f248 f249 f250 f251 f252 f253 f254 f255 f256 : Value} {x : QD} {b8 rb ro rc : Nat} {old : Array Value} (X : World) (hx : x.name.length ≤ maxLen) (HS0 : ∀ V, Ext X V → V.cell? ⟨b8, 11, none⟩ = some (.slice (some ⟨rb, ro, none⟩) 1 rc) ∧ V.cell? ⟨rb, ro, none⟩ = some (S x.name) ∧ V.cell? ⟨rb, ro + 1, none⟩ = some (.int .u16 x.typ) ∧ V.cell? ⟨rb, ro + 2, none⟩ = some (.int .u16 x.cls)) (hB : X.heap[b8]? = some (.cells old 45))
    (hQ : ∀ (t200 t201 t202 t203 t204 t205 t206 t207 t208 t209 t210 t211 t212 t213 t214 t215 t216 t217 t218 : Value) (V : World) (g : Nat) (U : World), Ext X U → X.heap.size ≤ g → U.heap[g]? = some (.cells #[S (fold x.name), .int .u16 x.typ, .int .u16 x.cls] 32) → V = U.setCell ⟨b8, 11, none⟩ (.slice (some ⟨g, 0, none⟩) 1 1) → Q .normal ⟨(f0 :: f1 :: f2 :: f3 :: f4 :: f5 :: f6 :: f7 :: .pointer (some ⟨b8, 0, none⟩) :: f9 :: f10 :: f11 :: f12 :: f13 :: f14 :: f15 :: f16 :: f17 :: f18 :: f19 :: f20 :: f21 :: f22 :: f23 :: f24 :: f25 :: f26 :: f27 :: f28 :: f29 :: f30 :: f31 :: f32 :: f33 :: f34 :: f35 :: f36 :: f37 :: f38 :: f39 :: f40 :: f41 :: f42 :: f43 :: f44 :: f45 :: f46 :: f47 :: f48 :: f49 :: f50 :: f51 :: f52 :: f53 :: f54 :: f55 :: f56 :: f57 :: f58 :: f59 :: f60 :: f61 :: f62 :: f63 :: f64 :: f65 :: f66 :: f67 :: f68 :: f69 :: f70 :: f71 :: f72 :: f73 :: f74 :: f75 :: f76 :: f77 :: f78 :: f79 :: f80 :: f81 :: f82 :: f83 :: f84 :: f85 :: f86 :: f87 :: f88 :: f89 :: f90 :: f91 :: f92 :: f93 :: f94 :: f95 :: f96 :: f97 :: f98 :: f99 :: f100 :: f101 :: f102 :: f103 :: f104 :: f105 :: f106 :: f107 :: f108 :: f109 :: f110 :: f111 :: f112 :: f113 :: f114 :: f115 :: f116 :: f117 :: f118 :: f119 :: f120 :: f121 :: f122 :: f123 :: f124 :: f125 :: f126 :: f127 :: f128 :: f129 :: f130 :: f131 :: f132 :: f133 :: f134 :: f135 :: f136 :: f137 :: f138 :: f139 :: f140 :: f141 :: f142 :: f143 :: f144 :: f145 :: f146 :: f147 :: f148 :: f149 :: f150 :: f151 :: f152 :: f153 :: f154 :: f155 :: f156 :: f157 :: f158 :: f159 :: f160 :: f161 :: f162 :: f163 :: f164 :: f165 :: f166 :: f167 :: f168 :: f169 :: f170 :: f171 :: f172 :: f173 :: f174 :: f175 :: f176 :: f177 :: f178 :: f179 :: f180 :: f181 :: f182 :: f183 :: f184 :: f185 :: f186 :: f187 :: f188 :: f189 :: f190 :: f191 :: f192 :: f193 :: f194 :: f195 :: f196 :: f197 :: f198 :: f199 :: t200 :: t201 :: t202 :: t203 :: t204 :: t205 :: t206 :: t207 :: t208 :: t209 :: t210 :: t211 :: t212 :: t213 :: t214 :: t215 :: t216 :: t217 :: t218 :: f219 :: f220 :: f221 :: f222 :: f223 :: f224 :: f225 :: f226 :: f227 :: f228 :: f229 :: f230 :: f231 :: f232 :: f233 :: f234 :: f235 :: f236 :: f237 :: f238 :: f239 :: f240 :: f241 :: f242 :: f243 :: f244 :: f245 :: f246 :: f247 :: f248 :: f249 :: f250 :: f251 :: f252 :: f253 :: f254 :: f255 :: f256 :: []).toArray, []⟩ V) :
    Code.wp Tryz.prog rfits_r16C Q ⟨(f0 :: f1 :: f2 :: f3 :: f4 :: f5 :: f6 :: f7 :: .pointer (some ⟨b8, 0, none⟩) :: f9 :: f10 :: f11 :: f12 :: f13 :: f14 :: f15 :: f16 :: f17 :: f18 :: f19 :: f20 :: f21 :: f22 :: f23 :: f24 :: f25 :: f26 :: f27 :: f28 :: f29 :: f30 :: f31 :: f32 :: f33 :: f34 :: f35 :: f36 :: f37 :: f38 :: f39 :: f40 :: f41 :: f42 :: f43 :: f44 :: f45 :: f46 :: f47 :: f48 :: f49 :: f50 :: f51 :: f52 :: f53 :: f54 :: f55 :: f56 :: f57 :: f58 :: f59 :: f60 :: f61 :: f62 :: f63 :: f64 :: f65 :: f66 :: f67 :: f68 :: f69 :: f70 :: f71 :: f72 :: f73 :: f74 :: f75 :: f76 :: f77 :: f78 :: f79 :: f80 :: f81 :: f82 :: f83 :: f84 :: f85 :: f86 :: f87 :: f88 :: f89 :: f90 :: f91 :: f92 :: f93 :: f94 :: f95 :: f96 :: f97 :: f98 :: f99 :: f100 :: f101 :: f102 :: f103 :: f104 :: f105 :: f106 :: f107 :: f108 :: f109 :: f110 :: f111 :: f112 :: f113 :: f114 :: f115 :: f116 :: f117 :: f118 :: f119 :: f120 :: f121 :: f122 :: f123 :: f124 :: f125 :: f126 :: f127 :: f128 :: f129 :: f130 :: f131 :: f132 :: f133 :: f134 :: f135 :: f136 :: f137 :: f138 :: f139 :: f140 :: f141 :: f142 :: f143 :: f144 :: f145 :: f146 :: f147 :: f148 :: f149 :: f150 :: f151 :: f152 :: f153 :: f154 :: f155 :: f156 :: f157 :: f158 :: f159 :: f160 :: f161 :: f162 :: f163 :: f164 :: f165 :: f166 :: f167 :: f168 :: f169 :: f170 :: f171 :: f172 :: f173 :: f174 :: f175 :: f176 :: f177 :: f178 :: f179 :: f180 :: f181 :: f182 :: f183 :: f184 :: f185 :: f186 :: f187 :: f188 :: f189 :: f190 :: f191 :: f192 :: f193 :: f194 :: f195 :: f196 :: f197 :: f198 :: f199 :: f200 :: f201 :: f202 :: f203 :: f204 :: f205 :: f206 :: f207 :: f208 :: f209 :: f210 :: f211 :: f212 :: f213 :: f214 :: f215 :: f216 :: f217 :: f218 :: f219 :: f220 :: f221 :: f222 :: f223 :: f224 :: f225 :: f226 :: f227 :: f228 :: f229 :: f230 :: f231 :: f232 :: f233 :: f234 :: f235 :: f236 :: f237 :: f238 :: f239 :: f240 :: f241 :: f242 :: f243 :: f244 :: f245 :: f246 :: f247 :: f248 :: f249 :: f250 :: f251 :: f252 :: f253 :: f254 :: f255 :: f256 :: []).toArray, []⟩ X := by
  conv => arg 2; whnf
  have HS := Lib.hid HS0
  have HNf := Lib.hid (fun V => name_fold x.name V hx)
  clear HS0
  refine wp_region_noPanic ?_
  refine wp_region_held (S := fun _ => True) rfl ?_
  refine invStartL (S := fun V => Ext X V) (R := fun V V' => Ext V V') (F := fun i v V => FitF X x b8 rb ro rc i v V) (js := [(0, 200), (1, 201), (2, 202), (3, 203), (4, 204), (5, 205), (6, 206), (7, 207), (8, 208), (9, 209), (10, 210), (11, 211), (12, 212), (13, 213), (14, 214), (15, 215), (16, 216), (17, 217), (18, 218)]) (s := 19) (by kernel_rfl) (by kernel_rfl) (fun V V' h1 h2 => h1.trans h2) (fun i v V V' _ hE h => FitF.mono hE h) ((Ext.refl X).drew) (fun mk hmk0 => ?_)
  have hmk : ∀ xs, mk xs = putXs [(0, 200), (1, 201), (2, 202), (3, 203), (4, 204), (5, 205), (6, 206), (7, 207), (8, 208), (9, 209), (10, 210), (11, 211), (12, 212), (13, 213), (14, 214), (15, 215), (16, 216), (17, 217), (18, 218)] _ xs := fun xs => by rw [hmk0]
  simp only [putXs, Act.put, List.setIfInBounds_toArray, List.set_cons_zero, List.set_cons_succ] at hmk
  refine ⟨⟨?_, ?_, ?_, ?_, ?_, ?_, ?_, ?_, ?_, ?_, ?_, ?_, ?_, ?_, ?_, ?_, ?_, ?_, ?_, trivial⟩, ?_⟩
  · refine stepI hmk0 (by rfl) rfl (by kernel_rfl) ?_
    intro xs V Q' hS hf hq hP
    rw [hmk xs] at hq ⊢
    simp only [Act.put, List.setIfInBounds_toArray, List.set_cons_zero, List.set_cons_succ] at hq
    clear hf hP
    (repeat (first | go_guarded | go_step))
    (try with_reducible refine wpList_nil ?_)
    refine hq.out _ _ (Ext.refl V) ?_
    exact ⟨fun h => absurd h (by decide), fun u hu => by rw [← Option.some.inj (show some (.pointer (some ⟨b8, 11, none⟩)) = some u from hu)]⟩
  · refine stepI hmk0 (by rfl) rfl (by kernel_rfl) ?_
    intro xs V Q' hS hf hq hP
    have f0 : xs 0 = .pointer (some ⟨b8, 11, none⟩) := (hf 0 (by kernel_rfl)).2 _ rfl
    rw [hmk xs] at hq ⊢
    simp only [Act.put, List.setIfInBounds_toArray, List.set_cons_zero, List.set_cons_succ] at hq
    clear hf hP
    have c1 := (HS.out V hS).1
    generalize xs 0 = y0 at *
    subst f0
    (repeat (first | go_guarded | go_step))
    (try with_reducible refine wpList_nil ?_)
    refine hq.out _ _ (Ext.refl V) ?_
    exact ⟨fun h => absurd h (by decide), fun u hu => by rw [← Option.some.inj (show some (.slice (some ⟨rb, ro, none⟩) 1 rc) = some u from hu)]⟩
  · refine stepI hmk0 (by rfl) rfl (by kernel_rfl) ?_
    intro xs V Q' hS hf hq hP
    have f1 : xs 1 = .slice (some ⟨rb, ro, none⟩) 1 rc := (hf 1 (by kernel_rfl)).2 _ rfl
    rw [hmk xs] at hq ⊢
    simp only [Act.put, List.setIfInBounds_toArray, List.set_cons_zero, List.set_cons_succ] at hq
    clear hf hP
    generalize xs 1 = y1 at *
    subst f1
    (repeat (first | go_guarded | go_step))
    (try with_reducible refine wpList_nil ?_)
    refine hq.out _ _ (Ext.refl V) ?_
    exact ⟨fun h => absurd h (by decide), fun u hu => by rw [← Option.some.inj (show some (.pointer (some ⟨rb, ro, none⟩)) = some u from hu)]⟩
  · refine stepI hmk0 (by rfl) rfl (by kernel_rfl) ?_
    intro xs V Q' hS hf hq hP
    have f2 : xs 2 = .pointer (some ⟨rb, ro, none⟩) := (hf 2 (by kernel_rfl)).2 _ rfl
    rw [hmk xs] at hq ⊢
    simp only [Act.put, List.setIfInBounds_toArray, List.set_cons_zero, List.set_cons_succ] at hq
    clear hf hP
    generalize xs 2 = y2 at *
    subst f2
    (repeat (first | go_guarded | go_step))
    (try with_reducible refine wpList_nil ?_)
    refine hq.out _ _ (Ext.refl V) ?_
    exact ⟨fun h => absurd h (by decide), fun u hu => by rw [← Option.some.inj (show some (.pointer (some ⟨rb, ro, none⟩)) = some u from hu)]⟩
  · refine stepI hmk0 (by rfl) rfl (by kernel_rfl) ?_
    intro xs V Q' hS hf hq hP
    have f3 : xs 3 = .pointer (some ⟨rb, ro, none⟩) := (hf 3 (by kernel_rfl)).2 _ rfl
    rw [hmk xs] at hq ⊢
    simp only [Act.put, List.setIfInBounds_toArray, List.set_cons_zero, List.set_cons_succ] at hq
    clear hf hP
    have c1 := (HS.out V hS).2.1
    generalize xs 3 = y3 at *
    subst f3
    (repeat (first | go_guarded | go_step))
    (try with_reducible refine wpList_nil ?_)
    refine hq.out _ _ (Ext.refl V) ?_
    exact ⟨fun h => absurd h (by decide), fun u hu => by rw [← Option.some.inj (show some (S x.name) = some u from hu)]⟩
  · refine stepI hmk0 (by rfl) rfl (by kernel_rfl) ?_
    intro xs V Q' hS hf hq hP
    have f4 : xs 4 = S x.name := (hf 4 (by kernel_rfl)).2 _ rfl
    rw [hmk xs] at hq ⊢
    simp only [Act.put, List.setIfInBounds_toArray, List.set_cons_zero, List.set_cons_succ] at hq
    clear hf hP
    generalize xs 4 = y4 at *
    subst f4
    iterate 2 go_step
    go_at_call 19
    refine (HNf.out _).mono ?_
    rintro e wz ⟨rfl, hEz⟩
    (try dsimp only)
    (repeat (first | go_values | go_skip | go_guarded | go_step | go_upon | go_back))
    (try with_reducible refine wpList_nil ?_)
    refine hq.out _ _ hEz ?_
    exact ⟨fun h => absurd h (by decide), fun u hu => by rw [← Option.some.inj (show some (S (fold x.name)) = some u from hu)]⟩
  · refine stepI hmk0 (by rfl) rfl (by kernel_rfl) ?_
    intro xs V Q' hS hf hq hP
    rw [hmk xs] at hq ⊢
    simp only [Act.put, List.setIfInBounds_toArray, List.set_cons_zero, List.set_cons_succ] at hq
    clear hf hP
    (repeat (first | go_guarded | go_step))
    (try with_reducible refine wpList_nil ?_)
    refine hq.out _ _ (Ext.refl V) ?_
    exact ⟨fun h => absurd h (by decide), fun u hu => by rw [← Option.some.inj (show some (.pointer (some ⟨b8, 11, none⟩)) = some u from hu)]⟩
  · refine stepI hmk0 (by rfl) rfl (by kernel_rfl) ?_
    intro xs V Q' hS hf hq hP
    have f6 : xs 6 = .pointer (some ⟨b8, 11, none⟩) := (hf 6 (by kernel_rfl)).2 _ rfl
    rw [hmk xs] at hq ⊢
    simp only [Act.put, List.setIfInBounds_toArray, List.set_cons_zero, List.set_cons_succ] at hq
    clear hf hP
    have c1 := (HS.out V hS).1
    generalize xs 6 = y6 at *
    subst f6
    (repeat (first | go_guarded | go_step))
    (try with_reducible refine wpList_nil ?_)
    refine hq.out _ _ (Ext.refl V) ?_
    exact ⟨fun h => absurd h (by decide), fun u hu => by rw [← Option.some.inj (show some (.slice (some ⟨rb, ro, none⟩) 1 rc) = some u from hu)]⟩
  · refine stepI hmk0 (by rfl) rfl (by kernel_rfl) ?_
    intro xs V Q' hS hf hq hP
    have f7 : xs 7 = .slice (some ⟨rb, ro, none⟩) 1 rc := (hf 7 (by kernel_rfl)).2 _ rfl
    rw [hmk xs] at hq ⊢
    simp only [Act.put, List.setIfInBounds_toArray, List.set_cons_zero, List.set_cons_succ] at hq
    clear hf hP
    generalize xs 7 = y7 at *
    subst f7
    (repeat (first | go_guarded | go_step))
    (try with_reducible refine wpList_nil ?_)
    refine hq.out _ _ (Ext.refl V) ?_
    exact ⟨fun h => absurd h (by decide), fun u hu => by rw [← Option.some.inj (show some (.pointer (some ⟨rb, ro, none⟩)) = some u from hu)]⟩
  · refine stepI hmk0 (by rfl) rfl (by kernel_rfl) ?_
    intro xs V Q' hS hf hq hP
    have f8 : xs 8 = .pointer (some ⟨rb, ro, none⟩) := (hf 8 (by kernel_rfl)).2 _ rfl
    rw [hmk xs] at hq ⊢
    simp only [Act.put, List.setIfInBounds_toArray, List.set_cons_zero, List.set_cons_succ] at hq
    clear hf hP
    generalize xs 8 = y8 at *
    subst f8
    (repeat (first | go_guarded | go_step))
    (try with_reducible refine wpList_nil ?_)
    refine hq.out _ _ (Ext.refl V) ?_
    exact ⟨fun h => absurd h (by decide), fun u hu => by rw [← Option.some.inj (show some (.pointer (some ⟨rb, ro + 1, none⟩)) = some u from hu)]⟩
  · refine stepI hmk0 (by rfl) rfl (by kernel_rfl) ?_
    intro xs V Q' hS hf hq hP
    have f9 : xs 9 = .pointer (some ⟨rb, ro + 1, none⟩) := (hf 9 (by kernel_rfl)).2 _ rfl
    rw [hmk xs] at hq ⊢
    simp only [Act.put, List.setIfInBounds_toArray, List.set_cons_zero, List.set_cons_succ] at hq
    clear hf hP
    have c1 := (HS.out V hS).2.2.1
    generalize xs 9 = y9 at *
    subst f9
    (repeat (first | go_guarded | go_step))
    (try with_reducible refine wpList_nil ?_)
    refine hq.out _ _ (Ext.refl V) ?_
    exact ⟨fun h => absurd h (by decide), fun u hu => by rw [← Option.some.inj (show some (.int .u16 x.typ) = some u from hu)]⟩
  · refine stepI hmk0 (by rfl) rfl (by kernel_rfl) ?_
    intro xs V Q' hS hf hq hP
    rw [hmk xs] at hq ⊢
    simp only [Act.put, List.setIfInBounds_toArray, List.set_cons_zero, List.set_cons_succ] at hq
    clear hf hP
    (repeat (first | go_guarded | go_step))
    (try with_reducible refine wpList_nil ?_)
    refine hq.out _ _ (Ext.refl V) ?_
    exact ⟨fun h => absurd h (by decide), fun u hu => by rw [← Option.some.inj (show some (.pointer (some ⟨b8, 11, none⟩)) = some u from hu)]⟩
  · refine stepI hmk0 (by rfl) rfl (by kernel_rfl) ?_
    intro xs V Q' hS hf hq hP
    have f11 : xs 11 = .pointer (some ⟨b8, 11, none⟩) := (hf 11 (by kernel_rfl)).2 _ rfl
    rw [hmk xs] at hq ⊢
    simp only [Act.put, List.setIfInBounds_toArray, List.set_cons_zero, List.set_cons_succ] at hq
    clear hf hP
    have c1 := (HS.out V hS).1
    generalize xs 11 = y11 at *
    subst f11
    (repeat (first | go_guarded | go_step))
    (try with_reducible refine wpList_nil ?_)
    refine hq.out _ _ (Ext.refl V) ?_
    exact ⟨fun h => absurd h (by decide), fun u hu => by rw [← Option.some.inj (show some (.slice (some ⟨rb, ro, none⟩) 1 rc) = some u from hu)]⟩
  · refine stepI hmk0 (by rfl) rfl (by kernel_rfl) ?_
    intro xs V Q' hS hf hq hP
    have f12 : xs 12 = .slice (some ⟨rb, ro, none⟩) 1 rc := (hf 12 (by kernel_rfl)).2 _ rfl
    rw [hmk xs] at hq ⊢
    simp only [Act.put, List.setIfInBounds_toArray, List.set_cons_zero, List.set_cons_succ] at hq
    clear hf hP
    generalize xs 12 = y12 at *
    subst f12
    (repeat (first | go_guarded | go_step))
    (try with_reducible refine wpList_nil ?_)
    refine hq.out _ _ (Ext.refl V) ?_
    exact ⟨fun h => absurd h (by decide), fun u hu => by rw [← Option.some.inj (show some (.pointer (some ⟨rb, ro, none⟩)) = some u from hu)]⟩
  · refine stepI hmk0 (by rfl) rfl (by kernel_rfl) ?_
    intro xs V Q' hS hf hq hP
    have f13 : xs 13 = .pointer (some ⟨rb, ro, none⟩) := (hf 13 (by kernel_rfl)).2 _ rfl
    rw [hmk xs] at hq ⊢
    simp only [Act.put, List.setIfInBounds_toArray, List.set_cons_zero, List.set_cons_succ] at hq
    clear hf hP
    generalize xs 13 = y13 at *
    subst f13
    (repeat (first | go_guarded | go_step))
    (try with_reducible refine wpList_nil ?_)
    refine hq.out _ _ (Ext.refl V) ?_
    exact ⟨fun h => absurd h (by decide), fun u hu => by rw [← Option.some.inj (show some (.pointer (some ⟨rb, ro + 2, none⟩)) = some u from hu)]⟩
  · refine stepI hmk0 (by rfl) rfl (by kernel_rfl) ?_
    intro xs V Q' hS hf hq hP
    have f14 : xs 14 = .pointer (some ⟨rb, ro + 2, none⟩) := (hf 14 (by kernel_rfl)).2 _ rfl
    rw [hmk xs] at hq ⊢
    simp only [Act.put, List.setIfInBounds_toArray, List.set_cons_zero, List.set_cons_succ] at hq
    clear hf hP
    have c1 := (HS.out V hS).2.2.2
    generalize xs 14 = y14 at *
    subst f14
    (repeat (first | go_guarded | go_step))
    (try with_reducible refine wpList_nil ?_)
    refine hq.out _ _ (Ext.refl V) ?_
    exact ⟨fun h => absurd h (by decide), fun u hu => by rw [← Option.some.inj (show some (.int .u16 x.cls) = some u from hu)]⟩
  · refine stepI hmk0 (by rfl) rfl (by kernel_rfl) ?_
    intro xs V Q' hS hf hq hP
    have f5 : xs 5 = S (fold x.name) := (hf 5 (by kernel_rfl)).2 _ rfl
    have f10 : xs 10 = .int .u16 x.typ := (hf 10 (by kernel_rfl)).2 _ rfl
    have f15 : xs 15 = .int .u16 x.cls := (hf 15 (by kernel_rfl)).2 _ rfl
    rw [hmk xs] at hq ⊢
    simp only [Act.put, List.setIfInBounds_toArray, List.set_cons_zero, List.set_cons_succ] at hq
    clear hf hP
    generalize xs 5 = y5 at *
    subst f5
    generalize xs 10 = y10 at *
    subst f10
    generalize xs 15 = y15 at *
    subst f15
    (repeat (first | go_guarded | go_step))
    (try with_reducible refine wpList_nil ?_)
    refine hq.out _ _ (Ext.refl V) ?_
    exact ⟨fun h => absurd h (by decide), fun u hu => by rw [← Option.some.inj (show some (.agg #[S (fold x.name), .int .u16 x.typ, .int .u16 x.cls]) = some u from hu)]⟩
  · refine stepI hmk0 (by rfl) rfl (by kernel_rfl) ?_
    intro xs V Q' hS hf hq hP
    have f16 : xs 16 = .agg #[S (fold x.name), .int .u16 x.typ, .int .u16 x.cls] := (hf 16 (by kernel_rfl)).2 _ rfl
    rw [hmk xs] at hq ⊢
    simp only [Act.put, List.setIfInBounds_toArray, List.set_cons_zero, List.set_cons_succ] at hq
    clear hf hP
    generalize xs 16 = y16 at *
    subst f16
    (repeat (first | go_guarded | go_step))
    (try with_reducible refine wpList_nil ?_)
    refine hq.out _ _ ((Ext.refl V).alloc _) ?_
    exact ⟨fun _ => ⟨_, rfl, heap_alloc_new _ _, hS.size⟩, fun u hu => by cases (show (none : Option Value) = some u from hu)⟩
  · refine stepI hmk0 (by rfl) rfl (by kernel_rfl) ?_
    intro xs V Q' hS hf hq hP
    rw [hmk xs] at hq ⊢
    simp only [Act.put, List.setIfInBounds_toArray, List.set_cons_zero, List.set_cons_succ] at hq
    clear hf hP
    (repeat (first | go_guarded | go_step))
    (try with_reducible refine wpList_nil ?_)
    refine hq.out _ _ (Ext.refl V) ?_
    exact ⟨fun h => absurd h (by decide), fun u hu => by rw [← Option.some.inj (show some (.pointer (some ⟨b8, 11, none⟩)) = some u from hu)]⟩
  intro xs V hS hf
  obtain ⟨g, f17, hg, hgX⟩ := (hf 17 (by kernel_rfl)).1 rfl
  have f18 : xs 18 = .pointer (some ⟨b8, 11, none⟩) := (hf 18 (by kernel_rfl)).2 _ rfl
  rw [hmk xs]
  clear hf hmk hmk0
  generalize xs 17 = y17 at *
  generalize xs 18 = y18 at *
  subst f17
  subst f18
  have hB2 := (hS.block _ (Array.getElem?_eq_some_iff.1 hB).1).trans hB
  have kB := (HS.out V hS).1
  have fB : V.frozen? ⟨b8, 11, none⟩ = false := by simp [World.frozen?, hB2]
  refine stepL (by rfl) (fun Q' hQ2 hP => ?_)
  (repeat (first | go_guarded | go_step))
  (try with_reducible refine wpList_nil ?_)
  refine hQ2.out _ _ ?_
  clear hQ2 hP Q'
  refine NoPanic.normal ?_
  exact hQ _ _ _ _ _ _ _ _ _ _ _ _ _ _ _ _ _ _ _ _ g V hS hgX hg rfl
theorem resOf_q {L : List SetD} {d : List UInt8} {m : MsgD} {x : QD} (hd : decR d = .ok m) (hx : m.qs = [x]) (h1 : m.hd.qr = false) (h2 : m.hd.op = 0) : resOf L d = resBy m (rlookOf L x.name x.typ x.cls) := by
  unfold resOf
  rw [hd]
  show resM L m = _
  unfold resM
  rw [hx]
  dsimp only
  rw [if_pos ⟨h1, h2⟩]
theorem resOf_bad {L : List SetD} {d : List UInt8} {e : Nat} (hd : decR d = .error e) : resOf L d = [] := by unfold resOf; rw [hd]
theorem resOf_not {L : List SetD} {d : List UInt8} {m : MsgD} (hd : decR d = .ok m) (h : ¬ (m.hd.qr = false ∧ m.hd.op = 0 ∧ m.qs.length = 1)) : resOf L d = [] := by
  unfold resOf
  rw [hd]
  show resM L m = _
  unfold resM
  rcases hq : m.qs with _ | ⟨x, _ | ⟨y, r⟩⟩
  · rfl
  · dsimp only
    rw [if_neg]
    rintro ⟨h1, h2⟩
    exact h ⟨h1, h2, by rw [hq]; rfl⟩
  · rfl
structure Fits30 (m : MsgD) (x : QD) (s : List UInt8) (y : MsgD) : Prop where
  dec : decR s = .ok y
  len : (s.length : Int) ≤ resRoom m
  id : y.hd.id = m.hd.id
  qr : y.hd.qr = true
  aa : y.hd.aa = false
  rd : y.hd.rd = m.hd.rd
  ra : y.hd.ra = true
  z : y.hd.z = false
  ad : y.hd.ad = false
  cd : y.hd.cd = false
  qs : y.qs = [x]
  he : y.he = m.he
  ed : y.ed = edSize m.he
  extra : y.extra = []
  cut : y.hd.tc = true → y.ans = [] ∧ y.auth = []
theorem fits_of {l : List RecD} (hw : ∀ r ∈ l, r.wf) {m : MsgD} (hm : m.wf) {x : QD} (hx : m.qs = [x]) (hn : may x.name = true) :
    ∃ y, Fits30 m x (resBy m (rlookOf (groupR l) x.name x.typ x.cls)) y ∧ y.hd.code = (rlookOf (groupR l) x.name x.typ x.cls).code ∧ (y.hd.tc = false → y = resFull m (rlookOf (groupR l) x.name x.typ x.cls)) := by
  have hr := room_min m
  rcases res_read hw hm hx hn (rlook_ok l x.name x.typ x.cls) with ⟨e, h1, h2, h3⟩ | ⟨e, h1, h2, h3, h4⟩
  · exact ⟨_, ⟨h3, by rw [e]; exact h2, rfl, rfl, rfl, rfl, rfl, rfl, rfl, rfl, hx, rfl, rfl, rfl, fun h => by cases h⟩, rfl, fun _ => rfl⟩
  · exact ⟨_, ⟨h4, by rw [e]; omega, rfl, rfl, rfl, rfl, rfl, rfl, rfl, rfl, hx, rfl, rfl, rfl, fun _ => ⟨rfl, rfl⟩⟩, rfl, fun h => by cases h⟩
theorem res_fits {l : List RecD} (hw : ∀ r ∈ l, r.wf) {d : List UInt8} {m : MsgD} (hd : decR d = .ok m) (hmw : m.wf) (hme : mayM m = true) {x : QD} (hx : m.qs = [x]) (h1 : m.hd.qr = false) (h2 : m.hd.op = 0) :
    ∃ y, Fits30 m x (resOf (groupR l) d) y ∧ (encErr (foldQ m) = 0 ∨ encErr (foldQ m) = 5) ∧
      (encErr (foldQ m) = 0 → ∃ z, decR (resOf (groupR l) (encOf (foldQ m))) = .ok z ∧ z.hd.code = y.hd.code ∧ (y.hd.tc = false → z.hd.tc = false → { z with qs := [] } = { y with qs := [] })) := by
  have hn : may x.name = true := may_qs hme x (by rw [hx]; simp)
  obtain ⟨y, hy, hyc, hyf⟩ := fits_of hw hmw hx hn
  rw [resOf_q hd hx h1 h2]
  refine ⟨y, hy, may_err (foldQ_may hme), fun he => ?_⟩
  have hd2 : decR (encOf (foldQ m)) = .ok (foldQ m) := dec_enc (foldQ_wf hmw) he
  have hx2 : (foldQ m).qs = [⟨fold x.name, x.typ, x.cls⟩] := by unfold foldQ; rw [hx]; rfl
  obtain ⟨z, hz, hzc, hzf⟩ := fits_of (l := l) hw (foldQ_wf hmw) hx2 (fold_may hn).1
  rw [resOf_q hd2 hx2 h1 h2]
  dsimp only at hz hzc hzf ⊢
  rw [rlook_fold] at hz hzc hzf ⊢
  refine ⟨z, hz.dec, hzc.trans hyc.symm, fun t1 t2 => ?_⟩
  rw [hyf t1, hzf t2]
  rfl
theorem alloc_setRowR (w : World) (zs cs : Array Value) (t : TypeId) (g : Nat) (hg : g = w.heap.size) : (w.alloc (.cells zs t)).setRow g cs = w.alloc (.cells cs t) := by
  subst hg
  unfold World.setRow World.alloc
  simp only
  congr 1
  apply Array.ext_getElem?
  intro i
  simp only [Array.getElem?_modify, Array.getElem?_push]
  by_cases h : i = w.heap.size
  · subst h; simp
  · rw [if_neg (fun e => h e.symm), if_neg h, if_neg h]
theorem cell_ltR {w : World} {p : Addr} {v : Value} (h : w.cell? p = some v) : p.block < w.heap.size := by
  rcases Nat.lt_or_ge p.block w.heap.size with h' | h'
  · exact h'
  · simp [World.cell?, Array.getElem?_eq_none h'] at h
theorem nil_qusR (w : World) : Qus w 0 (.slice none 0 0) [] := ⟨none, 0, rfl, Nat.le_refl _, by unfold maxLen; omega, rfl, fun h => absurd h (by decide)⟩
theorem qus_rowR {w : World} {g : Nat} {x : QD} (h : w.heap[g]? = some (.cells #[S (fold x.name), .int .u16 x.typ, .int .u16 x.cls] 32)) : Qus w 0 (.slice (some ⟨g, 0, none⟩) 1 1) [⟨fold x.name, x.typ, x.cls⟩] := by
  refine ⟨some ⟨g, 0, none⟩, 1, rfl, Nat.le_refl _, by unfold maxLen; omega, rfl, fun _ => ⟨g, 0, rfl, Nat.zero_le _, (Array.getElem?_eq_some_iff.1 h).1, fun j u hj => ?_⟩⟩
  rw [Nat.zero_add]
  have hj' : #[S (fold x.name), .int .u16 x.typ, .int .u16 x.cls][j]? = some u := by simpa [quCells] using hj
  simp only [World.cell?, h]
  exact hj'
set_option maxHeartbeats 40000000 in
theorem law30_fits (v : Value) (l : List RecD) (q : List UInt8) (w : World) (hg : Laid w) (hb : BitsAt w) (h : Recs w 0 v l) (hwf : ∀ r ∈ l, r.wf) (hs : ∀ r ∈ l, r.name.length ≤ maxLen ∧ r.data.length ≤ maxLen) (hq : q.length ≤ maxLen) :
    Calls Tryz.prog 4 #[v, S q] w fun e w' => e = .returned (.bool true) ∧ Ext w w' := by
  unfold maxLen at hq
  have HFw := Lib.hid (law30_few 0 v l w h hs)
  have HAw := Lib.hid (fun V (hV : Ext w V) => law30_awake V (hg.ext hV) (hb.ext hV))
  have HH := Lib.hid h
  obtain ⟨A, c, rfl, h1, h2, hrd⟩ := h
  unfold maxLen at h2
  unfold FewPost at HFw
  go_enter Tryz.func4, Tryz.ntmps4
  go_wp2_with fail
  refine HFw.out.mono ?_
  rintro e w1 ⟨B, rfl, hB, rfl⟩
  rcases B with _ | _
  · go_wp2_with fail
    refine (HAw.out _ (Ext.refl _)).mono ?_
    rintro e w2 ⟨rfl, hE2⟩
    go_wp2_with fail
    go_ret
    exact ⟨rfl, hE2⟩
  have hfew := hB rfl
  clear hB HFw
  by_cases hq3 : 3000 < q.length
  · have hqi : decide ((3000 : Int) < (q.length : Int)) = true := decide_eq_true (by omega)
    go_wp2_with fail
    refine (HAw.out _ (Ext.refl _)).mono ?_
    rintro e w2 ⟨rfl, hE2⟩
    go_wp2_with fail
    go_ret
    exact ⟨rfl, hE2⟩
  have hqi : decide ((3000 : Int) < (q.length : Int)) = false := decide_eq_false (by omega)
  go_wp2_with fail
  refine (HAw.out _ (Ext.refl _)).mono ?_
  rintro e w2 ⟨rfl, hE2⟩
  have HN1 := Lib.hid (res_new 0 _ l w2 (hg.ext hE2) (HH.out.ext hE2) hfew.bd (recsOk_wf hwf))
  unfold NewPost at HN1
  go_wp2_with fail
  refine HN1.out.mono ?_
  rintro e w3 (⟨hall, R1, gv, rfl, hR1l, hR1, ho1, hE3⟩ | ⟨_, rfl, hE3⟩)
  rotate_left
  · go_wp2_with fail
    go_ret
    exact ⟨rfl, hE2.trans hE3⟩
  have hw3 : Ext w w3 := hE2.trans hE3
  have hbd := hfew.bd
  have hS1 := ho1.sets.lower (Nat.zero_le _)
  have k1 : w3.cell? ⟨R1, 0, none⟩ = some gv := box_cell (j := 0) hR1 rfl
  have hz1 := (Array.getElem?_eq_some_iff.1 hR1).1
  have HP := Lib.hid (fun (d : List UInt8) (hd : d.length ≤ 1048576) V (hV : Ext w3 V) => res_answer l gv R1 d V (hg.ext (hw3.trans hV)) (hb.ext (hw3.trans hV)) ((hV.cell (p := ⟨R1, 0, none⟩) hz1).trans k1) (hS1.ext hV) hbd hwf hd)
  unfold StrPost at HP
  have HD := Lib.hid (fun (d : List UInt8) (hd : d.length ≤ 1048576) V (hV : Ext w3 V) => wire_decode d V (hg.ext (hw3.trans hV)) (hb.ext (hw3.trans hV)) hd)
  unfold DecPost at HD
  have HE := Lib.hid (fun (m : MsgD) (q a u x o : Value) V (hV : Ext w3 V) (hm : m.wf) (h : Msg7 V m q a u x o) => wire_encode m q a u x o V (hg.ext (hw3.trans hV)) (hb.ext (hw3.trans hV)) hm h)
  unfold EncPost at HE
  have HRb := Lib.hid (fun (k : Nat) (h : decR q = .error k) => resOf_bad (L := groupR l) h)
  have HRn := Lib.hid (fun (m : MsgD) (h : decR q = .ok m) (hn : ¬ (m.hd.qr = false ∧ m.hd.op = 0 ∧ m.qs.length = 1)) => resOf_not (L := groupR l) h hn)
  have HRf := Lib.hid (fun (m : MsgD) (x : QD) (h : decR q = .ok m) (hm : m.wf) (hy : mayM m = true) (hx : m.qs = [x]) (e1 : m.hd.qr = false) (e2 : m.hd.op = 0) => res_fits hwf h hm hy hx e1 e2)
  have hq4 : q.length ≤ 1048576 := by omega
  generalize resOf (groupR l) = F at *
  clear hall HN1 hfew ho1 hS1 k1 hR1 HH HAw hq3 hqi hE2 hE3
  go_wp2_with fail
  refine (HP.out q hq4 _ (Ext.refl _)).mono ?_
  rintro e w4 ⟨rfl, hE4⟩
  go_wp2_with fail
  refine (HD.out q hq4 _ hE4).mono ?_
  rintro e Y ⟨hor, hEd⟩
  rcases hor with ⟨k, hk, hx, rfl⟩ | ⟨m, qv, av, uv, xv, ov, hm, rfl, hMO, hBd⟩
  · have hF : F q = [] := HRb.out k hx
    have hk1 : ((k : Int) == 0) = false := by rw [beq_eq_false_iff_ne]; omega
    clear hx hk
    generalize (k : Int) = z at *
    have hk2 : ¬ z = 0 := by rw [beq_eq_false_iff_ne] at hk1; exact hk1
    have hk3 : decide (z = 0) = false := decide_eq_false hk2
    rw [hF]
    dsimp only
    iterate 10 go_step
    obtain ⟨b8, hb8⟩ : ∃ b8, b8 = Y.heap.size := ⟨_, rfl⟩
    have hz : (Y.alloc (.cells msgZ 45)).heap[b8]? = some (.cells msgZ 45) := by rw [hb8]; exact heap_alloc_new _ _
    refine Go.Great.wpList_allocTo rfl (some 8) rfl (.pointer (some ⟨Y.heap.size, 0, none⟩)) (.cells msgZ 45) (by kernel_rfl) ?_
    rw [← hb8]
    refine Go.wpList_store_rowTo rfl 45 (.tmp 8) (.tmp 43) rfl rfl b8 msgZ rfl rfl 45 _ hz (by kernel_rfl) rfl (by kernel_rfl) ?_
    rw [alloc_setRowR Y msgZ msgZ 45 b8 hb8]
    iterate 3 go_step
    refine wpList_nil ?_
    rw [← hb8]
    have rb8 : (Y.alloc (.cells msgZ 45)).heap[b8]? = some (.cells msgZ 45) := by rw [hb8]; exact heap_alloc_new _ _
    have hEZ : Ext Y (Y.alloc (.cells msgZ 45)) := (Ext.refl _).alloc _
    have hlb8 : Y.heap.size ≤ b8 := by rw [hb8]; exact Nat.le_refl _
    obtain ⟨Z, hZ⟩ : ∃ Z, Z = Y.alloc (.cells msgZ 45) := ⟨_, rfl⟩
    rw [← hZ] at rb8 hEZ ⊢
    clear hZ hz hb8
    go_wp2_with fail
    go_ret
    exact ⟨rfl, hw3.trans (hE4.trans (hEd.trans hEZ))⟩
  · have HMO := Lib.hid hMO
    obtain ⟨⟨mqA, mqc, rfl, mqo⟩, ⟨maA, mac, rfl, _⟩, ⟨muA, muc, rfl, _⟩, ⟨mxA, mxc, rfl, _⟩, ⟨moA, moc, rfl, _⟩⟩ := hMO
    dsimp only
    iterate 10 go_step
    obtain ⟨b8, hb8⟩ : ∃ b8, b8 = Y.heap.size := ⟨_, rfl⟩
    have hz : (Y.alloc (.cells msgZ 45)).heap[b8]? = some (.cells msgZ 45) := by rw [hb8]; exact heap_alloc_new _ _
    refine Go.Great.wpList_allocTo rfl (some 8) rfl (.pointer (some ⟨Y.heap.size, 0, none⟩)) (.cells msgZ 45) (by kernel_rfl) ?_
    rw [← hb8]
    refine Go.wpList_store_rowTo rfl 45 (.tmp 8) (.tmp 43) rfl rfl b8 #[.int .u16 m.hd.id, .bool m.hd.qr, .int .u8 m.hd.op, .bool m.hd.aa, .bool m.hd.tc, .bool m.hd.rd, .bool m.hd.ra, .bool m.hd.z, .bool m.hd.ad, .bool m.hd.cd, .int .u8 m.hd.code, (.slice mqA m.qs.length mqc), (.slice maA m.ans.length mac), (.slice muA m.auth.length muc), (.slice mxA m.extra.length mxc), .bool m.he, .int .u16 m.ed.size, .int .u8 m.ed.ext, .int .u8 m.ed.ver, .int .u16 m.ed.flags, (.slice moA m.ed.opts.length moc)] rfl rfl 45 _ hz (by kernel_rfl) rfl (by kernel_rfl) ?_
    rw [alloc_setRowR Y msgZ #[.int .u16 m.hd.id, .bool m.hd.qr, .int .u8 m.hd.op, .bool m.hd.aa, .bool m.hd.tc, .bool m.hd.rd, .bool m.hd.ra, .bool m.hd.z, .bool m.hd.ad, .bool m.hd.cd, .int .u8 m.hd.code, (.slice mqA m.qs.length mqc), (.slice maA m.ans.length mac), (.slice muA m.auth.length muc), (.slice mxA m.extra.length mxc), .bool m.he, .int .u16 m.ed.size, .int .u8 m.ed.ext, .int .u8 m.ed.ver, .int .u16 m.ed.flags, (.slice moA m.ed.opts.length moc)] 45 b8 hb8]
    iterate 3 go_step
    refine wpList_nil ?_
    rw [← hb8]
    have rb8 : (Y.alloc (.cells #[.int .u16 m.hd.id, .bool m.hd.qr, .int .u8 m.hd.op, .bool m.hd.aa, .bool m.hd.tc, .bool m.hd.rd, .bool m.hd.ra, .bool m.hd.z, .bool m.hd.ad, .bool m.hd.cd, .int .u8 m.hd.code, (.slice mqA m.qs.length mqc), (.slice maA m.ans.length mac), (.slice muA m.auth.length muc), (.slice mxA m.extra.length mxc), .bool m.he, .int .u16 m.ed.size, .int .u8 m.ed.ext, .int .u8 m.ed.ver, .int .u16 m.ed.flags, (.slice moA m.ed.opts.length moc)] 45)).heap[b8]? = some (.cells #[.int .u16 m.hd.id, .bool m.hd.qr, .int .u8 m.hd.op, .bool m.hd.aa, .bool m.hd.tc, .bool m.hd.rd, .bool m.hd.ra, .bool m.hd.z, .bool m.hd.ad, .bool m.hd.cd, .int .u8 m.hd.code, (.slice mqA m.qs.length mqc), (.slice maA m.ans.length mac), (.slice muA m.auth.length muc), (.slice mxA m.extra.length mxc), .bool m.he, .int .u16 m.ed.size, .int .u8 m.ed.ext, .int .u8 m.ed.ver, .int .u16 m.ed.flags, (.slice moA m.ed.opts.length moc)] 45) := by rw [hb8]; exact heap_alloc_new _ _
    have hEZ : Ext Y (Y.alloc (.cells #[.int .u16 m.hd.id, .bool m.hd.qr, .int .u8 m.hd.op, .bool m.hd.aa, .bool m.hd.tc, .bool m.hd.rd, .bool m.hd.ra, .bool m.hd.z, .bool m.hd.ad, .bool m.hd.cd, .int .u8 m.hd.code, (.slice mqA m.qs.length mqc), (.slice maA m.ans.length mac), (.slice muA m.auth.length muc), (.slice mxA m.extra.length mxc), .bool m.he, .int .u16 m.ed.size, .int .u8 m.ed.ext, .int .u8 m.ed.ver, .int .u16 m.ed.flags, (.slice moA m.ed.opts.length moc)] 45)) := (Ext.refl _).alloc _
    have hlb8 : Y.heap.size ≤ b8 := by rw [hb8]; exact Nat.le_refl _
    obtain ⟨Z, hZ⟩ : ∃ Z, Z = Y.alloc (.cells #[.int .u16 m.hd.id, .bool m.hd.qr, .int .u8 m.hd.op, .bool m.hd.aa, .bool m.hd.tc, .bool m.hd.rd, .bool m.hd.ra, .bool m.hd.z, .bool m.hd.ad, .bool m.hd.cd, .int .u8 m.hd.code, (.slice mqA m.qs.length mqc), (.slice maA m.ans.length mac), (.slice muA m.auth.length muc), (.slice mxA m.extra.length mxc), .bool m.he, .int .u16 m.ed.size, .int .u8 m.ed.ext, .int .u8 m.ed.ver, .int .u16 m.ed.flags, (.slice moA m.ed.opts.length moc)] 45) := ⟨_, rfl⟩
    rw [← hZ] at rb8 hEZ ⊢
    clear hZ hz hb8
    by_cases hfit : m.hd.qr = false ∧ m.hd.op = 0 ∧ m.qs.length = 1
    rotate_left
    · have hF : F q = [] := HRn.out m hm hfit
      rw [hF]
      have c1 : Z.cell? ⟨b8, 1, none⟩ = some (.bool m.hd.qr) := box_cell rb8 rfl
      have c2 : Z.cell? ⟨b8, 2, none⟩ = some (.int .u8 m.hd.op) := box_cell rb8 rfl
      have c11 : Z.cell? ⟨b8, 11, none⟩ = some (.slice mqA m.qs.length mqc) := box_cell rb8 rfl
      clear hF
      rcases hqr : m.hd.qr with _ | _
      · rw [hqr] at c1
        by_cases hop : m.hd.op = 0
        · have hl : ¬ m.qs.length = 1 := fun e => hfit ⟨hqr, hop, e⟩
          have hl1 : ((m.qs.length : Int) == 1) = false := by rw [beq_eq_false_iff_ne]; omega
          have hl2 : ¬ (m.qs.length : Int) = 1 := by omega
          have hl3 : decide ((m.qs.length : Int) = 1) = false := decide_eq_false hl2
          rw [hop] at c2
          clear hfit hqr hop hl
          go_wp2_with fail
          go_ret
          exact ⟨rfl, hw3.trans (hE4.trans (hEd.trans hEZ))⟩
        · have hop1 : (m.hd.op == 0) = false := by rw [beq_eq_false_iff_ne]; exact hop
          have hop2 : decide (m.hd.op = 0) = false := decide_eq_false hop
          clear hfit hqr
          go_wp2_with fail
          go_ret
          exact ⟨rfl, hw3.trans (hE4.trans (hEd.trans hEZ))⟩
      · rw [hqr] at c1
        clear hfit hqr
        go_wp2_with fail
        go_ret
        exact ⟨rfl, hw3.trans (hE4.trans (hEd.trans hEZ))⟩
    obtain ⟨hqr, hop, hl⟩ := hfit
    obtain ⟨x, hx⟩ := List.length_eq_one_iff.1 hl
    obtain ⟨hmw, hme, -, hno, -, -⟩ := decR_ok hm
    obtain ⟨hmay, -, -⟩ := enc_may hme
    obtain ⟨y, hy, hee, hz⟩ := HRf.out m x hm hmw hmay hx hqr hop
    have hrm := room_min m
    have hrM : resRoom m ≤ 65535 := by have := hmw.size; unfold resRoom; split <;> omega
    have hsl : (F q).length ≤ 1048576 := by have := hy.len; omega
    have Hy := Lib.hid hy
    have Hee := Lib.hid hee
    have Hz := Lib.hid hz
    have Hmw := Lib.hid hmw
    have HBm := Lib.hid hBd
    clear hy hee hz hme hmay hno HRf HRn HRb hmw hBd
    have c1 : Z.cell? ⟨b8, 1, none⟩ = some (.bool false) := by rw [← hqr]; exact box_cell rb8 rfl
    have c2 : Z.cell? ⟨b8, 2, none⟩ = some (.int .u8 0) := by rw [← hop]; exact box_cell rb8 rfl
    have c11 : Z.cell? ⟨b8, 11, none⟩ = some (.slice mqA 1 mqc) := by rw [← hl]; exact box_cell rb8 rfl
    go_wp2_with fail
    have hE6 : Ext w3 Z := hE4.trans (hEd.trans hEZ)
    refine (HD.out (F q) hsl _ hE6).mono ?_
    rintro e Y2 ⟨⟨k, hk, hx2, rfl⟩ | ⟨y2, qv2, av2, uv2, xv2, ov2, hm2, rfl, hMO2, hBd2⟩, hEd2⟩
    · rw [Hy.out.dec] at hx2; cases hx2
    obtain rfl : y2 = y := by have := Hy.out.dec; rw [hm2] at this; injection this
    clear c1 c2 c11
    have HMO2 := Lib.hid hMO2
    have HBy := Lib.hid hBd2
    clear hBd2
    obtain ⟨⟨yqA, yqc, rfl, yqo⟩, ⟨yaA, yac, rfl, _⟩, ⟨yuA, yuc, rfl, _⟩, ⟨yxA, yxc, rfl, _⟩, ⟨yoA, yoc, rfl, _⟩⟩ := hMO2
    dsimp only
    iterate 10 go_step
    obtain ⟨b10, hb10⟩ : ∃ b10, b10 = Y2.heap.size := ⟨_, rfl⟩
    have hz : (Y2.alloc (.cells msgZ 45)).heap[b10]? = some (.cells msgZ 45) := by rw [hb10]; exact heap_alloc_new _ _
    refine Go.Great.wpList_allocTo rfl (some 10) rfl (.pointer (some ⟨Y2.heap.size, 0, none⟩)) (.cells msgZ 45) (by kernel_rfl) ?_
    rw [← hb10]
    refine Go.wpList_store_rowTo rfl 45 (.tmp 10) (.tmp 69) rfl rfl b10 #[.int .u16 y2.hd.id, .bool y2.hd.qr, .int .u8 y2.hd.op, .bool y2.hd.aa, .bool y2.hd.tc, .bool y2.hd.rd, .bool y2.hd.ra, .bool y2.hd.z, .bool y2.hd.ad, .bool y2.hd.cd, .int .u8 y2.hd.code, (.slice yqA y2.qs.length yqc), (.slice yaA y2.ans.length yac), (.slice yuA y2.auth.length yuc), (.slice yxA y2.extra.length yxc), .bool y2.he, .int .u16 y2.ed.size, .int .u8 y2.ed.ext, .int .u8 y2.ed.ver, .int .u16 y2.ed.flags, (.slice yoA y2.ed.opts.length yoc)] rfl rfl 45 _ hz (by kernel_rfl) rfl (by kernel_rfl) ?_
    rw [alloc_setRowR Y2 msgZ #[.int .u16 y2.hd.id, .bool y2.hd.qr, .int .u8 y2.hd.op, .bool y2.hd.aa, .bool y2.hd.tc, .bool y2.hd.rd, .bool y2.hd.ra, .bool y2.hd.z, .bool y2.hd.ad, .bool y2.hd.cd, .int .u8 y2.hd.code, (.slice yqA y2.qs.length yqc), (.slice yaA y2.ans.length yac), (.slice yuA y2.auth.length yuc), (.slice yxA y2.extra.length yxc), .bool y2.he, .int .u16 y2.ed.size, .int .u8 y2.ed.ext, .int .u8 y2.ed.ver, .int .u16 y2.ed.flags, (.slice yoA y2.ed.opts.length yoc)] 45 b10 hb10]
    iterate 3 go_step
    refine wpList_nil ?_
    rw [← hb10]
    have rb10 : (Y2.alloc (.cells #[.int .u16 y2.hd.id, .bool y2.hd.qr, .int .u8 y2.hd.op, .bool y2.hd.aa, .bool y2.hd.tc, .bool y2.hd.rd, .bool y2.hd.ra, .bool y2.hd.z, .bool y2.hd.ad, .bool y2.hd.cd, .int .u8 y2.hd.code, (.slice yqA y2.qs.length yqc), (.slice yaA y2.ans.length yac), (.slice yuA y2.auth.length yuc), (.slice yxA y2.extra.length yxc), .bool y2.he, .int .u16 y2.ed.size, .int .u8 y2.ed.ext, .int .u8 y2.ed.ver, .int .u16 y2.ed.flags, (.slice yoA y2.ed.opts.length yoc)] 45)).heap[b10]? = some (.cells #[.int .u16 y2.hd.id, .bool y2.hd.qr, .int .u8 y2.hd.op, .bool y2.hd.aa, .bool y2.hd.tc, .bool y2.hd.rd, .bool y2.hd.ra, .bool y2.hd.z, .bool y2.hd.ad, .bool y2.hd.cd, .int .u8 y2.hd.code, (.slice yqA y2.qs.length yqc), (.slice yaA y2.ans.length yac), (.slice yuA y2.auth.length yuc), (.slice yxA y2.extra.length yxc), .bool y2.he, .int .u16 y2.ed.size, .int .u8 y2.ed.ext, .int .u8 y2.ed.ver, .int .u16 y2.ed.flags, (.slice yoA y2.ed.opts.length yoc)] 45) := by rw [hb10]; exact heap_alloc_new _ _
    have hEZ2 : Ext Y2 (Y2.alloc (.cells #[.int .u16 y2.hd.id, .bool y2.hd.qr, .int .u8 y2.hd.op, .bool y2.hd.aa, .bool y2.hd.tc, .bool y2.hd.rd, .bool y2.hd.ra, .bool y2.hd.z, .bool y2.hd.ad, .bool y2.hd.cd, .int .u8 y2.hd.code, (.slice yqA y2.qs.length yqc), (.slice yaA y2.ans.length yac), (.slice yuA y2.auth.length yuc), (.slice yxA y2.extra.length yxc), .bool y2.he, .int .u16 y2.ed.size, .int .u8 y2.ed.ext, .int .u8 y2.ed.ver, .int .u16 y2.ed.flags, (.slice yoA y2.ed.opts.length yoc)] 45)) := (Ext.refl _).alloc _
    have hlb10 : Y2.heap.size ≤ b10 := by rw [hb10]; exact Nat.le_refl _
    obtain ⟨Z2, hZ2⟩ : ∃ Z2, Z2 = Y2.alloc (.cells #[.int .u16 y2.hd.id, .bool y2.hd.qr, .int .u8 y2.hd.op, .bool y2.hd.aa, .bool y2.hd.tc, .bool y2.hd.rd, .bool y2.hd.ra, .bool y2.hd.z, .bool y2.hd.ad, .bool y2.hd.cd, .int .u8 y2.hd.code, (.slice yqA y2.qs.length yqc), (.slice yaA y2.ans.length yac), (.slice yuA y2.auth.length yuc), (.slice yxA y2.extra.length yxc), .bool y2.he, .int .u16 y2.ed.size, .int .u8 y2.ed.ext, .int .u8 y2.ed.ver, .int .u16 y2.ed.flags, (.slice yoA y2.ed.opts.length yoc)] 45) := ⟨_, rfl⟩
    rw [← hZ2] at rb10 hEZ2 ⊢
    clear hZ2 hz hb10
    have rb8' := ((hEd2.trans hEZ2).block _ (Array.getElem?_eq_some_iff.1 rb8).1).trans rb8
    have hE7 : Ext w3 Z2 := hE6.trans (hEd2.trans hEZ2)
    obtain ⟨mA, mc, em, mo⟩ := HMO.out.qs
    injection em with em1 _ em3
    subst em1 em3
    obtain ⟨yA, yc, ey, yo⟩ := HMO2.out.qs
    injection ey with ey1 _ ey3
    subst ey1 ey3
    have hrd := (mo.rd.lower (Nat.zero_le _)).ext (show Ext Y Z2 from hEZ.trans (hEd2.trans hEZ2))
    have hrd2 := (yo.rd.lower (Nat.zero_le _)).ext (show Ext Y2 Z2 from hEZ2)
    have hyl : y2.qs.length = 1 := by rw [Hy.out.qs]; rfl
    obtain ⟨rb, ro, rfl, _, hbz, hbc⟩ := hrd.2 (by omega)
    obtain ⟨qb, qo, rfl, _, hbz2, hbc2⟩ := hrd2.2 (by omega)
    obtain ⟨m0, m1, m2⟩ := qus_cells hbc 0 x (by rw [hx]; rfl)
    obtain ⟨y0, y1, y3⟩ := qus_cells hbc2 0 x (by rw [Hy.out.qs]; rfl)
    rw [Nat.zero_mul, Nat.add_zero] at m0 m1 m2 y0 y1 y3
    have HM3 := Lib.hid (And.intro m0 (And.intro m1 m2))
    have HY3 := Lib.hid (And.intro y0 (And.intro y1 y3))
    clear m0 m1 m2 y0 y1 y3 hbc hbc2 hbz hbz2 hrd hrd2 mo yo
    have c15 : Z2.cell? ⟨b8, 15, none⟩ = some (.bool m.he) := box_cell rb8' rfl
    have c16 : Z2.cell? ⟨b8, 16, none⟩ = some (.int .u16 m.ed.size) := box_cell rb8' rfl
    have hszb := Hmw.out.size
    go_upto_if 72 with fail
    go_cut [12] (fun s12 wx => s12 = .int .i64 (resRoom m) ∧ wx = Z2)
    case first =>
      rcases hhe : m.he with _ | _
      · rw [hhe] at c15
        have hR : resRoom m = 512 := by unfold resRoom; rw [hhe]; rfl
        clear hhe
        go_wp2_with fail
        go_meet
        exact ⟨by rw [hR], rfl⟩
      · rw [hhe] at c15
        have hR : resRoom m = if 512 < m.ed.size then m.ed.size else 512 := by unfold resRoom; rw [hhe]; simp only [true_and]
        have hw6 : wrap64 m.ed.size = m.ed.size := by unfold wrap64; omega
        clear hhe
        go_wp2_with fail
        go_meet
        exact ⟨by rw [hR]; congr 1; split <;> omega, rfl⟩
    case rest =>
    obtain ⟨rfl, hwc0⟩ := hcut
    rw [hwc0]
    clear hwc0 c15 c16
    have HS := Lib.hid (fun V (hV : Ext Z2 V) => (show FitR b10 b8 m x y2.hd.tc y2.ans.length y2.auth.length qb qo yqc rb ro mqc yaA yuA yxA yac yuc yxc V from by
      have rY := (hV.block _ (Array.getElem?_eq_some_iff.1 rb10).1).trans rb10
      have rM := (hV.block _ (Array.getElem?_eq_some_iff.1 rb8').1).trans rb8'
      refine ⟨?_, ?_, ?_, ?_, ?_, ?_, ?_, ?_, ?_, ?_, ?_, ?_, ?_, ?_, ?_, ?_, ?_, ?_, ?_, ?_, ?_, ?_, ?_, ?_, ?_, fun he => ?_⟩
      · rw [← Hy.out.id]; exact box_cell rY rfl
      · rw [← Hy.out.rd]; exact box_cell rY rfl
      · rw [← Hy.out.qr]; exact box_cell rY rfl
      · rw [← Hy.out.ra]; exact box_cell rY rfl
      · rw [← Hy.out.aa]; exact box_cell rY rfl
      · rw [← Hy.out.z]; exact box_cell rY rfl
      · rw [← Hy.out.ad]; exact box_cell rY rfl
      · rw [← Hy.out.cd]; exact box_cell rY rfl
      · rw [← hyl]; exact box_cell rY rfl
      · exact (hV.cell (cell_ltR HY3.out.1)).trans HY3.out.1
      · exact (hV.cell (cell_ltR HY3.out.2.1)).trans HY3.out.2.1
      · exact (hV.cell (cell_ltR HY3.out.2.2)).trans HY3.out.2.2
      · rw [← Hy.out.he]; exact box_cell rY rfl
      · rw [show (0 : Int) = y2.ed.ext by rw [Hy.out.ed]; unfold edSize; split <;> rfl]; exact box_cell rY rfl
      · rw [show (0 : Nat) = y2.extra.length by rw [Hy.out.extra]; rfl]; exact box_cell rY rfl
      · exact box_cell rY rfl
      · exact box_cell rY rfl
      · exact box_cell rY rfl
      · exact box_cell rM rfl
      · exact box_cell rM rfl
      · rw [← hl]; exact box_cell rM rfl
      · exact (hV.cell (cell_ltR HM3.out.1)).trans HM3.out.1
      · exact (hV.cell (cell_ltR HM3.out.2.1)).trans HM3.out.2.1
      · exact (hV.cell (cell_ltR HM3.out.2.2)).trans HM3.out.2.2
      · exact box_cell rM rfl
      · rw [show (4096 : Int) = y2.ed.size by rw [Hy.out.ed, he]; rfl]; exact box_cell rY rfl))
    go_upto_region 14 with fail
    go_cut [199] (fun s199 wx => s199 = .bool false ∧ Ext Z2 wx)
    case first =>
      refine rfits_r14 Z2 HS.out Hy.out.len (fun ht => by obtain ⟨e1, e2⟩ := Hy.out.cut ht; rw [e1, e2]; exact ⟨rfl, rfl⟩) ?_
      iterate 120 intro _
      intro V hV
      go_wp2_with fail
      go_meet
      exact ⟨rfl, hV⟩
    case rest =>
    obtain ⟨rfl, hE8⟩ := hcut
    obtain ⟨Z3, rfl⟩ : ∃ Z3 : World, Z3 = wc := ⟨_, rfl⟩
    have rM := (hE8.block _ (Array.getElem?_eq_some_iff.1 rb8').1).trans rb8'
    have hxl : x.name.length ≤ maxLen := by have := HBm.out.qok x (by rw [hx]; simp); unfold maxLen; omega
    go_upto_region 16 with fail
    go_cut [] (fun wx => ∃ g U, Ext Z3 U ∧ Z3.heap.size ≤ g ∧ U.heap[g]? = some (.cells #[S (fold x.name), .int .u16 x.typ, .int .u16 x.cls] 32) ∧ wx = U.setCell ⟨b8, 11, none⟩ (.slice (some ⟨g, 0, none⟩) 1 1))
    case first =>
      refine rfits_r16 (rb := rb) (ro := ro) (rc := mqc) Z3 hxl (fun V hV => ?_) rM ?_
      · obtain ⟨_, _, _, _, _, _, _, _, _, _, _, _, _, _, _, _, _, _, _, _, q1, q2, q3, q4, _⟩ := HS.out V (hE8.trans hV)
        exact ⟨q1, q2, q3, q4⟩
      iterate 19 intro _
      intro V g U hU hgU hg2 hV
      go_wp2_with fail
      go_meet
      exact ⟨g, U, hU, hgU, hg2, by first | exact hV | rfl⟩
    case rest =>
    obtain ⟨g, U, hU, hgU, hg2, hwc⟩ := hcut
    obtain ⟨Z4, rfl⟩ : ∃ Z4 : World, Z4 = wc := ⟨_, rfl⟩
    have rU := (hU.block _ (Array.getElem?_eq_some_iff.1 rM).1).trans rM
    have rM4 : Z4.heap[b8]? = some (.cells #[.int .u16 m.hd.id, .bool m.hd.qr, .int .u8 m.hd.op, .bool m.hd.aa, .bool m.hd.tc, .bool m.hd.rd, .bool m.hd.ra, .bool m.hd.z, .bool m.hd.ad, .bool m.hd.cd, .int .u8 m.hd.code, (.slice (some ⟨g, 0, none⟩) 1 1), (.slice maA m.ans.length mac), (.slice muA m.auth.length muc), (.slice mxA m.extra.length mxc), .bool m.he, .int .u16 m.ed.size, .int .u8 m.ed.ext, .int .u8 m.ed.ver, .int .u16 m.ed.flags, (.slice moA m.ed.opts.length moc)] 45) := by rw [hwc]; exact row_set rU 11 _
    have hkZ : ∀ k, k ≠ b8 → Z4.heap[k]? = U.heap[k]? := fun k hk => by rw [hwc]; exact Below.heap_setCell _ ⟨b8, 11, none⟩ _ k hk
    have hb8Y : Y.heap.size ≤ b8 := hlb8
    have hb8Z3 : b8 < Z3.heap.size := (Array.getElem?_eq_some_iff.1 rM).1
    have hEYU : Ext Y U := hEZ.trans ((hEd2.trans hEZ2).trans (hE8.trans hU))
    have hE4Z : Ext Y Z4 := by rw [hwc]; exact hEYU.setCell hb8Y _
    have hE9 : Ext w3 Z4 := hE4.trans (hEd.trans hE4Z)
    have hgne : g ≠ b8 := by omega
    have hgZ : Z4.heap[g]? = some (.cells #[S (fold x.name), .int .u16 x.typ, .int .u16 x.cls] 32) := (hkZ g hgne).trans hg2
    have hmsg : Msg7 Z4 (foldQ m) (.slice (some ⟨g, 0, none⟩) 1 1) (.slice maA m.ans.length mac) (.slice muA m.auth.length muc) (.slice mxA m.extra.length mxc) (.slice moA m.ed.opts.length moc) := by
      have h8 := ((HMO.out.lower (Nat.zero_le _)).ext hE4Z).msg7 HBm.out
      refine ⟨?_, h8.ans, h8.auth, h8.extra, h8.opts, ?_, h8.aok, h8.uok, h8.xok, h8.xl⟩
      · show Qus Z4 0 _ (m.qs.map fun x => ⟨fold x.name, x.typ, x.cls⟩)
        rw [hx]
        exact qus_rowR hgZ
      · show ∀ z ∈ (m.qs.map fun x => (⟨fold x.name, x.typ, x.cls⟩ : QD)), z.name.length ≤ 1048576
        rw [hx]
        intro z hz
        rw [List.map_singleton, List.mem_singleton] at hz
        subst hz
        have := fold_le x.name
        show (fold x.name).length ≤ 1048576
        omega
    have HEn := Lib.hid (HE.out (foldQ m) _ _ _ _ _ Z4 hE9 (foldQ_wf Hmw.out) hmsg)
    have rY4 : Z4.heap[b10]? = some (.cells #[.int .u16 y2.hd.id, .bool y2.hd.qr, .int .u8 y2.hd.op, .bool y2.hd.aa, .bool y2.hd.tc, .bool y2.hd.rd, .bool y2.hd.ra, .bool y2.hd.z, .bool y2.hd.ad, .bool y2.hd.cd, .int .u8 y2.hd.code, (.slice (some ⟨qb, qo, none⟩) y2.qs.length yqc), (.slice yaA y2.ans.length yac), (.slice yuA y2.auth.length yuc), (.slice yxA y2.extra.length yxc), .bool y2.he, .int .u16 y2.ed.size, .int .u8 y2.ed.ext, .int .u8 y2.ed.ver, .int .u16 y2.ed.flags, (.slice yoA y2.ed.opts.length yoc)] 45) := by
      have hne : b10 ≠ b8 := by have := (Array.getElem?_eq_some_iff.1 rb8).1; have := hEd2.size; omega
      exact (hkZ b10 hne).trans (((hE8.trans hU).block _ (Array.getElem?_eq_some_iff.1 rb10).1).trans rb10)
    have hsz24 : Z2.heap.size ≤ Z4.heap.size := by have h1 := (hE8.trans hU).size; rw [hwc]; simpa using h1
    have hY2 : ∀ k, k ≠ b8 → k < Z2.heap.size → Z4.heap[k]? = Z2.heap[k]? := fun k hk hz => (hkZ k hk).trans ((hE8.trans hU).block k hz)
    clear hwc hkZ hgZ hmsg rU hgU hg2 hqr hop hl hx hyl
    go_wp2_with (first | (refine wpList_load_part (by rfl) 45 (.tmp 8) rfl b8 0 rfl [.int .u16 m.hd.id, .bool m.hd.qr, .int .u8 m.hd.op, .bool m.hd.aa, .bool m.hd.tc, .bool m.hd.rd, .bool m.hd.ra, .bool m.hd.z, .bool m.hd.ad, .bool m.hd.cd, .int .u8 m.hd.code, (.slice (some ⟨g, 0, none⟩) 1 1), (.slice maA m.ans.length mac), (.slice muA m.auth.length muc), (.slice mxA m.extra.length mxc), .bool m.he, .int .u16 m.ed.size, .int .u8 m.ed.ext, .int .u8 m.ed.ver, .int .u16 m.ed.flags, (.slice moA m.ed.opts.length moc)] (row_all rM4) _ Tryz.underlying45 rfl (by kernel_rfl) ?_) | fail)
    refine HEn.out.mono ?_
    rintro e Z5 ⟨rfl, hE5⟩
    have hE10 : Ext w3 Z5 := hE9.trans hE5
    clear HEn
    rcases Hee.out with he0 | he5
    rotate_left
    · rw [he5]
      go_wp2_with fail
      go_ret
      exact ⟨rfl, hw3.trans hE10⟩
    rw [he0]
    obtain ⟨z, hzd, hzc, hzf⟩ := Hz.out he0
    have htl : (encOf (foldQ m)).length ≤ 1048576 := by obtain ⟨_, h1, h2⟩ := enc_may he0; rw [h2]; omega
    have Hzd := Lib.hid hzd
    have Hzf := Lib.hid hzf
    have Hzc := Lib.hid hzc
    generalize encOf (foldQ m) = t at *
    have htl2 : (F t).length ≤ 1048576 := by have := (decR_ok hzd).2.2.2.2.2; omega
    clear hzd hzf hzc he0
    go_wp2_with fail
    refine (HP.out t htl _ hE10).mono ?_
    rintro e Z6 ⟨rfl, hE6'⟩
    go_wp2_with fail
    refine (HD.out (F t) htl2 _ (hE10.trans hE6')).mono ?_
    rintro e Y3 ⟨⟨k, hk, hx2, rfl⟩ | ⟨z2, qv3, av3, uv3, xv3, ov3, hm3, rfl, hMO3, hBd3⟩, hEd3⟩
    · rw [Hzd.out] at hx2; cases hx2
    obtain rfl : z2 = z := by have := Hzd.out; rw [hm3] at this; injection this
    have HMO3 := Lib.hid hMO3
    have HBz := Lib.hid hBd3
    clear hBd3
    obtain ⟨⟨zqA, zqc, rfl, zqo⟩, ⟨zaA, zac, rfl, _⟩, ⟨zuA, zuc, rfl, _⟩, ⟨zxA, zxc, rfl, _⟩, ⟨zoA, zoc, rfl, _⟩⟩ := hMO3
    dsimp only
    iterate 10 go_step
    obtain ⟨b15, hb15⟩ : ∃ b15, b15 = Y3.heap.size := ⟨_, rfl⟩
    have hz : (Y3.alloc (.cells msgZ 45)).heap[b15]? = some (.cells msgZ 45) := by rw [hb15]; exact heap_alloc_new _ _
    refine Go.Great.wpList_allocTo rfl (some 15) rfl (.pointer (some ⟨Y3.heap.size, 0, none⟩)) (.cells msgZ 45) (by kernel_rfl) ?_
    rw [← hb15]
    refine Go.wpList_store_rowTo rfl 45 (.tmp 15) (.tmp 233) rfl rfl b15 #[.int .u16 z2.hd.id, .bool z2.hd.qr, .int .u8 z2.hd.op, .bool z2.hd.aa, .bool z2.hd.tc, .bool z2.hd.rd, .bool z2.hd.ra, .bool z2.hd.z, .bool z2.hd.ad, .bool z2.hd.cd, .int .u8 z2.hd.code, (.slice zqA z2.qs.length zqc), (.slice zaA z2.ans.length zac), (.slice zuA z2.auth.length zuc), (.slice zxA z2.extra.length zxc), .bool z2.he, .int .u16 z2.ed.size, .int .u8 z2.ed.ext, .int .u8 z2.ed.ver, .int .u16 z2.ed.flags, (.slice zoA z2.ed.opts.length zoc)] rfl rfl 45 _ hz (by kernel_rfl) rfl (by kernel_rfl) ?_
    rw [alloc_setRowR Y3 msgZ #[.int .u16 z2.hd.id, .bool z2.hd.qr, .int .u8 z2.hd.op, .bool z2.hd.aa, .bool z2.hd.tc, .bool z2.hd.rd, .bool z2.hd.ra, .bool z2.hd.z, .bool z2.hd.ad, .bool z2.hd.cd, .int .u8 z2.hd.code, (.slice zqA z2.qs.length zqc), (.slice zaA z2.ans.length zac), (.slice zuA z2.auth.length zuc), (.slice zxA z2.extra.length zxc), .bool z2.he, .int .u16 z2.ed.size, .int .u8 z2.ed.ext, .int .u8 z2.ed.ver, .int .u16 z2.ed.flags, (.slice zoA z2.ed.opts.length zoc)] 45 b15 hb15]
    iterate 3 go_step
    refine wpList_nil ?_
    rw [← hb15]
    have rb15 : (Y3.alloc (.cells #[.int .u16 z2.hd.id, .bool z2.hd.qr, .int .u8 z2.hd.op, .bool z2.hd.aa, .bool z2.hd.tc, .bool z2.hd.rd, .bool z2.hd.ra, .bool z2.hd.z, .bool z2.hd.ad, .bool z2.hd.cd, .int .u8 z2.hd.code, (.slice zqA z2.qs.length zqc), (.slice zaA z2.ans.length zac), (.slice zuA z2.auth.length zuc), (.slice zxA z2.extra.length zxc), .bool z2.he, .int .u16 z2.ed.size, .int .u8 z2.ed.ext, .int .u8 z2.ed.ver, .int .u16 z2.ed.flags, (.slice zoA z2.ed.opts.length zoc)] 45)).heap[b15]? = some (.cells #[.int .u16 z2.hd.id, .bool z2.hd.qr, .int .u8 z2.hd.op, .bool z2.hd.aa, .bool z2.hd.tc, .bool z2.hd.rd, .bool z2.hd.ra, .bool z2.hd.z, .bool z2.hd.ad, .bool z2.hd.cd, .int .u8 z2.hd.code, (.slice zqA z2.qs.length zqc), (.slice zaA z2.ans.length zac), (.slice zuA z2.auth.length zuc), (.slice zxA z2.extra.length zxc), .bool z2.he, .int .u16 z2.ed.size, .int .u8 z2.ed.ext, .int .u8 z2.ed.ver, .int .u16 z2.ed.flags, (.slice zoA z2.ed.opts.length zoc)] 45) := by rw [hb15]; exact heap_alloc_new _ _
    have hEZ7 : Ext Y3 (Y3.alloc (.cells #[.int .u16 z2.hd.id, .bool z2.hd.qr, .int .u8 z2.hd.op, .bool z2.hd.aa, .bool z2.hd.tc, .bool z2.hd.rd, .bool z2.hd.ra, .bool z2.hd.z, .bool z2.hd.ad, .bool z2.hd.cd, .int .u8 z2.hd.code, (.slice zqA z2.qs.length zqc), (.slice zaA z2.ans.length zac), (.slice zuA z2.auth.length zuc), (.slice zxA z2.extra.length zxc), .bool z2.he, .int .u16 z2.ed.size, .int .u8 z2.ed.ext, .int .u8 z2.ed.ver, .int .u16 z2.ed.flags, (.slice zoA z2.ed.opts.length zoc)] 45)) := (Ext.refl _).alloc _
    have hlb15 : Y3.heap.size ≤ b15 := by rw [hb15]; exact Nat.le_refl _
    obtain ⟨Z7, hZ7⟩ : ∃ Z7, Z7 = Y3.alloc (.cells #[.int .u16 z2.hd.id, .bool z2.hd.qr, .int .u8 z2.hd.op, .bool z2.hd.aa, .bool z2.hd.tc, .bool z2.hd.rd, .bool z2.hd.ra, .bool z2.hd.z, .bool z2.hd.ad, .bool z2.hd.cd, .int .u8 z2.hd.code, (.slice zqA z2.qs.length zqc), (.slice zaA z2.ans.length zac), (.slice zuA z2.auth.length zuc), (.slice zxA z2.extra.length zxc), .bool z2.he, .int .u16 z2.ed.size, .int .u8 z2.ed.ext, .int .u8 z2.ed.ver, .int .u16 z2.ed.flags, (.slice zoA z2.ed.opts.length zoc)] 45) := ⟨_, rfl⟩
    rw [← hZ7] at rb15 hEZ7 ⊢
    clear hZ7 hz hb15
    have hEt : Ext Z4 Z7 := hE5.trans (hE6'.trans (hEd3.trans hEZ7))
    have rY7 := (hEt.block _ (Array.getElem?_eq_some_iff.1 rY4).1).trans rY4
    have hEnd : Ext w3 Z7 := hE9.trans hEt
    have y4 : Z7.cell? ⟨b10, 4, none⟩ = some (.bool y2.hd.tc) := box_cell rY7 rfl
    have z4 : Z7.cell? ⟨b15, 4, none⟩ = some (.bool z2.hd.tc) := box_cell rb15 rfl
    have y10 : Z7.cell? ⟨b10, 10, none⟩ = some (.int .u8 y2.hd.code) := box_cell rY7 rfl
    have z10 : Z7.cell? ⟨b15, 10, none⟩ = some (.int .u8 y2.hd.code) := by rw [← Hzc.out]; exact box_cell rb15 rfl
    rcases hty : y2.hd.tc with _ | _
    rotate_left
    · rw [hty] at y4
      clear hty
      go_wp2_with fail
      go_ret
      exact ⟨by simp, hw3.trans hEnd⟩
    rcases htz : z2.hd.tc with _ | _
    rotate_left
    · rw [hty] at y4
      rw [htz] at z4
      clear hty htz
      go_wp2_with fail
      go_ret
      exact ⟨by simp, hw3.trans hEnd⟩
    have hzy := Hzf.out hty htz
    rw [hty] at y4
    rw [htz] at z4
    have y11 := box_cell (j := 11) rY7 rfl
    have z11 := box_cell (j := 11) rb15 rfl
    have fy11 := box_free (j := 11) rY7
    have fz11 := box_free (j := 11) rb15
    clear y10 z10 hty htz
    have hlt10 : b10 < Z4.heap.size := (Array.getElem?_eq_some_iff.1 rY4).1
    have hne : b10 ≠ b15 := by have := (hE5.trans (hE6'.trans hEd3)).size; omega
    have hne1 : ¬ b10 = b15 := hne
    have hne2 : ¬ b15 = b10 := fun e => hne e.symm
    have hne3 : (b10 == b15) = false := by rw [beq_eq_false_iff_ne]; exact hne
    have hne4 : (b15 == b10) = false := by rw [beq_eq_false_iff_ne]; exact hne2
    go_upto_region 26 with fail
    obtain ⟨Ze, hZe⟩ : ∃ Ze, Ze = (Z7.setCell ⟨b10, 11, none⟩ (.slice none 0 0)).setCell ⟨b15, 11, none⟩ (.slice none 0 0) := ⟨_, rfl⟩
    rw [← hZe]
    clear hne1 hne2 hne3 hne4
    have rYe : Ze.heap[b10]? = some (.cells #[.int .u16 y2.hd.id, .bool y2.hd.qr, .int .u8 y2.hd.op, .bool y2.hd.aa, .bool y2.hd.tc, .bool y2.hd.rd, .bool y2.hd.ra, .bool y2.hd.z, .bool y2.hd.ad, .bool y2.hd.cd, .int .u8 y2.hd.code, (.slice none 0 0), (.slice yaA y2.ans.length yac), (.slice yuA y2.auth.length yuc), (.slice yxA y2.extra.length yxc), .bool y2.he, .int .u16 y2.ed.size, .int .u8 y2.ed.ext, .int .u8 y2.ed.ver, .int .u16 y2.ed.flags, (.slice yoA y2.ed.opts.length yoc)] 45) := by
      rw [hZe]
      exact (Below.heap_setCell _ ⟨b15, 11, none⟩ _ b10 hne).trans (row_set rY7 11 _)
    have rZe : Ze.heap[b15]? = some (.cells #[.int .u16 z2.hd.id, .bool z2.hd.qr, .int .u8 z2.hd.op, .bool z2.hd.aa, .bool z2.hd.tc, .bool z2.hd.rd, .bool z2.hd.ra, .bool z2.hd.z, .bool z2.hd.ad, .bool z2.hd.cd, .int .u8 z2.hd.code, (.slice none 0 0), (.slice zaA z2.ans.length zac), (.slice zuA z2.auth.length zuc), (.slice zxA z2.extra.length zxc), .bool z2.he, .int .u16 z2.ed.size, .int .u8 z2.ed.ext, .int .u8 z2.ed.ver, .int .u16 z2.ed.flags, (.slice zoA z2.ed.opts.length zoc)] 45) := by
      rw [hZe]
      exact row_set ((Below.heap_setCell _ ⟨b10, 11, none⟩ _ b15 (fun e => hne e.symm)).trans rb15) 11 _
    have hkZe : ∀ k, k ≠ b10 → k ≠ b15 → Ze.heap[k]? = Z7.heap[k]? := fun k h1 h2 => by rw [hZe]; exact (Below.heap_setCell _ ⟨b15, 11, none⟩ _ k h2).trans (Below.heap_setCell _ ⟨b10, 11, none⟩ _ k h1)
    have hlt8 : b8 < Z.heap.size := (Array.getElem?_eq_some_iff.1 rb8).1
    have hEe : Ext w Ze := by
      have h10 : w.heap.size ≤ b10 := Nat.le_trans (hw3.trans (hE6.trans hEd2)).size hlb10
      have h15 : w.heap.size ≤ b15 := Nat.le_trans (hw3.trans (hE10.trans (hE6'.trans hEd3))).size hlb15
      rw [hZe]; exact ((hw3.trans hEnd).setCell h10 _).setCell h15 _
    have hMy : Msg7 Ze { y2 with qs := [] } (.slice none 0 0) (.slice yaA y2.ans.length yac) (.slice yuA y2.auth.length yuc) (.slice yxA y2.extra.length yxc) (.slice yoA y2.ed.opts.length yoc) := by
      have h8 := (HMO2.out.by_ (w' := Ze) fun k hk hkz => by
        have h1 : k ≠ b8 := by have := hEd2.size; omega
        have h2 : k ≠ b10 := by omega
        have h3 : k < Z2.heap.size := Nat.lt_of_lt_of_le hkz hEZ2.size
        have h4 : k < Z4.heap.size := Nat.lt_of_lt_of_le h3 hsz24
        have h5 : k ≠ b15 := by have := (hE5.trans (hE6'.trans hEd3)).size; omega
        exact (hkZe k h2 h5).trans ((hEt.block k h4).trans ((hY2 k h1 h3).trans (hEZ2.block k hkz)))).msg7 HBy.out
      exact ⟨nil_qusR Ze, h8.ans, h8.auth, h8.extra, h8.opts, (by intro z hz; cases hz), h8.aok, h8.uok, h8.xok, h8.xl⟩
    have hMz : Msg7 Ze { z2 with qs := [] } (.slice none 0 0) (.slice zaA z2.ans.length zac) (.slice zuA z2.auth.length zuc) (.slice zxA z2.extra.length zxc) (.slice zoA z2.ed.opts.length zoc) := by
      have h8 := (HMO3.out.by_ (w' := Ze) fun k hk hkz => by
        have h2 : k ≠ b10 := by have := (hE5.trans hE6').size; omega
        have h5 : k ≠ b15 := by omega
        exact (hkZe k h2 h5).trans (hEZ7.block k hkz)).msg7 HBz.out
      exact ⟨nil_qusR Ze, h8.ans, h8.auth, h8.extra, h8.opts, (by intro z hz; cases hz), h8.aok, h8.uok, h8.xok, h8.xl⟩
    rw [hzy] at hMz
    have HSm := Lib.hid (ref7_same { y2 with qs := [] } _ _ _ _ _ _ _ _ _ _ Ze hMy hMz)
    obtain ⟨ez1, ez2, ez3⟩ : z2.hd = y2.hd ∧ z2.he = y2.he ∧ z2.ed = y2.ed := by
      injection hzy
      exact ⟨by assumption, by assumption, by assumption⟩
    rw [ez1, ez2] at rZe
    rw [show (z2.ed.size : Int) = y2.ed.size by rw [ez3], show z2.ed.ext = y2.ed.ext by rw [ez3], show z2.ed.ver = y2.ed.ver by rw [ez3], show z2.ed.flags = y2.ed.flags by rw [ez3]] at rZe
    clear hZe hMy hMz y4 z4 y11 z11 fy11 fz11 hkZe ez1 ez2 ez3 hzy
    go_wp2_with (first | (refine wpList_load_part (by rfl) 45 (.tmp 10) rfl b10 0 rfl [.int .u16 y2.hd.id, .bool y2.hd.qr, .int .u8 y2.hd.op, .bool y2.hd.aa, .bool y2.hd.tc, .bool y2.hd.rd, .bool y2.hd.ra, .bool y2.hd.z, .bool y2.hd.ad, .bool y2.hd.cd, .int .u8 y2.hd.code, (.slice none 0 0), (.slice yaA y2.ans.length yac), (.slice yuA y2.auth.length yuc), (.slice yxA y2.extra.length yxc), .bool y2.he, .int .u16 y2.ed.size, .int .u8 y2.ed.ext, .int .u8 y2.ed.ver, .int .u16 y2.ed.flags, (.slice yoA y2.ed.opts.length yoc)] (row_all rYe) _ Tryz.underlying45 rfl (by kernel_rfl) ?_) | (refine wpList_load_part (by rfl) 45 (.tmp 15) rfl b15 0 rfl [.int .u16 y2.hd.id, .bool y2.hd.qr, .int .u8 y2.hd.op, .bool y2.hd.aa, .bool y2.hd.tc, .bool y2.hd.rd, .bool y2.hd.ra, .bool y2.hd.z, .bool y2.hd.ad, .bool y2.hd.cd, .int .u8 y2.hd.code, (.slice none 0 0), (.slice zaA z2.ans.length zac), (.slice zuA z2.auth.length zuc), (.slice zxA z2.extra.length zxc), .bool y2.he, .int .u16 y2.ed.size, .int .u8 y2.ed.ext, .int .u8 y2.ed.ver, .int .u16 y2.ed.flags, (.slice zoA z2.ed.opts.length zoc)] (row_all rZe) _ Tryz.underlying45 rfl (by kernel_rfl) ?_) | fail)
    have H := HSm.out
    unfold msg7V at H
    refine H.mono ?_
    rintro e Z9 ⟨rfl, hE11⟩
    go_wp2_with fail
    go_ret
    exact ⟨rfl, hEe.trans hE11⟩
end Go.Proofs.YtdnpmapelmjfpaaGreatDoor
namespace Go.Proofs.YtdnpmapelmjfpaaGreatDoor
set_option linter.unusedSimpArgs false
set_option linter.unusedVariables false
open Go.ChangeShapes Go.WideShapes Go.RowKit Go.Deep Go.Joins
set_option maxRecDepth 100000
section
variable {H : Type} {enc : TypeId × Value → H} {P : Program} {w : World} {base : Nat} {spare : Nat → Bool} {held : Bool}
end
end Go.Proofs.YtdnpmapelmjfpaaGreatDoor
namespace Go.Proofs.YtdnpmapelmjfpaaGreatDoor
set_option linter.unusedSimpArgs false
set_option linter.unusedVariables false
open Go.ChangeShapes Go.WideShapes Go.RowKit Go.Deep Go.Joins
set_option maxRecDepth 100000
theorem open_strr {H : Type} {enc : TypeId × Value → H} {W : World} {r : Reach} {b0 : Nat} {v : Value} {d : DataW H} {p : List MemPlace}
    (hv : Value.okWide Tryz.prog W r b0 9 v) (h : DataW.Trod enc Tryz.prog W 0 (fun _ => true) true 9 v d p) : ∃ n : List UInt8, v = S n ∧ n.length ≤ maxLen := by
  obtain ⟨s, rfl⟩ := okWide_string Tryz.underlying9 hv
  obtain ⟨fuel, hf⟩ := h
  obtain ⟨s', e, _, hs⟩ := DataW.trod_string Tryz.underlying9 hf
  simp only [Value.cells, List.cons.injEq, and_true] at e
  injection e with e
  subst e
  exact ⟨s.data.toList, S_of s, len_of hs⟩
end Go.Proofs.YtdnpmapelmjfpaaGreatDoor
namespace Go.Proofs.YtdnpmapelmjfpaaGreatDoor
set_option linter.unusedSimpArgs false
set_option linter.unusedVariables false
open Go.ChangeShapes Go.WideShapes Go.ChangeAt Go.RowKit
set_option maxRecDepth 100000
theorem resolverFits_contract (H : Type) (enc : TypeId × Value → H) (W : World) (base : Nat) (args : Array Value) (ds gs : List (DataW H)) (before : List MemPlace)
    (hval : ∀ (j : Nat) t v, Tryz.f4.params[j]? = some t → args[j]? = some v → Value.okWide Tryz.prog W .any base t v)
    (hW : DataW.Whole enc Tryz.prog Tryz.f4.params.toList Rows.resolverFitsSpec.vars false W args.toList ds gs before)
    (hsz : (DataW.weightsEach Tryz.prog (Tryz.f4.params.toList ++ (OpenSpec.ofChange Rows.resolverFitsSpec).bare.plain.varTypes Tryz.prog) (ds ++ gs)).all (· ≤ reachBytes) = true)
    (hL : laidMetH Tryz.prog laidL W) :
    Calls Tryz.prog 4 args W fun e W' => ∃ v, e = .returned v ∧ Rows.resolverFitsSpec.post enc Tryz.prog Tryz.f4 false true false false W args v W' := by
  have hW' := hW
  have hp : ∀ t ∈ Tryz.f4.params.toList, Tryz.prog.readableRec t = true ∧ t < Tryz.prog.types.size := by
    have h : (Tryz.f4.params.toList.all fun t => Tryz.prog.readableRec t && decide (t < Tryz.prog.types.size)) = true := by kernel_rfl
    simpa only [List.all_eq_true, Bool.and_eq_true, decide_eq_true_eq] using h
  have hg := laid_of hL
  have hb := laidbits_of hL
  obtain ⟨p, q, hA0, hV, rfl, _, _⟩ := hW
  have hA : DataW.TrodAll enc Tryz.prog W 0 (fun _ => true) true Tryz.f4.params.toList args.toList ds p := hA0
  clear hA0
  rw [Tryz.params4] at hA hval hsz
  obtain ⟨rfl, rfl⟩ := trodVars_none hV
  obtain ⟨v0, v1, d0, d1, p0, p1, rfl, rfl, rfl, h0, h1⟩ := trodAll_two hA
  obtain ⟨l, hr0, hlo⟩ := open_recsW (hval 0 _ _ rfl rfl) h0
  obtain ⟨q1, rfl, hq1⟩ := open_strr (hval 1 _ _ rfl rfl) h1
  refine (law30_fits v0 l q1 W hg hb hr0 (fun r hr => (hlo r hr).1.2.2) (fun r hr => ⟨Nat.le_trans (reach_of hsz (j := 0) rfl rfl (hlo r hr).2.1) (by unfold maxLen; decide), Nat.le_trans (reach_of hsz (j := 0) rfl rfl (hlo r hr).2.2) (by unfold maxLen; decide)⟩) hq1).mono ?_
  rintro e W' ⟨rfl, hE⟩
  exact ⟨_, rfl, post_true laid_out rfl (by kernel_rfl) Tryz.underlying4 hp hW' rfl hE⟩

theorem resolverFits_reads (os : Os) {H : Type} (enc : TypeId × Value → H) : ∃ places, DataW.whole enc Tryz.prog ((laidWorld os).forCall (fun _ _ => 0) ⟨#[], #[.slice none 0 0, .string ⟨#[]⟩], []⟩).memory Tryz.f4.params.toList Rows.resolverFitsSpec.vars false (#[.slice none 0 0, .string ⟨#[]⟩] : Array Value).toList 8 = some ([.nil, .lit (.string [])], [], places) :=
  ⟨[], by kernel_rfl⟩
theorem resolverFits_lifted (os : Os) (started : os.Started) (H : Type) (enc : TypeId × Value → H) (F : Stop.Interp) :
    ReturnsInHanded {} Tryz.checked os 4 .any ((OpenSpec.ofChange Rows.resolverFitsSpec).preRow enc Tryz.prog Tryz.f4 Rows.resolverFitsRow.domain false Rows.resolverFitsRow.laid) (((OpenSpec.ofChange Rows.resolverFitsSpec).at F).post enc Tryz.prog Tryz.f4 false true false false) := by
  obtain ⟨places, hx⟩ := resolverFits_reads os enc
  refine returnsInHanded_of_row (C := Tryz.checked) (s := OpenSpec.ofChange Rows.resolverFitsSpec) own_knob started (by kernel_rfl) Tryz.func4
    (witness_row_at (enc := enc) (C := Tryz.checked) false (laidWorld os) #[.slice none 0 0, .string ⟨#[]⟩] rfl (by kernel_rfl) (by kernel_rfl) (by kernel_rfl)
      (OpenSpec.preRow_of_cond 8 hx (by kernel_rfl) (fun k hk => by cases hk) (by kernel_rfl) (laid_met os _))) ?_
  intro W base args ds gs before hval hW _ _ hsz hL _ _
  exact resolverFits_contract H enc W base args ds gs before hval hW hsz hL
theorem band_card (a b : Bool) (h1 : a = true) (h2 : b = true) : (a && b) = true := by rw [h1, h2]; rfl
set_option maxHeartbeats 4000000 in
theorem resolverFits_joined : joinedFacts Tryz.prog 4 Tryz.f4 (OpenSpec.ofChange Rows.resolverFitsSpec).bare Rows.resolverFitsRow = true := by
  unfold joinedFacts; repeat' (with_reducible refine band_card _ _ ?_ ?_)
  all_goals (as_aux_lemma => kernel_rfl)
set_option maxHeartbeats 4000000 in
theorem resolverFits_said : Rows.ResolverFitsSaid :=
  OpenClaim.holds_of_cond 4 Tryz.f4 rfl rfl rfl rfl rfl rfl rfl ⟨rfl, rfl, rfl, rfl, rfl⟩ rfl rfl rfl rfl rfl (by kernel_rfl) Tryz.func4 resolverFits_joined
    (of_decide_eq_true (by kernel_rfl)) (by unfold Func.isWrapper; first | (rw [if_pos (by decide +kernel)]; kernel_rfl) | (rw [if_neg (by decide +kernel)]; exact ⟨rfl, rfl⟩))
    (fun os started H enc _ F => by rw [OpenClaim.pre_eq_preRow]; exact resolverFits_lifted os started H enc F)
theorem resolverFits_card : Rows.ResolverFitsCardSaid :=
  Claim7.holds_tied_plain_at .later [] _ _ _ _ resolverFits_said (fun _ h => by cases h) (by as_aux_lemma => kernel_rfl) (fun _ h => by cases h) resolverFits_row_tie rfl ⟨rfl, rfl⟩ (by as_aux_lemma => kernel_rfl) rfl
    (fun f fn hf hfn => by
      obtain rfl : f = 4 := Option.some.inj ((show Tryz.prog.funcNamed Rows.resolverFitsRow.func = some 4 by kernel_rfl).symm.trans hf) |>.symm
      obtain rfl : fn = Tryz.f4 := (Option.some.inj (Tryz.func4.symm.trans hfn)).symm
      refine ⟨by kernel_rfl, fun j t ht => ?_⟩
      have h : (Tryz.f4.params.toList.all fun t => !Tryz.prog.wantsStandIn t) = true := by kernel_rfl
      have h2 := List.all_eq_true.1 h t (by simpa using Array.mem_of_getElem? ht)
      exact (by simpa using h2 : Tryz.prog.wantsStandIn t = false))
    (by as_aux_lemma => kernel_rfl)
#print axioms resolverFits_card
end Go.Proofs.YtdnpmapelmjfpaaGreatDoor
