/- hustingslaw28.AnswerFits returns true for every input, and every argument reads behind the call as it read before; the listed variables are tied to the program's text. No condition of ours. -/
import Derived.Test.YtdnpmapelmjfpaaGreatDoorCards
import Derived.Test.YtdnpmapelmjfpaaGreatDoorTie
import Derived.Test.YtdnpmapelmjfpaaGreatDoorFb
import Derived.ProofKit
import Derived.OpenShut
import Derived.LaidHandle
import Derived.LaidLaws
import Derived.Test.YtdnpmapelmjfpaaGreatDoorFwy
import Derived.Deep.DeepHandedRow
import Derived.Test.YtdnpmapelmjfpaaGreatDoorFhx
import Derived.Test.YtdnpmapelmjfpaaGreatDoorFrz
import Derived.Test.YtdnpmapelmjfpaaGreatDoorFg
import Derived.Test.YtdnpmapelmjfpaaGreatDoorFry
import Derived.Carry
namespace Go.Proofs.YtdnpmapelmjfpaaGreatDoor
set_option linter.unusedSimpArgs false
set_option linter.unusedVariables false
open Go.ChangeShapes Go.WideShapes Go.ChangeAt Go.RowKit
set_option maxRecDepth 100000
theorem own_knob : ownKnob Tryz.prog.godebug = none := by kernel_rfl
theorem et_at : Tryz.prog.globalNamed "errors.errorType" = some 3 := by kernel_rfl
theorem one_row : ((List.range Tryz.prog.types.size).filter fun t => Tryz.prog.rowNamed t [101, 114, 114, 111, 114]) = [124] := by kernel_rfl
def laidL : List (String × DataW Unit) := [("errors.errorType", Rows.laid_errors_errorType), ("hustings/head.bits", Rows.laid_hustings_head_bits)]

theorem laid_of {W : World} (h : laidMetH Tryz.prog laidL W) : Laid W := by
  have h' : laidMet Tryz.prog [("hustings/head.bits", Rows.laid_hustings_head_bits)] W ∧ handlesMet Tryz.prog [("errors.errorType", Rows.laid_errors_errorType)] W := h
  obtain ⟨name, u, ty, e1, e2, e3, e4, e5⟩ := h'.2 _ (List.mem_singleton.2 rfl)
  have en : name = [101, 114, 114, 111, 114] := (Option.some.inj e1).symm
  subst en
  obtain rfl : u = 286 := Option.some.inj (e2.symm.trans (by kernel_rfl))
  have hm : ty ∈ (List.range Tryz.prog.types.size).filter fun t => Tryz.prog.rowNamed t [101, 114, 114, 111, 114] := List.mem_filter.2 ⟨List.mem_range.2 e3, e4⟩
  rw [one_row] at hm
  obtain rfl := List.mem_singleton.1 hm
  have hh : typeHandle Tryz.prog 124 = hdl 124 := by kernel_rfl
  rw [hh] at e5
  show W.cell? ⟨3, 0, none⟩ = _
  simpa using World.var?_cell et_at e5 0

theorem bits_at : Tryz.prog.globalNamed "hustings/head.bits" = some 2 := by kernel_rfl
theorem one_cell {l : List Value} {i : Nat} {v : Value} (h : (l.drop i).take 1 = [v]) : l[i]? = some v := by
  have h1 := congrArg (fun x : List Value => x[0]?) h
  simpa using h1
def bitsL : List Int := [32768, 1024, 512, 256, 128, 64, 32, 16]
theorem laidbits_of {W : World} (h : laidMetH Tryz.prog laidL W) : BitsAt W := by
  have h' : laidMet Tryz.prog [("hustings/head.bits", Rows.laid_hustings_head_bits)] W ∧ handlesMet Tryz.prog [("errors.errorType", Rows.laid_errors_errorType)] W := h
  obtain ⟨ps, hlv, _, _⟩ := h'.1
  obtain ⟨g, t, cs, fuel, p, q, e1, e2, e3, e4, _, _⟩ := hlv
  obtain rfl : 2 = g := Option.some.inj (bits_at.symm.trans e1)
  obtain rfl : 223 = t := Option.some.inj ((show (Tryz.prog.globals[2]?).map (·.type) = some 223 by kernel_rfl).symm.trans e2)
  obtain ⟨xs, n, _, hd, _, hlen, hf⟩ := DataW.trod_array Tryz.underlying223 e4
  have hd1 := (Prod.mk.inj hd).1
  have key : ∀ i, i < 8 → cs.toList[i]? = some (.int .u16 (bitsL.getD i 0)) := fun i hi => by
    have hx : (xs.map (·.1))[i]? = some (.lit (.int .u16 (bitsL.getD i 0))) := by
      have h1 : xs.map (·.1) = bitsL.map fun k => (.lit (.int .u16 k) : DataW Unit) := by
        injection hd1 with h1
        exact h1.symm
      rw [h1, List.getElem?_map, List.getElem?_eq_getElem (show i < bitsL.length from hi)]
      simp [List.getD, List.getElem?_eq_getElem (show i < bitsL.length from hi)]
    rw [List.getElem?_map] at hx
    obtain ⟨y, hy1, hy2⟩ := Option.map_eq_some_iff.1 hx
    have h2 := (hf i hi).trans hy1
    rw [show Tryz.prog.cellsOf 26 = 1 by kernel_rfl, Nat.mul_one] at h2
    obtain ⟨m, g1, g2, _⟩ := DataW.trod_int Tryz.underlying26 h2
    rw [g2] at hy2
    have hm : m = bitsL.getD i 0 := by
      injection hy2 with hy2
      injection hy2
    rw [← hm]
    exact one_cell g1
  have key2 : ∀ i, i < 8 → W.cell? ⟨2, i, none⟩ = some (.int .u16 (bitsL.getD i 0)) := fun i hi => by
    rw [World.var?_cell bits_at e3 i]
    simpa using key i hi
  exact ⟨key2 0 (by omega), key2 1 (by omega), key2 2 (by omega), key2 3 (by omega), key2 4 (by omega), key2 5 (by omega), key2 6 (by omega), key2 7 (by omega)⟩
noncomputable def laidWorld (os : Os) : World :=
  let w0 := World.holding Tryz.prog os ⟨#[], #[], []⟩
  { w0 with heap := (w0.heap.modify 3 fun
      | .cells _ t frozen => .cells #[errTy] t frozen
      | o => o).modify 2 fun
      | .cells _ t frozen => .cells #[.int .u16 32768, .int .u16 1024, .int .u16 512, .int .u16 256, .int .u16 128, .int .u16 64, .int .u16 32, .int .u16 16] t frozen
      | o => o }
theorem laid_met (os : Os) (args : Array Value) : laidMetH Tryz.prog laidL ((laidWorld os).forCall (fun _ _ => 0) ⟨#[], args, []⟩).memory :=
  laidMetH_of_parts (laidMet_of_run' 8 (by kernel_rfl) (by kernel_rfl)) (by kernel_rfl)

section
variable {H : Type} {enc : TypeId × Value → H} {P : Program}
theorem trodAll_stays (hl : laidOutB P = true) {W W' : World} (hb : Below W.heap.size W W') {sp : Nat → Bool} : ∀ {ts : List TypeId} {vs : List Value} {ds : List (DataW H)} {ps : List MemPlace},
    (∀ t ∈ ts, P.readableRec t = true ∧ t < P.types.size) → DataW.TrodAll enc P W 0 (fun _ => true) true ts vs ds ps → (∀ x ∈ ps, x.block < W.heap.size) → (∀ x ∈ ps, sp x.block = true) → DataW.TrodAll enc P W' 0 sp true ts vs ds ps
  | [], _, _, _, _, h, _, _ => by obtain ⟨rfl, rfl, rfl⟩ := trodAll_nil h; exact trodAll_mk0
  | t :: ts, _, _, _, ht, h, hlt, hs => by
    obtain ⟨v, vs, d, ds, p, q, rfl, rfl, rfl, h0, h1⟩ := trodAll_cons h
    have h2 := ht t (by simp)
    exact trodAll_cons_mk (WideElems.Trod_stays hl h2.1 h2.2 h0 (fun x hx => hb.same (hlt x (by simp [hx]))) (fun x hx => hs x (by simp [hx])))
      (trodAll_stays hl hb (fun t ht' => ht t (by simp [ht'])) h1 (fun x hx => hlt x (by simp [hx])) (fun x hx => hs x (by simp [hx])))
theorem post_of_below {f : Func} {s : ChangeSpec} {apart fresh handsOn again : Bool} {W W' : World} {args : Array Value} {v : Value} {ds gs : List (DataW H)} {before pa pv : List MemPlace}
    (hW : DataW.Whole enc P f.params.toList s.vars apart W args.toList ds gs before)
    (hres : ∀ (b : Nat) (sp : Nat → Bool) (hd : Bool), DataW.TrodAll enc P W' b sp hd f.resultTypes.toList (v.resultList f.resultTypes.size) (s.fn H (ds ++ gs)).results [])
    (hargs : ∀ sp : Nat → Bool, (∀ p ∈ before, sp p.block = true) → DataW.TrodAll enc P W' 0 sp true f.params.toList args.toList (s.fn H (ds ++ gs)).args pa)
    (hvars : ∀ sp : Nat → Bool, (∀ p ∈ before, sp p.block = true) → DataW.TrodVars enc P W' sp s.vars (s.fn H (ds ++ gs)).vars pv)
    (hps : before = pa ++ pv) (hb : Below W.heap.size W W')
    (hok : ∀ (j : Nat) (t : TypeId) (r : Value), f.resultTypes[j]? = some t → (v.resultList f.resultTypes.size)[j]? = some r → Value.okWide P W' .any 0 t r) :
    s.post enc P f apart fresh handsOn again W args v W' := by
  have hlt : ∀ p ∈ before, p.block < W.heap.size := fun p hp => hW.lt p hp
  have hold : ∀ p ∈ before, (fun b => decide (b < W.heap.size)) p.block = true := fun p hp => by simpa using hlt p hp
  refine ⟨ds, gs, before, [], pa, pv, hW, hres _ _ _, hargs _ hold, hvars _ hold, World.keptBut_mono (fun p hp => ⟨hp, ?_⟩) (hb.frame (· ∈ before)), fun _ => ?_⟩
  · rw [hps, List.mem_append] at hp
    exact Or.inr hp
  · obtain ⟨_, _, _, _, _, hz, hn⟩ := hW
    refine ⟨hok, _, _, ([] ++ pa) ++ pv, ⟨[] ++ pa, pv, trodAll_append (hargs _ (fun _ _ => rfl)) (hres _ _ _), hvars _ (fun _ _ => rfl), rfl, ?_, ?_⟩, ?_⟩
    · intro b off hp
      have hin : MemPlace.cell b off ∈ before := by rw [hps]; simpa using hp
      rw [hb.frozen (hlt _ hin)]
      exact hz b off hin
    · intro ha
      have := hn ha
      rw [hps] at this
      simpa using this
    · intro p hp _
      rw [hps]
      simpa using hp
theorem post_true {f : Func} {s : ChangeSpec} {apart fresh handsOn again : Bool} {W W' : World} {args : Array Value} {ds gs : List (DataW H)} {before : List MemPlace} {t : TypeId}
    (hl : laidOutB P = true) (hvn : s.vars = []) (hr : f.resultTypes = #[t]) (ht : P.underlying t = some .bool)
    (hp : ∀ t ∈ f.params.toList, P.readableRec t = true ∧ t < P.types.size)
    (hW : DataW.Whole enc P f.params.toList s.vars apart W args.toList ds gs before)
    (hfn : s.fn H ds = { results := [.lit (.bool true)], args := ds }) (hb : Ext W W') :
    s.post enc P f apart fresh handsOn again W args (.bool true) W' := by
  have hW' := hW
  obtain ⟨p, q, hA, hV, rfl, _, _⟩ := hW
  rw [hvn] at hV
  obtain ⟨rfl, rfl⟩ := trodVars_none hV
  have hlt : ∀ x ∈ p, x.block < W.heap.size := fun x hx => by simpa using hW'.lt x (by simp [hx])
  refine post_of_below (pa := p) (pv := []) hW' (fun _ _ _ => ?_) (fun sp hs => ?_) (fun _ _ => ?_) rfl hb (ok_one hr rfl (okWide_bool_mk ht _))
  · rw [List.append_nil, hfn, hr]; exact trodAll_mk1 (shut_bool ht true)
  · rw [List.append_nil, hfn]; exact trodAll_stays hl hb hp hA hlt (fun x hx => hs x (by simp [hx]))
  · rw [List.append_nil, hfn, hvn]; rfl
end
theorem laid_out : laidOutB Tryz.prog = true := by kernel_rfl
end Go.Proofs.YtdnpmapelmjfpaaGreatDoor
namespace Go.Proofs.YtdnpmapelmjfpaaGreatDoor
set_option linter.unusedSimpArgs false
set_option linter.unusedVariables false
section
variable {P : Program} {ops : Array Oper} {Q : Exit → Act → World → Prop} {S : World → Prop} {V : World}
def wpW (P : Program) (ops : Array Oper) (V : World) (n : Nat) : List Nat → Act → Act → Prop
  | [], a, a' => a = a'
  | i :: is, a, a' => ∃ o d x, nth ops.toList i = some o ∧ o.dst = some d ∧ Nat.blt d n = true ∧ valOp o.op = true ∧ wpList P ops (fun e y z => e = .normal ∧ y = x ∧ z = V) [o] a V ∧ wpW P ops V n is x a'
def dstsW (ops : Array Oper) (is : List Nat) : List (Option Nat) := is.map fun i => (nth ops.toList i).bind (·.dst)
def distW : List (Option Nat) → Bool
  | [] => true
  | x :: r => (!r.contains x) && distW r
theorem wpW_nil {n : Nat} {a : Act} : wpW P ops V n [] a a := rfl
theorem wpW_cons {n i d : Nat} {is : List Nat} {a a' x : Act} {o : Oper} (ho : nth ops.toList i = some o) (hd : o.dst = some d) (hlt : Nat.blt d n = true) (hv : valOp o.op = true)
    (h1 : ∀ Q' : Exit → Act → World → Prop, Shut (Q' .normal x V) → wpList P ops Q' [o] a V) (h2 : wpW P ops V n is x a') : wpW P ops V n (i :: is) a a' :=
  ⟨o, d, x, ho, hd, hlt, hv, h1 _ ⟨rfl, rfl, rfl⟩, h2⟩
theorem wpW_key {o : Oper} {a x : Act} (hv : valOp o.op = true) (h1 : wpList P ops (fun e y z => e = .normal ∧ y = x ∧ z = V) [o] a V) :
    (Region.wanted o (yielded ops a.tmps) = true ∧ ∃ v, (execOp a.eval o).run P V = .ok (.value v) V ∧ a.put o.dst v = x) ∨ (Region.wanted o (yielded ops a.tmps) = false ∧ a.put o.dst undef = x) := by
  unfold wpList at h1
  split at h1
  · rename_i hw
    refine .inl ⟨hw, ?_⟩
    rcases h1 with h1 | ⟨_, x, y, hx, _⟩
    case inr => cases hx
    unfold Oper.wp at h1
    cases hr : (execOp a.eval o).run P V with
    | ok n w1 =>
      obtain ⟨v, rfl⟩ := valOp_run hv hr
      rw [hr] at h1
      obtain ⟨_, h2, h3⟩ := h1
      subst h3
      exact ⟨v, rfl, h2⟩
    | halt x w1 =>
      rw [hr] at h1
      cases x <;> first | exact h1.elim | (obtain ⟨h2, _⟩ := h1; cases h2)
  · rename_i hw
    obtain ⟨_, h2, _⟩ := h1
    exact .inr ⟨by simpa using hw, h2⟩
theorem put_otherW {a : Act} {d e : Nat} {v : Value} (h : e ≠ d) : (a.put (some e) v).tmps.getD d undef = a.tmps.getD d undef := by
  simp only [Act.put]
  by_cases hd : d < a.tmps.size
  · simp [hd, Array.getElem_setIfInBounds_ne hd h]
  · simp [hd]
theorem wpW_keep {n : Nat} : ∀ (is : List Nat) (a a' : Act) (d : Nat), wpW P ops V n is a a' → (dstsW ops is).contains (some d) = false → a'.tmps.getD d undef = a.tmps.getD d undef
  | [], a, a', d, h, _ => by cases h; rfl
  | i :: is, a, a', d, ⟨o, e, x, ho, hd, hlt, hv, h1, h2⟩, hc => by
    simp only [dstsW, List.map_cons, ho, Option.bind_some, hd, List.contains_cons, Bool.or_eq_false_iff, beq_eq_false_iff_ne] at hc
    have hne : e ≠ d := fun h => hc.1 (by rw [h])
    rw [wpW_keep is x a' d h2 hc.2]
    rcases wpW_key hv h1 with ⟨_, v, _, hx⟩ | ⟨_, hx⟩
    · rw [← hx, hd, put_otherW hne]
    · rw [← hx, hd, put_otherW hne]
theorem put_size {a : Act} {d : Option Nat} {v : Value} : (a.put d v).tmps.size = a.tmps.size := by
  cases d <;> simp [Act.put]
theorem treeTakesW (hS0 : ∃ V, S V) (n : Nat) {r : Tr} {w : World} : ∀ (is : List Nat) {a a' : Act}, a.tmps.size = n → distW (dstsW ops is) = true → (∀ V, S V → wpW P ops V n is a a') → seqT P ops Q S r a' w → seqT P ops Q S (takesOf is r) a w
  | [], a, a', _, _, hy, h => by
    obtain ⟨V0, hV0⟩ := hS0
    cases hy V0 hV0
    exact h
  | i :: is, a, a', hz, hd, hy, h => by
    have hd' := hd
    simp only [dstsW, List.map_cons, distW, Bool.and_eq_true, Bool.not_eq_true'] at hd
    obtain ⟨V0, hV0⟩ := id hS0
    obtain ⟨o, d, x, ho, hod, hlt, hv, h1, h2⟩ := hy V0 hV0
    have hlt' : d < a.tmps.size := by rw [hz]; simpa [Nat.blt_eq] using hlt
    have hnc : (dstsW ops is).contains (some d) = false := by
      have := hd.1
      rw [ho, Option.bind_some, hod] at this
      exact this
    have hput : ∀ v y, a.put o.dst v = y → v = y.tmps.getD d undef := by
      intro v y e
      rw [← e, hod]
      simp [Act.put, hlt']
    have key : ∀ V, S V → wpW P ops V n is x a' ∧ ((Region.wanted o (yielded ops a.tmps) = true ∧ (execOp a.eval o).run P V = .ok (.value (x.tmps.getD d undef)) V ∧ a.put o.dst (x.tmps.getD d undef) = x) ∨ (Region.wanted o (yielded ops a.tmps) = false ∧ a.put o.dst undef = x)) := by
      intro V hV
      obtain ⟨o2, d2, y, ho2, hod2, _, hv2, k1, k2⟩ := hy V hV
      rw [ho] at ho2
      injection ho2 with ho2
      subst ho2
      rw [hod] at hod2
      injection hod2 with hod2
      subst hod2
      have e1 := wpW_keep is x a' d h2 hnc
      have e2 := wpW_keep is y a' d k2 hnc
      have e3 : x.tmps.getD d undef = y.tmps.getD d undef := e1.symm.trans e2
      have hxy : y = x := by
        have fin : ∀ v u, a.put o.dst v = x → a.put o.dst u = y → y = x := by
          intro v u hx hu
          have : u = v := (hput u y hu).trans (e3.symm.trans (hput v x hx).symm)
          rw [← hx, ← hu, this]
        rcases wpW_key hv h1 with ⟨_, v, _, hx⟩ | ⟨_, hx⟩
        · rcases wpW_key hv k1 with ⟨_, u, _, hu⟩ | ⟨_, hu⟩
          · exact fin _ _ hx hu
          · exact fin _ _ hx hu
        · rcases wpW_key hv k1 with ⟨_, u, _, hu⟩ | ⟨_, hu⟩
          · exact fin _ _ hx hu
          · exact fin _ _ hx hu
      subst hxy
      refine ⟨k2, ?_⟩
      rcases wpW_key hv k1 with ⟨hw, u, hr, hu⟩ | ⟨hw, hu⟩
      · have := hput u y hu
        rw [← this]
        exact .inl ⟨hw, hr, hu⟩
      · exact .inr ⟨hw, hu⟩
    have hxz : x.tmps.size = n := by
      rcases (key V0 hV0).2 with ⟨_, _, hx⟩ | ⟨_, hx⟩
      · rw [← hx, put_size]; exact hz
      · rw [← hx, put_size]; exact hz
    have ih := treeTakesW hS0 n is hxz (by simpa [dstsW] using hd.2) (fun V hV => (key V hV).1) h
    have ho' : ops[i]? = some o := by rw [nth_eq] at ho; simpa using ho
    rcases (key V0 hV0).2 with ⟨hw, _, hx⟩ | ⟨hw, hx⟩
    · refine ⟨o, x.tmps.getD d undef, ho', .inl ⟨hw, fun V hV => ?_⟩, by rw [hx]; exact ih⟩
      rcases (key V hV).2 with ⟨_, hr, _⟩ | ⟨hw', _⟩
      · exact hr
      · rw [hw] at hw'; cases hw'
    · exact ⟨o, undef, ho', .inr ⟨hw, rfl⟩, by rw [hx]; exact ih⟩
end
end Go.Proofs.YtdnpmapelmjfpaaGreatDoor
namespace Go.Proofs.YtdnpmapelmjfpaaGreatDoor
set_option linter.unusedSimpArgs false
set_option linter.unusedVariables false
open Go.RowKit
set_option maxRecDepth 100000
theorem or_low16 (x c : Nat) (hc : c < 16) : x * 16 ||| c = x * 16 + c := by
  have := Nat.shiftLeft_add_eq_or_of_lt (i := 4) (b := c) hc x
  rw [Nat.shiftLeft_eq] at this
  exact this.symm
set_option maxHeartbeats 1000000 in
theorem edns_code (c e : Nat) (w : World) (hc : c ≤ 255) (he : e ≤ 255) : Calls Tryz.prog 14 #[.int .u8 c, .int .u8 e] w fun x w' => x = .returned (.int .i64 ((e * 16 + c % 16 : Nat) : Int)) ∧ w = w' := by
  have a1 : bits .and .u8 (c : Int) 15 = ((c % 16 : Nat) : Int) := by
    rw [show (15 : Int) = ((15 : Nat) : Int) from rfl, u8_and_nat c 15 (by omega) (by omega), show (15 : Nat) = 2 ^ 4 - 1 from rfl, and_mask]
  have a2 : bits .or .i64 ((e : Int) * 16) ((c % 16 : Nat) : Int) = ((e * 16 + c % 16 : Nat) : Int) := by
    have h1 := i64_or_nat (e * 16) (c % 16) (by omega) (by omega)
    rw [or_low16 _ _ (by omega), Int.natCast_mul] at h1
    exact h1
  have hci : (c : Int) ≤ 255 := by omega
  have hei : (e : Int) ≤ 255 := by omega
  have m1 : ((c % 16 : Nat) : Int) ≤ 15 := by omega
  have HA := Lib.hid a2
  generalize c % 16 = c16 at *
  go_enter Tryz.func14, Tryz.ntmps14
  go_wp2_with fail
  go_ret
  exact ⟨rfl, rfl⟩
theorem cell_ltF {w : World} {p : Addr} {v : Value} (h : w.cell? p = some v) : p.block < w.heap.size := by
  rcases Nat.lt_or_ge p.block w.heap.size with h' | h'
  · exact h'
  · simp [World.cell?, Array.getElem?_eq_none h'] at h
def ksOf (c : CameD) (cd : Int) : List Int := if c.kind = 2 then [cd % 16, c.code] else [cd % 16]
theorem info_i64 : (Tryz.prog.info? 3).map (fun i => (i.zero, i.size, i.bytes)) = some (some (.int .i64 0), 1, 8) := by kernel_rfl
theorem i64_one (l : List Int) : ∀ u ∈ l.map (fun k => Value.int .i64 k), u.oneCell' = true := by
  intro u hu
  obtain ⟨b, _, rfl⟩ := List.mem_map.1 hu
  rfl
theorem ans_fits {d : List UInt8} {c : CameD} (hc : LookOk d c) {code : Int} {sets soa : List SetD} {ttl n : Int} (h1 : ∀ s ∈ sets, s.wfT) (h2 : ∀ s ∈ soa, s.wfT) (ht : 0 ≤ ttl ∧ ttl ≤ 4294967295) (h : ansOf c code sets soa ttl n ≠ []) :
    c.kind = 3 ∧ ∃ m, decR (ansOf c code sets soa ttl n) = .ok m ∧ m.qs = [c.q] ∧ m.he = c.hasE ∧ 2 ≤ (ansOf c code sets soa ttl n).length ∧ ((ansOf c code sets soa ttl n).length : Int) ≤ roomOf c n ∧ (ansOf c code sets soa ttl n).take 2 = d.take 2 ∧ 2 ≤ d.length := by
  obtain ⟨⟨hM, hm⟩, hor⟩ := ans_read hc h1 h2 ht h
  obtain ⟨hk, hn, _, _⟩ := hM
  obtain ⟨hq, _, hop⟩ := hc.asks hk
  obtain ⟨e1, e2⟩ := hc.hd (by rw [hk]; decide)
  have hr := room_le c n
  have hid : two c.hd.id.toNat = d.take 2 := by
    rw [data_id e2, e1]
    show two ((n16 d 0 : Nat) : Int).toNat = _
    rw [Int.toNat_natCast]
  have hb := blank_enc code n (show c.hd.op ≤ 15 by omega) hc.q true
  rcases hor with ⟨hr1, he, hd, hl⟩ | ⟨hr1, he, hd, hl⟩
  · obtain ⟨i1, i2⟩ := enc_id hr1.1
    rw [← he] at i1 i2
    exact ⟨hk, _, hd, (by show (if c.hasQ = true then [c.q] else []) = _; rw [if_pos hq]), rfl, by omega, hl, i2.trans hid, by omega⟩
  · have hce : encErr (cutOf c code n) = 0 := hb.1
    obtain ⟨i1, i2⟩ := enc_id hce
    rw [← he] at i1 i2
    exact ⟨hk, _, hd, (by show (if c.hasQ = true then [c.q] else []) = _; rw [if_pos hq]), rfl, by omega, by omega, i2.trans hid, by omega⟩
def FitS (b17 b11 : Nat) (c : CameD) (n : Int) (kn : Nat) (aA uA xA : Option Addr) (ac uc xc : Nat) (V : World) : Prop :=
  V.cell? ⟨b17, 1, none⟩ = some (.bool true) ∧ V.cell? ⟨b17, 2, none⟩ = some (.int .u8 c.hd.op) ∧ V.cell? ⟨b17, 3, none⟩ = some (.bool false) ∧ V.cell? ⟨b17, 4, none⟩ = some (.bool false) ∧
  V.cell? ⟨b17, 5, none⟩ = some (.bool c.hd.rd) ∧ V.cell? ⟨b17, 6, none⟩ = some (.bool true) ∧ V.cell? ⟨b17, 9, none⟩ = some (.bool c.hd.cd) ∧ V.cell? ⟨b17, 10, none⟩ = some (.int .u8 ((kn % 16 : Nat) : Int)) ∧
  V.cell? ⟨b17, 17, none⟩ = some (.int .u8 ((kn / 16 : Nat) : Int)) ∧ V.cell? ⟨b17, 15, none⟩ = some (.bool c.hasE) ∧ (c.hasE = true → V.cell? ⟨b17, 16, none⟩ = some (.int .u16 n)) ∧
  V.cell? ⟨b17, 12, none⟩ = some (.slice aA 0 ac) ∧ V.cell? ⟨b17, 13, none⟩ = some (.slice uA 0 uc) ∧ V.cell? ⟨b17, 14, none⟩ = some (.slice xA 0 xc) ∧
  V.cell? ⟨b11, 4, none⟩ = some (.int .u8 c.hd.op) ∧ V.cell? ⟨b11, 7, none⟩ = some (.bool c.hd.rd) ∧ V.cell? ⟨b11, 11, none⟩ = some (.bool c.hd.cd) ∧ V.cell? ⟨b11, 17, none⟩ = some (.bool c.hasE) ∧
  V.heap[b11]? = some (.cells (caRow c.kind c.code c.hd c.hasQ c.q c.hasE c.size) 34)
def findC (k : Nat) : Nat → Code → Option Code
  | 0, _ => none
  | _ + 1, .region i ops b => if i = k then some (.region i ops b) else none
  | n + 1, .seq a b => (findC k n a).orElse fun _ => findC k n b
  | n + 1, .cond _ a b => (findC k n a).orElse fun _ => findC k n b
  | n + 1, .loop a => findC k n a
  | n + 1, .scope a => findC k n a
  | n + 1, .block _ a => findC k n a
  | _ + 1, _ => none
noncomputable def fits_r14C : Code := ((Tryz.f3.body).bind (findC 14 400)).getD .skip
set_option maxHeartbeats 40000000 in
theorem fits_r14 {Q : Exit → Act → World → Prop} {f1 f2 f3 f4 f5 f6 f7 f8 f9 f10 f13 f14 f19 f20 f21 f22 f23 f24 f25 f26 f27 f28 f29 f30 f31 f32 f33 f34 f35 f36 f37 f38 f39 f40 f41 f42 f43 f44 f45 f46 f47 f48 f49 f50 f51 f52 f53 f54 f55 f56 f57 f58 f59 f60 f61 f62 f63 f64 f65 f66 f67 f68 f69 f70 f71 f72 f73 f74 f75 f76 f77 f78 f79 f80 f81 f82 f83 f84 f85 f86 f87 f88 f89 f90 f91 f92 f93 f94 f95 f96 f97 f98 f99 f100 f101 f102 f103 f104 f105 f106 f107 f108 f109 f110 f111 f112 f113 f114 f115 f116 f117 f118 f119 f120 f121 f122 f123 f124 f125 f126 f127 f128 f129 f130 f131 f132 f133 f134 f135 f136 f137 f138 f139 f140 f141 f142 f143 f144 f145 f146 f147 f148 f149 f150 f151 f152 f153 f154 f155 f156 f157 f158 f159 f160 f161 f162 f163 f164 f165 f166 f167 f168 f169 f170 f171 f172 f173 f174 f175 f176 f177 f178 f179 f180 f181 f182 f183 f184 f185 f186 f187 f188 f189 f190 f191 f192 f193 f194 f195 f196 f197 f198 f199 f200 f201 f202 f203 f204 f205 f206 f207 f208 f209 f210 f211 f212 f213 f214 f215 f216 f217 f218 f219 f220 f221 f222 f223 f224 f225 f226 f227 f228 f229 f230 f231 f232 f233 f234 f235 f236 f237 f238 f239 f240 f241 f242 f243 f244 f245 f246 f247 f248 f249 f250 f251 f252 f253 f254 f255 f256 f257 f258 f259 f260 f261 f262 f263 f264 f265 f266 f267 f268 f269 f270 f271 f272 f273 f274 f275 f276 f277 f278 f279 f280 f281 f282 f283 f284 f285 f286 f287 f288 f289 f290 f291 f292 f293 f294 f295 f296 f297 f298 f299 f300 f301 f302 f303 f304 f305 f306 f307 f308 f309 : Value} {c : CameD} {n : Int} {kn : Nat} {s d : List UInt8} {b17 b11 : Nat} {aA uA xA : Option Addr} {ac uc xc : Nat} (X7 : World) (HS0 : ∀ V, Ext X7 V → FitS b17 b11 c n kn aA uA xA ac uc xc V) (hkn : kn ≤ 16) (hn : 0 ≤ n ∧ n ≤ 65535) (hwz : wrap64 n = n) (p3i : ¬ (s.length : Int) < 2) (p8i : ¬ (d.length : Int) < 2) (p4i : ¬ roomOf c n < (s.length : Int)) (htk : s.take 2 = d.take 2)
    (hQ : ∀ (t91 t92 t93 t94 t95 t96 t97 t98 t99 t100 t101 t102 t103 t104 t105 t106 t107 t108 t109 t110 t111 t112 t113 t114 t115 t116 t117 t118 t119 t120 t121 t122 t123 t124 t125 t126 t127 t128 t129 t130 t131 t132 t133 t134 t135 t136 t137 t138 t139 t140 t141 t142 t143 t144 t145 t146 t147 t148 t149 t150 t151 t152 t153 t154 t155 t156 t157 t158 t159 t160 t161 t162 t163 t164 t165 t166 t167 t168 t169 t170 t171 t172 t173 t174 t175 t176 t177 t178 t179 t180 t181 t182 t183 t184 t185 t186 t187 t188 t189 t190 t191 t192 t193 t194 t195 t196 t197 t198 t199 t200 t201 t202 t203 t204 t205 t206 t207 t208 t209 t210 t211 t212 t213 : Value) (V : World), Ext X7 V → Q .normal ⟨(S d :: f1 :: f2 :: f3 :: f4 :: f5 :: f6 :: f7 :: f8 :: f9 :: f10 :: .pointer (some ⟨b11, 0, none⟩) :: .int .i64 n :: f13 :: f14 :: .int .i64 (kn : Int) :: S s :: .pointer (some ⟨b17, 0, none⟩) :: .int .i64 0 :: f19 :: f20 :: f21 :: f22 :: f23 :: f24 :: f25 :: f26 :: f27 :: f28 :: f29 :: f30 :: f31 :: f32 :: f33 :: f34 :: f35 :: f36 :: f37 :: f38 :: f39 :: f40 :: f41 :: f42 :: f43 :: f44 :: f45 :: f46 :: f47 :: f48 :: f49 :: f50 :: f51 :: f52 :: f53 :: f54 :: f55 :: f56 :: f57 :: f58 :: f59 :: f60 :: f61 :: f62 :: f63 :: f64 :: f65 :: f66 :: f67 :: f68 :: f69 :: f70 :: f71 :: f72 :: f73 :: f74 :: f75 :: f76 :: f77 :: f78 :: f79 :: f80 :: f81 :: f82 :: f83 :: f84 :: f85 :: f86 :: f87 :: f88 :: f89 :: f90 :: t91 :: t92 :: t93 :: t94 :: t95 :: t96 :: t97 :: t98 :: t99 :: t100 :: t101 :: t102 :: t103 :: t104 :: t105 :: t106 :: t107 :: t108 :: t109 :: t110 :: t111 :: t112 :: t113 :: t114 :: t115 :: t116 :: t117 :: t118 :: t119 :: t120 :: t121 :: t122 :: t123 :: t124 :: t125 :: t126 :: t127 :: t128 :: t129 :: t130 :: t131 :: t132 :: t133 :: t134 :: t135 :: t136 :: t137 :: t138 :: t139 :: t140 :: t141 :: t142 :: t143 :: t144 :: t145 :: t146 :: t147 :: t148 :: t149 :: t150 :: t151 :: t152 :: t153 :: t154 :: t155 :: t156 :: t157 :: t158 :: t159 :: t160 :: t161 :: t162 :: t163 :: t164 :: t165 :: t166 :: t167 :: t168 :: t169 :: t170 :: t171 :: t172 :: t173 :: t174 :: t175 :: t176 :: t177 :: t178 :: t179 :: t180 :: t181 :: t182 :: t183 :: t184 :: t185 :: t186 :: t187 :: t188 :: t189 :: t190 :: t191 :: t192 :: t193 :: t194 :: t195 :: t196 :: t197 :: t198 :: t199 :: t200 :: t201 :: t202 :: t203 :: t204 :: t205 :: t206 :: t207 :: t208 :: t209 :: t210 :: t211 :: t212 :: t213 :: .bool false :: f215 :: f216 :: f217 :: f218 :: f219 :: f220 :: f221 :: f222 :: f223 :: f224 :: f225 :: f226 :: f227 :: f228 :: f229 :: f230 :: f231 :: f232 :: f233 :: f234 :: f235 :: f236 :: f237 :: f238 :: f239 :: f240 :: f241 :: f242 :: f243 :: f244 :: f245 :: f246 :: f247 :: f248 :: f249 :: f250 :: f251 :: f252 :: f253 :: f254 :: f255 :: f256 :: f257 :: f258 :: f259 :: f260 :: f261 :: f262 :: f263 :: f264 :: f265 :: f266 :: f267 :: f268 :: f269 :: f270 :: f271 :: f272 :: f273 :: f274 :: f275 :: f276 :: f277 :: f278 :: f279 :: f280 :: f281 :: f282 :: f283 :: f284 :: f285 :: f286 :: f287 :: f288 :: f289 :: f290 :: f291 :: f292 :: f293 :: f294 :: f295 :: f296 :: f297 :: f298 :: f299 :: f300 :: f301 :: f302 :: f303 :: f304 :: f305 :: f306 :: f307 :: f308 :: f309 :: []).toArray, []⟩ V) :
    Code.wp Tryz.prog fits_r14C Q ⟨(S d :: f1 :: f2 :: f3 :: f4 :: f5 :: f6 :: f7 :: f8 :: f9 :: f10 :: .pointer (some ⟨b11, 0, none⟩) :: .int .i64 n :: f13 :: f14 :: .int .i64 (kn : Int) :: S s :: .pointer (some ⟨b17, 0, none⟩) :: .int .i64 0 :: f19 :: f20 :: f21 :: f22 :: f23 :: f24 :: f25 :: f26 :: f27 :: f28 :: f29 :: f30 :: f31 :: f32 :: f33 :: f34 :: f35 :: f36 :: f37 :: f38 :: f39 :: f40 :: f41 :: f42 :: f43 :: f44 :: f45 :: f46 :: f47 :: f48 :: f49 :: f50 :: f51 :: f52 :: f53 :: f54 :: f55 :: f56 :: f57 :: f58 :: f59 :: f60 :: f61 :: f62 :: f63 :: f64 :: f65 :: f66 :: f67 :: f68 :: f69 :: f70 :: f71 :: f72 :: f73 :: f74 :: f75 :: f76 :: f77 :: f78 :: f79 :: f80 :: f81 :: f82 :: f83 :: f84 :: f85 :: f86 :: f87 :: f88 :: f89 :: f90 :: f91 :: f92 :: f93 :: f94 :: f95 :: f96 :: f97 :: f98 :: f99 :: f100 :: f101 :: f102 :: f103 :: f104 :: f105 :: f106 :: f107 :: f108 :: f109 :: f110 :: f111 :: f112 :: f113 :: f114 :: f115 :: f116 :: f117 :: f118 :: f119 :: f120 :: f121 :: f122 :: f123 :: f124 :: f125 :: f126 :: f127 :: f128 :: f129 :: f130 :: f131 :: f132 :: f133 :: f134 :: f135 :: f136 :: f137 :: f138 :: f139 :: f140 :: f141 :: f142 :: f143 :: f144 :: f145 :: f146 :: f147 :: f148 :: f149 :: f150 :: f151 :: f152 :: f153 :: f154 :: f155 :: f156 :: f157 :: f158 :: f159 :: f160 :: f161 :: f162 :: f163 :: f164 :: f165 :: f166 :: f167 :: f168 :: f169 :: f170 :: f171 :: f172 :: f173 :: f174 :: f175 :: f176 :: f177 :: f178 :: f179 :: f180 :: f181 :: f182 :: f183 :: f184 :: f185 :: f186 :: f187 :: f188 :: f189 :: f190 :: f191 :: f192 :: f193 :: f194 :: f195 :: f196 :: f197 :: f198 :: f199 :: f200 :: f201 :: f202 :: f203 :: f204 :: f205 :: f206 :: f207 :: f208 :: f209 :: f210 :: f211 :: f212 :: f213 :: f214 :: f215 :: f216 :: f217 :: f218 :: f219 :: f220 :: f221 :: f222 :: f223 :: f224 :: f225 :: f226 :: f227 :: f228 :: f229 :: f230 :: f231 :: f232 :: f233 :: f234 :: f235 :: f236 :: f237 :: f238 :: f239 :: f240 :: f241 :: f242 :: f243 :: f244 :: f245 :: f246 :: f247 :: f248 :: f249 :: f250 :: f251 :: f252 :: f253 :: f254 :: f255 :: f256 :: f257 :: f258 :: f259 :: f260 :: f261 :: f262 :: f263 :: f264 :: f265 :: f266 :: f267 :: f268 :: f269 :: f270 :: f271 :: f272 :: f273 :: f274 :: f275 :: f276 :: f277 :: f278 :: f279 :: f280 :: f281 :: f282 :: f283 :: f284 :: f285 :: f286 :: f287 :: f288 :: f289 :: f290 :: f291 :: f292 :: f293 :: f294 :: f295 :: f296 :: f297 :: f298 :: f299 :: f300 :: f301 :: f302 :: f303 :: f304 :: f305 :: f306 :: f307 :: f308 :: f309 :: []).toArray, []⟩ X7 := by
  conv => arg 2; whnf
  have HS := Lib.hid HS0
  clear HS0
  have HRo := Lib.hid (fun V => int_room c n V)
  have HEC := Lib.hid (fun V => edns_code (kn % 16) (kn / 16) V (by omega) (by omega))
  rw [show kn / 16 * 16 + kn % 16 % 16 = kn by omega] at HEC
  have p3d : decide ((s.length : Int) < 2) = false := decide_eq_false p3i
  have p8d : decide ((d.length : Int) < 2) = false := decide_eq_false p8i
  have p4d : decide (roomOf c n < (s.length : Int)) = false := decide_eq_false p4i
  have ps2 : (2 : Int) ≤ (s.length : Int) := by omega
  have pd2 : (2 : Int) ≤ (d.length : Int) := by omega
  refine wp_region_noPanic ?_
  refine wp_region_tree (S := fun V => Ext X7 V) (takesOf [0, 1, 2, 3, 4, 5, 6, 7, 8, 9, 10, 11, 12, 13, 14, 15, 16] (.run 17 (takesOf [18, 19, 20, 21, 22, 23, 24, 25, 26, 27, 28, 29, 30, 31, 32, 33, 35] (.run 34 (takesOf [36, 37, 38, 39, 40, 41, 42, 43, 44, 45, 46, 47, 48, 49, 50, 51, 52, 53, 54, 55, 56, 57, 58, 59, 60, 61, 62, 63, 64, 65, 66, 67, 68, 69, 70, 71, 72, 73, 74, 75, 76, 77, 78, 79, 80, 81, 82, 83, 84, 85, 86, 87, 88, 89, 90, 91, 92, 93] (takesOf [94, 95, 96, 97, 98, 99, 100, 101, 102, 103, 104, 105, 106, 107, 108, 109, 110, 111, 112, 113, 114, 115, 116, 117, 118, 119, 120, 121, 122, 123] .done)))))) (by kernel_rfl) (by rw [Bool.and_eq_true]; refine ⟨by kernel_rfl, ?_⟩; refine okT_takes [0, 1, 2, 3, 4, 5] _ _ 118 _ #[true, true, true, true, true, true, false, false, false, false, false, false, false, false, false, false, false, false, false, false, false, false, false, false, false, false, false, false, false, false, false, false, false, false, false, false, false, false, false, false, false, false, false, false, false, false, false, false, false, false, false, false, false, false, false, false, false, false, false, false, false, false, false, false, false, false, false, false, false, false, false, false, false, false, false, false, false, false, false, false, false, false, false, false, false, false, false, false, false, false, false, false, false, false, false, false, false, false, false, false, false, false, false, false, false, false, false, false, false, false, false, false, false, false, false, false, false, false, false, false, false, false, false, false] (by as_aux_lemma => kernel_rfl) (by kernel_rfl) (by kernel_rfl) ?_; refine okT_takes [6, 7, 8, 9, 10, 11] _ _ 112 _ #[true, true, true, true, true, true, true, true, true, true, true, true, false, false, false, false, false, false, false, false, false, false, false, false, false, false, false, false, false, false, false, false, false, false, false, false, false, false, false, false, false, false, false, false, false, false, false, false, false, false, false, false, false, false, false, false, false, false, false, false, false, false, false, false, false, false, false, false, false, false, false, false, false, false, false, false, false, false, false, false, false, false, false, false, false, false, false, false, false, false, false, false, false, false, false, false, false, false, false, false, false, false, false, false, false, false, false, false, false, false, false, false, false, false, false, false, false, false, false, false, false, false, false, false] (by as_aux_lemma => kernel_rfl) (by kernel_rfl) (by kernel_rfl) ?_; refine okT_takes [12, 13, 14, 15, 16] _ _ 107 _ #[true, true, true, true, true, true, true, true, true, true, true, true, true, true, true, true, true, false, false, false, false, false, false, false, false, false, false, false, false, false, false, false, false, false, false, false, false, false, false, false, false, false, false, false, false, false, false, false, false, false, false, false, false, false, false, false, false, false, false, false, false, false, false, false, false, false, false, false, false, false, false, false, false, false, false, false, false, false, false, false, false, false, false, false, false, false, false, false, false, false, false, false, false, false, false, false, false, false, false, false, false, false, false, false, false, false, false, false, false, false, false, false, false, false, false, false, false, false, false, false, false, false, false, false] (by as_aux_lemma => kernel_rfl) (by kernel_rfl) (by kernel_rfl) ?_; refine okT_run1 17 _ _ 106 _ #[true, true, true, true, true, true, true, true, true, true, true, true, true, true, true, true, true, true, false, false, false, false, false, false, false, false, false, false, false, false, false, false, false, false, false, false, false, false, false, false, false, false, false, false, false, false, false, false, false, false, false, false, false, false, false, false, false, false, false, false, false, false, false, false, false, false, false, false, false, false, false, false, false, false, false, false, false, false, false, false, false, false, false, false, false, false, false, false, false, false, false, false, false, false, false, false, false, false, false, false, false, false, false, false, false, false, false, false, false, false, false, false, false, false, false, false, false, false, false, false, false, false, false, false] (by kernel_rfl) (by as_aux_lemma => kernel_rfl) (by kernel_rfl) (by kernel_rfl) ?_; refine okT_takes [18, 19, 20, 21, 22, 23] _ _ 100 _ #[true, true, true, true, true, true, true, true, true, true, true, true, true, true, true, true, true, true, true, true, true, true, true, true, false, false, false, false, false, false, false, false, false, false, false, false, false, false, false, false, false, false, false, false, false, false, false, false, false, false, false, false, false, false, false, false, false, false, false, false, false, false, false, false, false, false, false, false, false, false, false, false, false, false, false, false, false, false, false, false, false, false, false, false, false, false, false, false, false, false, false, false, false, false, false, false, false, false, false, false, false, false, false, false, false, false, false, false, false, false, false, false, false, false, false, false, false, false, false, false, false, false, false, false] (by as_aux_lemma => kernel_rfl) (by kernel_rfl) (by kernel_rfl) ?_; refine okT_takes [24, 25, 26, 27, 28, 29] _ _ 94 _ #[true, true, true, true, true, true, true, true, true, true, true, true, true, true, true, true, true, true, true, true, true, true, true, true, true, true, true, true, true, true, false, false, false, false, false, false, false, false, false, false, false, false, false, false, false, false, false, false, false, false, false, false, false, false, false, false, false, false, false, false, false, false, false, false, false, false, false, false, false, false, false, false, false, false, false, false, false, false, false, false, false, false, false, false, false, false, false, false, false, false, false, false, false, false, false, false, false, false, false, false, false, false, false, false, false, false, false, false, false, false, false, false, false, false, false, false, false, false, false, false, false, false, false, false] (by as_aux_lemma => kernel_rfl) (by kernel_rfl) (by kernel_rfl) ?_; refine okT_takes [30, 31, 32, 33, 35] _ _ 89 _ #[true, true, true, true, true, true, true, true, true, true, true, true, true, true, true, true, true, true, true, true, true, true, true, true, true, true, true, true, true, true, true, true, true, true, false, true, false, false, false, false, false, false, false, false, false, false, false, false, false, false, false, false, false, false, false, false, false, false, false, false, false, false, false, false, false, false, false, false, false, false, false, false, false, false, false, false, false, false, false, false, false, false, false, false, false, false, false, false, false, false, false, false, false, false, false, false, false, false, false, false, false, false, false, false, false, false, false, false, false, false, false, false, false, false, false, false, false, false, false, false, false, false, false, false] (by as_aux_lemma => kernel_rfl) (by kernel_rfl) (by kernel_rfl) ?_; refine okT_run1 34 _ _ 88 _ #[true, true, true, true, true, true, true, true, true, true, true, true, true, true, true, true, true, true, true, true, true, true, true, true, true, true, true, true, true, true, true, true, true, true, true, true, false, false, false, false, false, false, false, false, false, false, false, false, false, false, false, false, false, false, false, false, false, false, false, false, false, false, false, false, false, false, false, false, false, false, false, false, false, false, false, false, false, false, false, false, false, false, false, false, false, false, false, false, false, false, false, false, false, false, false, false, false, false, false, false, false, false, false, false, false, false, false, false, false, false, false, false, false, false, false, false, false, false, false, false, false, false, false, false] (by kernel_rfl) (by as_aux_lemma => kernel_rfl) (by kernel_rfl) (by kernel_rfl) ?_; refine okT_takes [36, 37, 38, 39, 40, 41] _ _ 82 _ #[true, true, true, true, true, true, true, true, true, true, true, true, true, true, true, true, true, true, true, true, true, true, true, true, true, true, true, true, true, true, true, true, true, true, true, true, true, true, true, true, true, true, false, false, false, false, false, false, false, false, false, false, false, false, false, false, false, false, false, false, false, false, false, false, false, false, false, false, false, false, false, false, false, false, false, false, false, false, false, false, false, false, false, false, false, false, false, false, false, false, false, false, false, false, false, false, false, false, false, false, false, false, false, false, false, false, false, false, false, false, false, false, false, false, false, false, false, false, false, false, false, false, false, false] (by as_aux_lemma => kernel_rfl) (by kernel_rfl) (by kernel_rfl) ?_; refine okT_takes [42, 43, 44, 45, 46, 47] _ _ 76 _ #[true, true, true, true, true, true, true, true, true, true, true, true, true, true, true, true, true, true, true, true, true, true, true, true, true, true, true, true, true, true, true, true, true, true, true, true, true, true, true, true, true, true, true, true, true, true, true, true, false, false, false, false, false, false, false, false, false, false, false, false, false, false, false, false, false, false, false, false, false, false, false, false, false, false, false, false, false, false, false, false, false, false, false, false, false, false, false, false, false, false, false, false, false, false, false, false, false, false, false, false, false, false, false, false, false, false, false, false, false, false, false, false, false, false, false, false, false, false, false, false, false, false, false, false] (by as_aux_lemma => kernel_rfl) (by kernel_rfl) (by kernel_rfl) ?_; refine okT_takes [48, 49, 50, 51, 52, 53] _ _ 70 _ #[true, true, true, true, true, true, true, true, true, true, true, true, true, true, true, true, true, true, true, true, true, true, true, true, true, true, true, true, true, true, true, true, true, true, true, true, true, true, true, true, true, true, true, true, true, true, true, true, true, true, true, true, true, true, false, false, false, false, false, false, false, false, false, false, false, false, false, false, false, false, false, false, false, false, false, false, false, false, false, false, false, false, false, false, false, false, false, false, false, false, false, false, false, false, false, false, false, false, false, false, false, false, false, false, false, false, false, false, false, false, false, false, false, false, false, false, false, false, false, false, false, false, false, false] (by as_aux_lemma => kernel_rfl) (by kernel_rfl) (by kernel_rfl) ?_; refine okT_takes [54, 55, 56, 57, 58, 59] _ _ 64 _ #[true, true, true, true, true, true, true, true, true, true, true, true, true, true, true, true, true, true, true, true, true, true, true, true, true, true, true, true, true, true, true, true, true, true, true, true, true, true, true, true, true, true, true, true, true, true, true, true, true, true, true, true, true, true, true, true, true, true, true, true, false, false, false, false, false, false, false, false, false, false, false, false, false, false, false, false, false, false, false, false, false, false, false, false, false, false, false, false, false, false, false, false, false, false, false, false, false, false, false, false, false, false, false, false, false, false, false, false, false, false, false, false, false, false, false, false, false, false, false, false, false, false, false, false] (by as_aux_lemma => kernel_rfl) (by kernel_rfl) (by kernel_rfl) ?_; refine okT_takes [60, 61, 62, 63, 64, 65] _ _ 58 _ #[true, true, true, true, true, true, true, true, true, true, true, true, true, true, true, true, true, true, true, true, true, true, true, true, true, true, true, true, true, true, true, true, true, true, true, true, true, true, true, true, true, true, true, true, true, true, true, true, true, true, true, true, true, true, true, true, true, true, true, true, true, true, true, true, true, true, false, false, false, false, false, false, false, false, false, false, false, false, false, false, false, false, false, false, false, false, false, false, false, false, false, false, false, false, false, false, false, false, false, false, false, false, false, false, false, false, false, false, false, false, false, false, false, false, false, false, false, false, false, false, false, false, false, false] (by as_aux_lemma => kernel_rfl) (by kernel_rfl) (by kernel_rfl) ?_; refine okT_takes [66, 67, 68, 69, 70, 71] _ _ 52 _ #[true, true, true, true, true, true, true, true, true, true, true, true, true, true, true, true, true, true, true, true, true, true, true, true, true, true, true, true, true, true, true, true, true, true, true, true, true, true, true, true, true, true, true, true, true, true, true, true, true, true, true, true, true, true, true, true, true, true, true, true, true, true, true, true, true, true, true, true, true, true, true, true, false, false, false, false, false, false, false, false, false, false, false, false, false, false, false, false, false, false, false, false, false, false, false, false, false, false, false, false, false, false, false, false, false, false, false, false, false, false, false, false, false, false, false, false, false, false, false, false, false, false, false, false] (by as_aux_lemma => kernel_rfl) (by kernel_rfl) (by kernel_rfl) ?_; refine okT_takes [72, 73, 74, 75, 76, 77] _ _ 46 _ #[true, true, true, true, true, true, true, true, true, true, true, true, true, true, true, true, true, true, true, true, true, true, true, true, true, true, true, true, true, true, true, true, true, true, true, true, true, true, true, true, true, true, true, true, true, true, true, true, true, true, true, true, true, true, true, true, true, true, true, true, true, true, true, true, true, true, true, true, true, true, true, true, true, true, true, true, true, true, false, false, false, false, false, false, false, false, false, false, false, false, false, false, false, false, false, false, false, false, false, false, false, false, false, false, false, false, false, false, false, false, false, false, false, false, false, false, false, false, false, false, false, false, false, false] (by as_aux_lemma => kernel_rfl) (by kernel_rfl) (by kernel_rfl) ?_; refine okT_takes [78, 79, 80, 81, 82, 83] _ _ 40 _ #[true, true, true, true, true, true, true, true, true, true, true, true, true, true, true, true, true, true, true, true, true, true, true, true, true, true, true, true, true, true, true, true, true, true, true, true, true, true, true, true, true, true, true, true, true, true, true, true, true, true, true, true, true, true, true, true, true, true, true, true, true, true, true, true, true, true, true, true, true, true, true, true, true, true, true, true, true, true, true, true, true, true, true, true, false, false, false, false, false, false, false, false, false, false, false, false, false, false, false, false, false, false, false, false, false, false, false, false, false, false, false, false, false, false, false, false, false, false, false, false, false, false, false, false] (by as_aux_lemma => kernel_rfl) (by kernel_rfl) (by kernel_rfl) ?_; refine okT_takes [84, 85, 86, 87, 88, 89] _ _ 34 _ #[true, true, true, true, true, true, true, true, true, true, true, true, true, true, true, true, true, true, true, true, true, true, true, true, true, true, true, true, true, true, true, true, true, true, true, true, true, true, true, true, true, true, true, true, true, true, true, true, true, true, true, true, true, true, true, true, true, true, true, true, true, true, true, true, true, true, true, true, true, true, true, true, true, true, true, true, true, true, true, true, true, true, true, true, true, true, true, true, true, true, false, false, false, false, false, false, false, false, false, false, false, false, false, false, false, false, false, false, false, false, false, false, false, false, false, false, false, false, false, false, false, false, false, false] (by as_aux_lemma => kernel_rfl) (by kernel_rfl) (by kernel_rfl) ?_; refine okT_takes [90, 91, 92, 93] _ _ 30 _ #[true, true, true, true, true, true, true, true, true, true, true, true, true, true, true, true, true, true, true, true, true, true, true, true, true, true, true, true, true, true, true, true, true, true, true, true, true, true, true, true, true, true, true, true, true, true, true, true, true, true, true, true, true, true, true, true, true, true, true, true, true, true, true, true, true, true, true, true, true, true, true, true, true, true, true, true, true, true, true, true, true, true, true, true, true, true, true, true, true, true, true, true, true, true, false, false, false, false, false, false, false, false, false, false, false, false, false, false, false, false, false, false, false, false, false, false, false, false, false, false, false, false, false, false] (by as_aux_lemma => kernel_rfl) (by kernel_rfl) (by kernel_rfl) ?_; refine okT_takes [94, 95, 96, 97, 98, 99] _ _ 24 _ #[true, true, true, true, true, true, true, true, true, true, true, true, true, true, true, true, true, true, true, true, true, true, true, true, true, true, true, true, true, true, true, true, true, true, true, true, true, true, true, true, true, true, true, true, true, true, true, true, true, true, true, true, true, true, true, true, true, true, true, true, true, true, true, true, true, true, true, true, true, true, true, true, true, true, true, true, true, true, true, true, true, true, true, true, true, true, true, true, true, true, true, true, true, true, true, true, true, true, true, true, false, false, false, false, false, false, false, false, false, false, false, false, false, false, false, false, false, false, false, false, false, false, false, false] (by as_aux_lemma => kernel_rfl) (by kernel_rfl) (by kernel_rfl) ?_; refine okT_takes [100, 101, 102, 103, 104, 105] _ _ 18 _ #[true, true, true, true, true, true, true, true, true, true, true, true, true, true, true, true, true, true, true, true, true, true, true, true, true, true, true, true, true, true, true, true, true, true, true, true, true, true, true, true, true, true, true, true, true, true, true, true, true, true, true, true, true, true, true, true, true, true, true, true, true, true, true, true, true, true, true, true, true, true, true, true, true, true, true, true, true, true, true, true, true, true, true, true, true, true, true, true, true, true, true, true, true, true, true, true, true, true, true, true, true, true, true, true, true, true, false, false, false, false, false, false, false, false, false, false, false, false, false, false, false, false, false, false] (by as_aux_lemma => kernel_rfl) (by kernel_rfl) (by kernel_rfl) ?_; refine okT_takes [106, 107, 108, 109, 110, 111] _ _ 12 _ #[true, true, true, true, true, true, true, true, true, true, true, true, true, true, true, true, true, true, true, true, true, true, true, true, true, true, true, true, true, true, true, true, true, true, true, true, true, true, true, true, true, true, true, true, true, true, true, true, true, true, true, true, true, true, true, true, true, true, true, true, true, true, true, true, true, true, true, true, true, true, true, true, true, true, true, true, true, true, true, true, true, true, true, true, true, true, true, true, true, true, true, true, true, true, true, true, true, true, true, true, true, true, true, true, true, true, true, true, true, true, true, true, false, false, false, false, false, false, false, false, false, false, false, false] (by as_aux_lemma => kernel_rfl) (by kernel_rfl) (by kernel_rfl) ?_; refine okT_takes [112, 113, 114, 115, 116, 117] _ _ 6 _ #[true, true, true, true, true, true, true, true, true, true, true, true, true, true, true, true, true, true, true, true, true, true, true, true, true, true, true, true, true, true, true, true, true, true, true, true, true, true, true, true, true, true, true, true, true, true, true, true, true, true, true, true, true, true, true, true, true, true, true, true, true, true, true, true, true, true, true, true, true, true, true, true, true, true, true, true, true, true, true, true, true, true, true, true, true, true, true, true, true, true, true, true, true, true, true, true, true, true, true, true, true, true, true, true, true, true, true, true, true, true, true, true, true, true, true, true, true, true, false, false, false, false, false, false] (by as_aux_lemma => kernel_rfl) (by kernel_rfl) (by kernel_rfl) ?_; refine okT_takes [118, 119, 120, 121, 122, 123] _ _ 0 _ #[true, true, true, true, true, true, true, true, true, true, true, true, true, true, true, true, true, true, true, true, true, true, true, true, true, true, true, true, true, true, true, true, true, true, true, true, true, true, true, true, true, true, true, true, true, true, true, true, true, true, true, true, true, true, true, true, true, true, true, true, true, true, true, true, true, true, true, true, true, true, true, true, true, true, true, true, true, true, true, true, true, true, true, true, true, true, true, true, true, true, true, true, true, true, true, true, true, true, true, true, true, true, true, true, true, true, true, true, true, true, true, true, true, true, true, true, true, true, true, true, true, true, true, true] (by as_aux_lemma => kernel_rfl) (by kernel_rfl) (by kernel_rfl) ?_; as_aux_lemma => kernel_rfl) (fun _ _ _ _ _ h => h) ((Ext.refl X7).drew) ?_
  refine treeTakesW (a' := ?_) ⟨_, (Ext.refl X7).drew⟩ 310 [0, 1, 2, 3, 4, 5, 6, 7, 8, 9, 10, 11, 12, 13, 14, 15, 16] (by kernel_rfl) (by kernel_rfl) ?_ ?_
  rotate_left
  · intro V hV
    obtain ⟨h1, h2, h3, h4, h5, h6, h7, h8, h9, h10, h11, h12, h13, h14, h15, h16, h17, h18, h19⟩ := HS.out V hV
    repeat (refine wpW_cons (x := ?_) (by rfl) rfl rfl rfl ?_ ?_; rotate_left; (focus (intro Q' hq; (repeat (first | (refine wpList_load_part (by rfl) 34 (.tmp 11) rfl b11 0 rfl [.int .u8 c.kind, .int .i64 c.code, .int .u16 c.hd.id, .bool c.hd.qr, .int .u8 c.hd.op, .bool c.hd.aa, .bool c.hd.tc, .bool c.hd.rd, .bool c.hd.ra, .bool c.hd.z, .bool c.hd.ad, .bool c.hd.cd, .int .u8 c.hd.code, .bool c.hasQ, S c.q.name, .int .u16 c.q.typ, .int .u16 c.q.cls, .bool c.hasE, .int .i64 c.size] (row_all h19) _ Tryz.underlying34 rfl (by kernel_rfl) ?_) | go_guarded | go_skip | go_step)); (first | exact hq | exact wpList_nil hq))))
    exact wpW_nil
  refine treeRunX (by rfl) (fun Q' hQ hP => ?_)
  (repeat (first | go_guarded | go_step))
  go_at_call 13
  refine (HRo.out _).mono ?_
  rintro e wc1 ⟨rfl, hEc⟩
  (try dsimp only)
  (repeat (first | go_values | go_skip | go_guarded | go_step | go_upon | go_back))
  have hSwc1 := ((Ext.refl X7).drew).trans hEc
  clear hEc
  (try with_reducible refine wpList_nil ?_)
  refine hQ.out _ _ hSwc1 ?_
  clear hQ hP Q'
  (try simp only [Act.put, List.setIfInBounds_toArray, List.set_cons_zero, List.set_cons_succ])
  refine treeTakesW (a' := ?_) ⟨_, (Ext.refl X7).drew⟩ 310 [18, 19, 20, 21, 22, 23, 24, 25, 26, 27, 28, 29, 30, 31, 32, 33, 35] (by kernel_rfl) (by kernel_rfl) ?_ ?_
  rotate_left
  · intro V hV
    obtain ⟨h1, h2, h3, h4, h5, h6, h7, h8, h9, h10, h11, h12, h13, h14, h15, h16, h17, h18, h19⟩ := HS.out V hV
    repeat (refine wpW_cons (x := ?_) (by rfl) rfl rfl rfl ?_ ?_; rotate_left; (focus (intro Q' hq; (repeat (first | fail | go_guarded | go_skip | go_step)); (first | exact hq | exact wpList_nil hq))))
    exact wpW_nil
  refine treeRunX (by rfl) (fun Q' hQ hP => ?_)
  (repeat (first | go_guarded | go_step))
  go_at_call 14
  refine (HEC.out _).mono ?_
  rintro e wc2 ⟨rfl, rfl⟩
  (try dsimp only)
  (repeat (first | go_values | go_skip | go_guarded | go_step | go_upon | go_back))
  have hSwc2 := hSwc1
  (try with_reducible refine wpList_nil ?_)
  refine hQ.out _ _ hSwc2 ?_
  clear hQ hP Q'
  (try simp only [Act.put, List.setIfInBounds_toArray, List.set_cons_zero, List.set_cons_succ])
  refine treeTakesW (a' := ?_) ⟨_, (Ext.refl X7).drew⟩ 310 [36, 37, 38, 39, 40, 41, 42, 43, 44, 45, 46, 47, 48, 49, 50, 51, 52, 53, 54, 55, 56, 57, 58, 59, 60, 61, 62, 63, 64, 65, 66, 67, 68, 69, 70, 71, 72, 73, 74, 75, 76, 77, 78, 79, 80, 81, 82, 83, 84, 85, 86, 87, 88, 89, 90, 91, 92, 93] (by kernel_rfl) (by kernel_rfl) ?_ ?_
  rotate_left
  · intro V hV
    obtain ⟨h1, h2, h3, h4, h5, h6, h7, h8, h9, h10, h11, h12, h13, h14, h15, h16, h17, h18, h19⟩ := HS.out V hV
    repeat (refine wpW_cons (x := ?_) (by rfl) rfl rfl rfl ?_ ?_; rotate_left; (focus (intro Q' hq; (repeat (first | fail | go_guarded | go_skip | go_step)); (first | exact hq | exact wpList_nil hq))))
    exact wpW_nil
  rcases he : c.hasE with _ | _
  all_goals
    refine treeTakesW (a' := ?_) ⟨_, (Ext.refl X7).drew⟩ 310 [94, 95, 96, 97, 98, 99, 100, 101, 102, 103, 104, 105, 106, 107, 108, 109, 110, 111, 112, 113, 114, 115, 116, 117, 118, 119, 120, 121, 122, 123] (by kernel_rfl) (by kernel_rfl) ?_ ?_
    rotate_left
    · intro V hV
      obtain ⟨h1, h2, h3, h4, h5, h6, h7, h8, h9, h10, h11, h12, h13, h14, h15, h16, h17, h18, h19⟩ := HS.out V hV
      rw [he] at h10 h18
      repeat (refine wpW_cons (x := ?_) (by rfl) rfl rfl rfl ?_ ?_; rotate_left; (focus (intro Q' hq; (repeat (first | fail | go_guarded | go_skip | go_step)); (first | exact hq | exact wpList_nil hq))))
      exact wpW_nil
    refine treeDone ?_
    refine NoPanic.normal ?_
    exact hQ _ _ _ _ _ _ _ _ _ _ _ _ _ _ _ _ _ _ _ _ _ _ _ _ _ _ _ _ _ _ _ _ _ _ _ _ _ _ _ _ _ _ _ _ _ _ _ _ _ _ _ _ _ _ _ _ _ _ _ _ _ _ _ _ _ _ _ _ _ _ _ _ _ _ _ _ _ _ _ _ _ _ _ _ _ _ _ _ _ _ _ _ _ _ _ _ _ _ _ _ _ _ _ _ _ _ _ _ _ _ _ _ _ _ _ _ _ _ _ _ _ _ _ _ hSwc2
noncomputable def fits_r16aC : Code := ((Tryz.f3.body).bind (findC 16 400)).getD .skip
set_option maxHeartbeats 40000000 in
theorem fits_r16a {Q : Exit → Act → World → Prop} {f0 f1 f2 f3 f4 f5 f6 f7 f8 f9 f10 f12 f13 f14 f15 f16 f18 f19 f20 f21 f22 f23 f24 f25 f26 f27 f28 f29 f30 f31 f32 f33 f34 f35 f36 f37 f38 f39 f40 f41 f42 f43 f44 f45 f46 f47 f48 f49 f50 f51 f52 f53 f54 f55 f56 f57 f58 f59 f60 f61 f62 f63 f64 f65 f66 f67 f68 f69 f70 f71 f72 f73 f74 f75 f76 f77 f78 f79 f80 f81 f82 f83 f84 f85 f86 f87 f88 f89 f90 f91 f92 f93 f94 f95 f96 f97 f98 f99 f100 f101 f102 f103 f104 f105 f106 f107 f108 f109 f110 f111 f112 f113 f114 f115 f116 f117 f118 f119 f120 f121 f122 f123 f124 f125 f126 f127 f128 f129 f130 f131 f132 f133 f134 f135 f136 f137 f138 f139 f140 f141 f142 f143 f144 f145 f146 f147 f148 f149 f150 f151 f152 f153 f154 f155 f156 f157 f158 f159 f160 f161 f162 f163 f164 f165 f166 f167 f168 f169 f170 f171 f172 f173 f174 f175 f176 f177 f178 f179 f180 f181 f182 f183 f184 f185 f186 f187 f188 f189 f190 f191 f192 f193 f194 f195 f196 f197 f198 f199 f200 f201 f202 f203 f204 f205 f206 f207 f208 f209 f210 f211 f212 f213 f214 f215 f216 f217 f218 f219 f220 f221 f222 f223 f224 f225 f226 f227 f228 f229 f230 f231 f232 f233 f234 f235 f236 f237 f238 f239 f240 f241 f242 f243 f244 f245 f246 f247 f248 f249 f250 f251 f252 f253 f254 f255 f256 f257 f258 f259 f260 f261 f262 f263 f264 f265 f266 f267 f268 f269 f270 f271 f272 f273 f274 f275 f276 f277 f278 f279 f280 f281 f282 f283 f284 f285 f286 f287 f288 f289 f290 f291 f292 f293 f294 f295 f296 f297 f298 f299 f300 f301 f302 f303 f304 f305 f306 f307 f308 f309 : Value} {b17 b11 qc : Nat} {qA : Option Addr} (X8 : World) (HS0 : ∀ V, Ext X8 V → V.cell? ⟨b11, 13, none⟩ = some (.bool false) ∧ V.cell? ⟨b17, 11, none⟩ = some (.slice qA 0 qc))
    (hQ : ∀ (t215 t216 t217 t218 t219 t220 t221 t222 t223 t224 t225 t226 t227 t228 t229 t230 t231 t232 t233 t234 t235 t236 t237 t238 t239 t240 t241 : Value) (V : World), Ext X8 V → Q .normal ⟨(f0 :: f1 :: f2 :: f3 :: f4 :: f5 :: f6 :: f7 :: f8 :: f9 :: f10 :: .pointer (some ⟨b11, 0, none⟩) :: f12 :: f13 :: f14 :: f15 :: f16 :: .pointer (some ⟨b17, 0, none⟩) :: f18 :: f19 :: f20 :: f21 :: f22 :: f23 :: f24 :: f25 :: f26 :: f27 :: f28 :: f29 :: f30 :: f31 :: f32 :: f33 :: f34 :: f35 :: f36 :: f37 :: f38 :: f39 :: f40 :: f41 :: f42 :: f43 :: f44 :: f45 :: f46 :: f47 :: f48 :: f49 :: f50 :: f51 :: f52 :: f53 :: f54 :: f55 :: f56 :: f57 :: f58 :: f59 :: f60 :: f61 :: f62 :: f63 :: f64 :: f65 :: f66 :: f67 :: f68 :: f69 :: f70 :: f71 :: f72 :: f73 :: f74 :: f75 :: f76 :: f77 :: f78 :: f79 :: f80 :: f81 :: f82 :: f83 :: f84 :: f85 :: f86 :: f87 :: f88 :: f89 :: f90 :: f91 :: f92 :: f93 :: f94 :: f95 :: f96 :: f97 :: f98 :: f99 :: f100 :: f101 :: f102 :: f103 :: f104 :: f105 :: f106 :: f107 :: f108 :: f109 :: f110 :: f111 :: f112 :: f113 :: f114 :: f115 :: f116 :: f117 :: f118 :: f119 :: f120 :: f121 :: f122 :: f123 :: f124 :: f125 :: f126 :: f127 :: f128 :: f129 :: f130 :: f131 :: f132 :: f133 :: f134 :: f135 :: f136 :: f137 :: f138 :: f139 :: f140 :: f141 :: f142 :: f143 :: f144 :: f145 :: f146 :: f147 :: f148 :: f149 :: f150 :: f151 :: f152 :: f153 :: f154 :: f155 :: f156 :: f157 :: f158 :: f159 :: f160 :: f161 :: f162 :: f163 :: f164 :: f165 :: f166 :: f167 :: f168 :: f169 :: f170 :: f171 :: f172 :: f173 :: f174 :: f175 :: f176 :: f177 :: f178 :: f179 :: f180 :: f181 :: f182 :: f183 :: f184 :: f185 :: f186 :: f187 :: f188 :: f189 :: f190 :: f191 :: f192 :: f193 :: f194 :: f195 :: f196 :: f197 :: f198 :: f199 :: f200 :: f201 :: f202 :: f203 :: f204 :: f205 :: f206 :: f207 :: f208 :: f209 :: f210 :: f211 :: f212 :: f213 :: f214 :: t215 :: t216 :: t217 :: t218 :: t219 :: t220 :: t221 :: t222 :: t223 :: t224 :: t225 :: t226 :: t227 :: t228 :: t229 :: t230 :: t231 :: t232 :: t233 :: t234 :: t235 :: t236 :: t237 :: t238 :: t239 :: t240 :: t241 :: .bool false :: f243 :: f244 :: f245 :: f246 :: f247 :: f248 :: f249 :: f250 :: f251 :: f252 :: f253 :: f254 :: f255 :: f256 :: f257 :: f258 :: f259 :: f260 :: f261 :: f262 :: f263 :: f264 :: f265 :: f266 :: f267 :: f268 :: f269 :: f270 :: f271 :: f272 :: f273 :: f274 :: f275 :: f276 :: f277 :: f278 :: f279 :: f280 :: f281 :: f282 :: f283 :: f284 :: f285 :: f286 :: f287 :: f288 :: f289 :: f290 :: f291 :: f292 :: f293 :: f294 :: f295 :: f296 :: f297 :: f298 :: f299 :: f300 :: f301 :: f302 :: f303 :: f304 :: f305 :: f306 :: f307 :: f308 :: f309 :: []).toArray, []⟩ V) :
    Code.wp Tryz.prog fits_r16aC Q ⟨(f0 :: f1 :: f2 :: f3 :: f4 :: f5 :: f6 :: f7 :: f8 :: f9 :: f10 :: .pointer (some ⟨b11, 0, none⟩) :: f12 :: f13 :: f14 :: f15 :: f16 :: .pointer (some ⟨b17, 0, none⟩) :: f18 :: f19 :: f20 :: f21 :: f22 :: f23 :: f24 :: f25 :: f26 :: f27 :: f28 :: f29 :: f30 :: f31 :: f32 :: f33 :: f34 :: f35 :: f36 :: f37 :: f38 :: f39 :: f40 :: f41 :: f42 :: f43 :: f44 :: f45 :: f46 :: f47 :: f48 :: f49 :: f50 :: f51 :: f52 :: f53 :: f54 :: f55 :: f56 :: f57 :: f58 :: f59 :: f60 :: f61 :: f62 :: f63 :: f64 :: f65 :: f66 :: f67 :: f68 :: f69 :: f70 :: f71 :: f72 :: f73 :: f74 :: f75 :: f76 :: f77 :: f78 :: f79 :: f80 :: f81 :: f82 :: f83 :: f84 :: f85 :: f86 :: f87 :: f88 :: f89 :: f90 :: f91 :: f92 :: f93 :: f94 :: f95 :: f96 :: f97 :: f98 :: f99 :: f100 :: f101 :: f102 :: f103 :: f104 :: f105 :: f106 :: f107 :: f108 :: f109 :: f110 :: f111 :: f112 :: f113 :: f114 :: f115 :: f116 :: f117 :: f118 :: f119 :: f120 :: f121 :: f122 :: f123 :: f124 :: f125 :: f126 :: f127 :: f128 :: f129 :: f130 :: f131 :: f132 :: f133 :: f134 :: f135 :: f136 :: f137 :: f138 :: f139 :: f140 :: f141 :: f142 :: f143 :: f144 :: f145 :: f146 :: f147 :: f148 :: f149 :: f150 :: f151 :: f152 :: f153 :: f154 :: f155 :: f156 :: f157 :: f158 :: f159 :: f160 :: f161 :: f162 :: f163 :: f164 :: f165 :: f166 :: f167 :: f168 :: f169 :: f170 :: f171 :: f172 :: f173 :: f174 :: f175 :: f176 :: f177 :: f178 :: f179 :: f180 :: f181 :: f182 :: f183 :: f184 :: f185 :: f186 :: f187 :: f188 :: f189 :: f190 :: f191 :: f192 :: f193 :: f194 :: f195 :: f196 :: f197 :: f198 :: f199 :: f200 :: f201 :: f202 :: f203 :: f204 :: f205 :: f206 :: f207 :: f208 :: f209 :: f210 :: f211 :: f212 :: f213 :: f214 :: f215 :: f216 :: f217 :: f218 :: f219 :: f220 :: f221 :: f222 :: f223 :: f224 :: f225 :: f226 :: f227 :: f228 :: f229 :: f230 :: f231 :: f232 :: f233 :: f234 :: f235 :: f236 :: f237 :: f238 :: f239 :: f240 :: f241 :: f242 :: f243 :: f244 :: f245 :: f246 :: f247 :: f248 :: f249 :: f250 :: f251 :: f252 :: f253 :: f254 :: f255 :: f256 :: f257 :: f258 :: f259 :: f260 :: f261 :: f262 :: f263 :: f264 :: f265 :: f266 :: f267 :: f268 :: f269 :: f270 :: f271 :: f272 :: f273 :: f274 :: f275 :: f276 :: f277 :: f278 :: f279 :: f280 :: f281 :: f282 :: f283 :: f284 :: f285 :: f286 :: f287 :: f288 :: f289 :: f290 :: f291 :: f292 :: f293 :: f294 :: f295 :: f296 :: f297 :: f298 :: f299 :: f300 :: f301 :: f302 :: f303 :: f304 :: f305 :: f306 :: f307 :: f308 :: f309 :: []).toArray, []⟩ X8 := by
  conv => arg 2; whnf
  have HS16 := Lib.hid HS0
  clear HS0
  refine wp_region_noPanic ?_
  refine wp_region_tree (S := fun V => Ext X8 V) (takesOf [0, 1, 2, 3, 4, 5, 6, 7, 8, 9, 10, 11, 12, 13, 14, 15, 16, 17, 18, 19, 20, 21, 22, 23, 24, 25, 26, 27] .done) (by kernel_rfl) (by rw [Bool.and_eq_true]; refine ⟨by kernel_rfl, ?_⟩; refine okT_takes [0, 1, 2, 3, 4, 5] _ _ 22 _ #[true, true, true, true, true, true, false, false, false, false, false, false, false, false, false, false, false, false, false, false, false, false, false, false, false, false, false, false] (by as_aux_lemma => kernel_rfl) (by kernel_rfl) (by kernel_rfl) ?_; refine okT_takes [6, 7, 8, 9, 10, 11] _ _ 16 _ #[true, true, true, true, true, true, true, true, true, true, true, true, false, false, false, false, false, false, false, false, false, false, false, false, false, false, false, false] (by as_aux_lemma => kernel_rfl) (by kernel_rfl) (by kernel_rfl) ?_; refine okT_takes [12, 13, 14, 15, 16, 17] _ _ 10 _ #[true, true, true, true, true, true, true, true, true, true, true, true, true, true, true, true, true, true, false, false, false, false, false, false, false, false, false, false] (by as_aux_lemma => kernel_rfl) (by kernel_rfl) (by kernel_rfl) ?_; refine okT_takes [18, 19, 20, 21, 22, 23] _ _ 4 _ #[true, true, true, true, true, true, true, true, true, true, true, true, true, true, true, true, true, true, true, true, true, true, true, true, false, false, false, false] (by as_aux_lemma => kernel_rfl) (by kernel_rfl) (by kernel_rfl) ?_; refine okT_takes [24, 25, 26, 27] _ _ 0 _ #[true, true, true, true, true, true, true, true, true, true, true, true, true, true, true, true, true, true, true, true, true, true, true, true, true, true, true, true] (by as_aux_lemma => kernel_rfl) (by kernel_rfl) (by kernel_rfl) ?_; as_aux_lemma => kernel_rfl) (fun _ _ _ _ _ h => h) ((Ext.refl X8).drew) ?_
  refine treeTakesW (a' := ?_) ⟨_, (Ext.refl X8).drew⟩ 310 [0, 1, 2, 3, 4, 5, 6, 7, 8, 9, 10, 11, 12, 13, 14, 15, 16, 17, 18, 19, 20, 21, 22, 23, 24, 25, 26, 27] (by kernel_rfl) (by kernel_rfl) ?_ ?_
  rotate_left
  · intro V hV
    obtain ⟨q1, q2⟩ := HS16.out V hV
    repeat (refine wpW_cons (x := ?_) (by rfl) rfl rfl rfl ?_ ?_; rotate_left; (focus (intro Q' hq; (repeat (first | fail | go_guarded | go_skip | go_step)); (first | exact hq | exact wpList_nil hq))))
    exact wpW_nil
  refine treeDone ?_
  refine NoPanic.normal ?_
  exact hQ _ _ _ _ _ _ _ _ _ _ _ _ _ _ _ _ _ _ _ _ _ _ _ _ _ _ _ _ (Ext.refl X8).drew
noncomputable def fits_r16bC : Code := ((Tryz.f3.body).bind (findC 16 400)).getD .skip
set_option maxHeartbeats 40000000 in
theorem fits_r16b {Q : Exit → Act → World → Prop} {f0 f1 f2 f3 f4 f5 f6 f7 f8 f9 f10 f12 f13 f14 f15 f16 f18 f19 f20 f21 f22 f23 f24 f25 f26 f27 f28 f29 f30 f31 f32 f33 f34 f35 f36 f37 f38 f39 f40 f41 f42 f43 f44 f45 f46 f47 f48 f49 f50 f51 f52 f53 f54 f55 f56 f57 f58 f59 f60 f61 f62 f63 f64 f65 f66 f67 f68 f69 f70 f71 f72 f73 f74 f75 f76 f77 f78 f79 f80 f81 f82 f83 f84 f85 f86 f87 f88 f89 f90 f91 f92 f93 f94 f95 f96 f97 f98 f99 f100 f101 f102 f103 f104 f105 f106 f107 f108 f109 f110 f111 f112 f113 f114 f115 f116 f117 f118 f119 f120 f121 f122 f123 f124 f125 f126 f127 f128 f129 f130 f131 f132 f133 f134 f135 f136 f137 f138 f139 f140 f141 f142 f143 f144 f145 f146 f147 f148 f149 f150 f151 f152 f153 f154 f155 f156 f157 f158 f159 f160 f161 f162 f163 f164 f165 f166 f167 f168 f169 f170 f171 f172 f173 f174 f175 f176 f177 f178 f179 f180 f181 f182 f183 f184 f185 f186 f187 f188 f189 f190 f191 f192 f193 f194 f195 f196 f197 f198 f199 f200 f201 f202 f203 f204 f205 f206 f207 f208 f209 f210 f211 f212 f213 f214 f215 f216 f217 f218 f219 f220 f221 f222 f223 f224 f225 f226 f227 f228 f229 f230 f231 f232 f233 f234 f235 f236 f237 f238 f239 f240 f241 f242 f243 f244 f245 f246 f247 f248 f249 f250 f251 f252 f253 f254 f255 f256 f257 f258 f259 f260 f261 f262 f263 f264 f265 f266 f267 f268 f269 f270 f271 f272 f273 f274 f275 f276 f277 f278 f279 f280 f281 f282 f283 f284 f285 f286 f287 f288 f289 f290 f291 f292 f293 f294 f295 f296 f297 f298 f299 f300 f301 f302 f303 f304 f305 f306 f307 f308 f309 : Value} {c : CameD} {b17 b11 qb qo qc : Nat} (X8 : World) (HS0 : ∀ V, Ext X8 V → V.cell? ⟨b11, 13, none⟩ = some (.bool true) ∧ V.cell? ⟨b17, 11, none⟩ = some (.slice (some ⟨qb, qo, none⟩) 1 qc) ∧ (V.cell? ⟨qb, qo, none⟩ = some (S c.q.name) ∧ V.cell? ⟨qb, qo + 1, none⟩ = some (.int .u16 c.q.typ) ∧ V.cell? ⟨qb, qo + 2, none⟩ = some (.int .u16 c.q.cls)) ∧ (V.cell? ⟨b11, 14, none⟩ = some (S c.q.name) ∧ V.cell? ⟨b11, 15, none⟩ = some (.int .u16 c.q.typ) ∧ V.cell? ⟨b11, 16, none⟩ = some (.int .u16 c.q.cls)))
    (hQ : ∀ (t215 t216 t217 t218 t219 t220 t221 t222 t223 t224 t225 t226 t227 t228 t229 t230 t231 t232 t233 t234 t235 t236 t237 t238 t239 t240 t241 : Value) (V : World), Ext X8 V → Q .normal ⟨(f0 :: f1 :: f2 :: f3 :: f4 :: f5 :: f6 :: f7 :: f8 :: f9 :: f10 :: .pointer (some ⟨b11, 0, none⟩) :: f12 :: f13 :: f14 :: f15 :: f16 :: .pointer (some ⟨b17, 0, none⟩) :: f18 :: f19 :: f20 :: f21 :: f22 :: f23 :: f24 :: f25 :: f26 :: f27 :: f28 :: f29 :: f30 :: f31 :: f32 :: f33 :: f34 :: f35 :: f36 :: f37 :: f38 :: f39 :: f40 :: f41 :: f42 :: f43 :: f44 :: f45 :: f46 :: f47 :: f48 :: f49 :: f50 :: f51 :: f52 :: f53 :: f54 :: f55 :: f56 :: f57 :: f58 :: f59 :: f60 :: f61 :: f62 :: f63 :: f64 :: f65 :: f66 :: f67 :: f68 :: f69 :: f70 :: f71 :: f72 :: f73 :: f74 :: f75 :: f76 :: f77 :: f78 :: f79 :: f80 :: f81 :: f82 :: f83 :: f84 :: f85 :: f86 :: f87 :: f88 :: f89 :: f90 :: f91 :: f92 :: f93 :: f94 :: f95 :: f96 :: f97 :: f98 :: f99 :: f100 :: f101 :: f102 :: f103 :: f104 :: f105 :: f106 :: f107 :: f108 :: f109 :: f110 :: f111 :: f112 :: f113 :: f114 :: f115 :: f116 :: f117 :: f118 :: f119 :: f120 :: f121 :: f122 :: f123 :: f124 :: f125 :: f126 :: f127 :: f128 :: f129 :: f130 :: f131 :: f132 :: f133 :: f134 :: f135 :: f136 :: f137 :: f138 :: f139 :: f140 :: f141 :: f142 :: f143 :: f144 :: f145 :: f146 :: f147 :: f148 :: f149 :: f150 :: f151 :: f152 :: f153 :: f154 :: f155 :: f156 :: f157 :: f158 :: f159 :: f160 :: f161 :: f162 :: f163 :: f164 :: f165 :: f166 :: f167 :: f168 :: f169 :: f170 :: f171 :: f172 :: f173 :: f174 :: f175 :: f176 :: f177 :: f178 :: f179 :: f180 :: f181 :: f182 :: f183 :: f184 :: f185 :: f186 :: f187 :: f188 :: f189 :: f190 :: f191 :: f192 :: f193 :: f194 :: f195 :: f196 :: f197 :: f198 :: f199 :: f200 :: f201 :: f202 :: f203 :: f204 :: f205 :: f206 :: f207 :: f208 :: f209 :: f210 :: f211 :: f212 :: f213 :: f214 :: t215 :: t216 :: t217 :: t218 :: t219 :: t220 :: t221 :: t222 :: t223 :: t224 :: t225 :: t226 :: t227 :: t228 :: t229 :: t230 :: t231 :: t232 :: t233 :: t234 :: t235 :: t236 :: t237 :: t238 :: t239 :: t240 :: t241 :: .bool false :: f243 :: f244 :: f245 :: f246 :: f247 :: f248 :: f249 :: f250 :: f251 :: f252 :: f253 :: f254 :: f255 :: f256 :: f257 :: f258 :: f259 :: f260 :: f261 :: f262 :: f263 :: f264 :: f265 :: f266 :: f267 :: f268 :: f269 :: f270 :: f271 :: f272 :: f273 :: f274 :: f275 :: f276 :: f277 :: f278 :: f279 :: f280 :: f281 :: f282 :: f283 :: f284 :: f285 :: f286 :: f287 :: f288 :: f289 :: f290 :: f291 :: f292 :: f293 :: f294 :: f295 :: f296 :: f297 :: f298 :: f299 :: f300 :: f301 :: f302 :: f303 :: f304 :: f305 :: f306 :: f307 :: f308 :: f309 :: []).toArray, []⟩ V) :
    Code.wp Tryz.prog fits_r16bC Q ⟨(f0 :: f1 :: f2 :: f3 :: f4 :: f5 :: f6 :: f7 :: f8 :: f9 :: f10 :: .pointer (some ⟨b11, 0, none⟩) :: f12 :: f13 :: f14 :: f15 :: f16 :: .pointer (some ⟨b17, 0, none⟩) :: f18 :: f19 :: f20 :: f21 :: f22 :: f23 :: f24 :: f25 :: f26 :: f27 :: f28 :: f29 :: f30 :: f31 :: f32 :: f33 :: f34 :: f35 :: f36 :: f37 :: f38 :: f39 :: f40 :: f41 :: f42 :: f43 :: f44 :: f45 :: f46 :: f47 :: f48 :: f49 :: f50 :: f51 :: f52 :: f53 :: f54 :: f55 :: f56 :: f57 :: f58 :: f59 :: f60 :: f61 :: f62 :: f63 :: f64 :: f65 :: f66 :: f67 :: f68 :: f69 :: f70 :: f71 :: f72 :: f73 :: f74 :: f75 :: f76 :: f77 :: f78 :: f79 :: f80 :: f81 :: f82 :: f83 :: f84 :: f85 :: f86 :: f87 :: f88 :: f89 :: f90 :: f91 :: f92 :: f93 :: f94 :: f95 :: f96 :: f97 :: f98 :: f99 :: f100 :: f101 :: f102 :: f103 :: f104 :: f105 :: f106 :: f107 :: f108 :: f109 :: f110 :: f111 :: f112 :: f113 :: f114 :: f115 :: f116 :: f117 :: f118 :: f119 :: f120 :: f121 :: f122 :: f123 :: f124 :: f125 :: f126 :: f127 :: f128 :: f129 :: f130 :: f131 :: f132 :: f133 :: f134 :: f135 :: f136 :: f137 :: f138 :: f139 :: f140 :: f141 :: f142 :: f143 :: f144 :: f145 :: f146 :: f147 :: f148 :: f149 :: f150 :: f151 :: f152 :: f153 :: f154 :: f155 :: f156 :: f157 :: f158 :: f159 :: f160 :: f161 :: f162 :: f163 :: f164 :: f165 :: f166 :: f167 :: f168 :: f169 :: f170 :: f171 :: f172 :: f173 :: f174 :: f175 :: f176 :: f177 :: f178 :: f179 :: f180 :: f181 :: f182 :: f183 :: f184 :: f185 :: f186 :: f187 :: f188 :: f189 :: f190 :: f191 :: f192 :: f193 :: f194 :: f195 :: f196 :: f197 :: f198 :: f199 :: f200 :: f201 :: f202 :: f203 :: f204 :: f205 :: f206 :: f207 :: f208 :: f209 :: f210 :: f211 :: f212 :: f213 :: f214 :: f215 :: f216 :: f217 :: f218 :: f219 :: f220 :: f221 :: f222 :: f223 :: f224 :: f225 :: f226 :: f227 :: f228 :: f229 :: f230 :: f231 :: f232 :: f233 :: f234 :: f235 :: f236 :: f237 :: f238 :: f239 :: f240 :: f241 :: f242 :: f243 :: f244 :: f245 :: f246 :: f247 :: f248 :: f249 :: f250 :: f251 :: f252 :: f253 :: f254 :: f255 :: f256 :: f257 :: f258 :: f259 :: f260 :: f261 :: f262 :: f263 :: f264 :: f265 :: f266 :: f267 :: f268 :: f269 :: f270 :: f271 :: f272 :: f273 :: f274 :: f275 :: f276 :: f277 :: f278 :: f279 :: f280 :: f281 :: f282 :: f283 :: f284 :: f285 :: f286 :: f287 :: f288 :: f289 :: f290 :: f291 :: f292 :: f293 :: f294 :: f295 :: f296 :: f297 :: f298 :: f299 :: f300 :: f301 :: f302 :: f303 :: f304 :: f305 :: f306 :: f307 :: f308 :: f309 :: []).toArray, []⟩ X8 := by
  conv => arg 2; whnf
  have HS16 := Lib.hid HS0
  clear HS0
  refine wp_region_noPanic ?_
  refine wp_region_tree (S := fun V => Ext X8 V) (takesOf [0, 1, 2, 3, 4, 5, 6, 7, 8, 9, 10, 11, 12, 13, 14, 15, 16, 17, 18, 19, 20, 21, 22, 23, 24, 25, 26, 27] .done) (by kernel_rfl) (by rw [Bool.and_eq_true]; refine ⟨by kernel_rfl, ?_⟩; refine okT_takes [0, 1, 2, 3, 4, 5] _ _ 22 _ #[true, true, true, true, true, true, false, false, false, false, false, false, false, false, false, false, false, false, false, false, false, false, false, false, false, false, false, false] (by as_aux_lemma => kernel_rfl) (by kernel_rfl) (by kernel_rfl) ?_; refine okT_takes [6, 7, 8, 9, 10, 11] _ _ 16 _ #[true, true, true, true, true, true, true, true, true, true, true, true, false, false, false, false, false, false, false, false, false, false, false, false, false, false, false, false] (by as_aux_lemma => kernel_rfl) (by kernel_rfl) (by kernel_rfl) ?_; refine okT_takes [12, 13, 14, 15, 16, 17] _ _ 10 _ #[true, true, true, true, true, true, true, true, true, true, true, true, true, true, true, true, true, true, false, false, false, false, false, false, false, false, false, false] (by as_aux_lemma => kernel_rfl) (by kernel_rfl) (by kernel_rfl) ?_; refine okT_takes [18, 19, 20, 21, 22, 23] _ _ 4 _ #[true, true, true, true, true, true, true, true, true, true, true, true, true, true, true, true, true, true, true, true, true, true, true, true, false, false, false, false] (by as_aux_lemma => kernel_rfl) (by kernel_rfl) (by kernel_rfl) ?_; refine okT_takes [24, 25, 26, 27] _ _ 0 _ #[true, true, true, true, true, true, true, true, true, true, true, true, true, true, true, true, true, true, true, true, true, true, true, true, true, true, true, true] (by as_aux_lemma => kernel_rfl) (by kernel_rfl) (by kernel_rfl) ?_; as_aux_lemma => kernel_rfl) (fun _ _ _ _ _ h => h) ((Ext.refl X8).drew) ?_
  refine treeTakesW (a' := ?_) ⟨_, (Ext.refl X8).drew⟩ 310 [0, 1, 2, 3, 4, 5, 6, 7, 8, 9, 10, 11, 12, 13, 14, 15, 16, 17, 18, 19, 20, 21, 22, 23, 24, 25, 26, 27] (by kernel_rfl) (by kernel_rfl) ?_ ?_
  rotate_left
  · intro V hV
    obtain ⟨q1, q2, ⟨q3, q4, q5⟩, q6, q7, q8⟩ := HS16.out V hV
    repeat (refine wpW_cons (x := ?_) (by rfl) rfl rfl rfl ?_ ?_; rotate_left; (focus (intro Q' hq; (repeat (first | fail | go_guarded | go_skip | go_step)); (first | exact hq | exact wpList_nil hq))))
    exact wpW_nil
  refine treeDone ?_
  refine NoPanic.normal ?_
  exact hQ _ _ _ _ _ _ _ _ _ _ _ _ _ _ _ _ _ _ _ _ _ _ _ _ _ _ _ _ (Ext.refl X8).drew
noncomputable def fits_r23C : Code := ((Tryz.f3.body).bind (findC 23 400)).getD .skip
set_option maxHeartbeats 40000000 in
theorem fits_r23 {Q : Exit → Act → World → Prop} {f1 f2 f3 f4 f5 f6 f7 f8 f9 f10 f13 f14 f15 f16 f17 f18 f22 f23 f24 f25 f26 f27 f28 f29 f30 f31 f32 f33 f34 f35 f36 f37 f38 f39 f40 f41 f42 f43 f44 f45 f46 f47 f48 f49 f50 f51 f52 f53 f54 f55 f56 f57 f58 f59 f60 f61 f62 f63 f64 f65 f66 f67 f68 f69 f70 f71 f72 f73 f74 f75 f76 f77 f78 f79 f80 f81 f82 f83 f84 f85 f86 f87 f88 f89 f90 f91 f92 f93 f94 f95 f96 f97 f98 f99 f100 f101 f102 f103 f104 f105 f106 f107 f108 f109 f110 f111 f112 f113 f114 f115 f116 f117 f118 f119 f120 f121 f122 f123 f124 f125 f126 f127 f128 f129 f130 f131 f132 f133 f134 f135 f136 f137 f138 f139 f140 f141 f142 f143 f144 f145 f146 f147 f148 f149 f150 f151 f152 f153 f154 f155 f156 f157 f158 f159 f160 f161 f162 f163 f164 f165 f166 f167 f168 f169 f170 f171 f172 f173 f174 f175 f176 f177 f178 f179 f180 f181 f182 f183 f184 f185 f186 f187 f188 f189 f190 f191 f192 f193 f194 f195 f196 f197 f198 f199 f200 f201 f202 f203 f204 f205 f206 f207 f208 f209 f210 f211 f212 f213 f214 f215 f216 f217 f218 f219 f220 f221 f222 f223 f224 f225 f226 f227 f228 f229 f230 f231 f232 f233 f234 f235 f236 f237 f238 f239 f240 f241 f242 f243 f244 f245 f246 f247 f248 f249 f250 f251 f252 f253 f254 f255 f256 f257 f258 f259 f260 f261 f262 f263 f264 f265 f266 f267 f268 f269 f270 f271 f272 f273 f274 f275 f276 f277 f278 f279 f280 f281 f282 f283 f284 f285 f286 f287 f288 f289 f290 f291 f292 f293 f294 f295 f296 f297 f298 f299 f300 f301 f302 f303 f304 f305 f306 f307 f308 f309 : Value} {c : CameD} {n : Int} {s d : List UInt8} {b20 b11 qb qo qc : Nat} (X7 : World) (HS0 : ∀ V, Ext X7 V → V.cell? ⟨b11, 0, none⟩ = some (.int .u8 3) ∧ V.cell? ⟨b20, 11, none⟩ = some (.slice (some ⟨qb, qo, none⟩) 1 qc) ∧ V.cell? ⟨b20, 15, none⟩ = some (.bool c.hasE) ∧ (V.cell? ⟨qb, qo, none⟩ = some (S c.q.name) ∧ V.cell? ⟨qb, qo + 1, none⟩ = some (.int .u16 c.q.typ) ∧ V.cell? ⟨qb, qo + 2, none⟩ = some (.int .u16 c.q.cls)) ∧ (V.cell? ⟨b11, 14, none⟩ = some (S c.q.name) ∧ V.cell? ⟨b11, 15, none⟩ = some (.int .u16 c.q.typ) ∧ V.cell? ⟨b11, 16, none⟩ = some (.int .u16 c.q.cls)) ∧ V.cell? ⟨b11, 17, none⟩ = some (.bool c.hasE) ∧ V.heap[b11]? = some (.cells (caRow c.kind c.code c.hd c.hasQ c.q c.hasE c.size) 34)) (hn : 0 ≤ n ∧ n ≤ 65535) (hwz : wrap64 n = n) (p3i : (2 : Int) ≤ (s.length : Int)) (p8i : (2 : Int) ≤ (d.length : Int)) (p4i : (s.length : Int) ≤ roomOf c n) (htk : s.take 2 = d.take 2)
    (hQ : ∀ (t256 t257 t258 t259 t260 t261 t262 t263 t264 t265 t266 t267 t268 t269 t270 t271 t272 t273 t274 t275 t276 t277 t278 t279 t280 t281 t282 t283 t284 t285 t286 t287 t288 t289 t290 t291 t292 t293 t294 t295 t296 t297 t298 t299 t300 t301 t302 t303 t304 t305 t306 t307 t308 t309 : Value) (V : World), Ext X7 V → Q .normal ⟨(S d :: f1 :: f2 :: f3 :: f4 :: f5 :: f6 :: f7 :: f8 :: f9 :: .bool true :: .pointer (some ⟨b11, 0, none⟩) :: .int .i64 n :: f13 :: f14 :: f15 :: f16 :: f17 :: f18 :: S s :: .pointer (some ⟨b20, 0, none⟩) :: .int .i64 0 :: f22 :: f23 :: f24 :: f25 :: f26 :: f27 :: f28 :: f29 :: f30 :: f31 :: f32 :: f33 :: f34 :: f35 :: f36 :: f37 :: f38 :: f39 :: f40 :: f41 :: f42 :: f43 :: f44 :: f45 :: f46 :: f47 :: f48 :: f49 :: f50 :: f51 :: f52 :: f53 :: f54 :: f55 :: f56 :: f57 :: f58 :: f59 :: f60 :: f61 :: f62 :: f63 :: f64 :: f65 :: f66 :: f67 :: f68 :: f69 :: f70 :: f71 :: f72 :: f73 :: f74 :: f75 :: f76 :: f77 :: f78 :: f79 :: f80 :: f81 :: f82 :: f83 :: f84 :: f85 :: f86 :: f87 :: f88 :: f89 :: f90 :: f91 :: f92 :: f93 :: f94 :: f95 :: f96 :: f97 :: f98 :: f99 :: f100 :: f101 :: f102 :: f103 :: f104 :: f105 :: f106 :: f107 :: f108 :: f109 :: f110 :: f111 :: f112 :: f113 :: f114 :: f115 :: f116 :: f117 :: f118 :: f119 :: f120 :: f121 :: f122 :: f123 :: f124 :: f125 :: f126 :: f127 :: f128 :: f129 :: f130 :: f131 :: f132 :: f133 :: f134 :: f135 :: f136 :: f137 :: f138 :: f139 :: f140 :: f141 :: f142 :: f143 :: f144 :: f145 :: f146 :: f147 :: f148 :: f149 :: f150 :: f151 :: f152 :: f153 :: f154 :: f155 :: f156 :: f157 :: f158 :: f159 :: f160 :: f161 :: f162 :: f163 :: f164 :: f165 :: f166 :: f167 :: f168 :: f169 :: f170 :: f171 :: f172 :: f173 :: f174 :: f175 :: f176 :: f177 :: f178 :: f179 :: f180 :: f181 :: f182 :: f183 :: f184 :: f185 :: f186 :: f187 :: f188 :: f189 :: f190 :: f191 :: f192 :: f193 :: f194 :: f195 :: f196 :: f197 :: f198 :: f199 :: f200 :: f201 :: f202 :: f203 :: f204 :: f205 :: f206 :: f207 :: f208 :: f209 :: f210 :: f211 :: f212 :: f213 :: f214 :: f215 :: f216 :: f217 :: f218 :: f219 :: f220 :: f221 :: f222 :: f223 :: f224 :: f225 :: f226 :: f227 :: f228 :: f229 :: f230 :: f231 :: f232 :: f233 :: f234 :: f235 :: f236 :: f237 :: f238 :: f239 :: f240 :: f241 :: f242 :: f243 :: f244 :: f245 :: f246 :: f247 :: f248 :: f249 :: f250 :: f251 :: f252 :: f253 :: f254 :: f255 :: t256 :: t257 :: t258 :: t259 :: t260 :: t261 :: t262 :: t263 :: t264 :: t265 :: t266 :: t267 :: t268 :: t269 :: t270 :: t271 :: t272 :: t273 :: t274 :: t275 :: t276 :: t277 :: t278 :: t279 :: t280 :: t281 :: t282 :: t283 :: t284 :: t285 :: t286 :: t287 :: t288 :: t289 :: t290 :: t291 :: t292 :: t293 :: t294 :: t295 :: t296 :: t297 :: t298 :: t299 :: t300 :: t301 :: t302 :: t303 :: t304 :: t305 :: t306 :: t307 :: t308 :: t309 :: []).toArray, []⟩ V) :
    Code.wp Tryz.prog fits_r23C Q ⟨(S d :: f1 :: f2 :: f3 :: f4 :: f5 :: f6 :: f7 :: f8 :: f9 :: f10 :: .pointer (some ⟨b11, 0, none⟩) :: .int .i64 n :: f13 :: f14 :: f15 :: f16 :: f17 :: f18 :: S s :: .pointer (some ⟨b20, 0, none⟩) :: .int .i64 0 :: f22 :: f23 :: f24 :: f25 :: f26 :: f27 :: f28 :: f29 :: f30 :: f31 :: f32 :: f33 :: f34 :: f35 :: f36 :: f37 :: f38 :: f39 :: f40 :: f41 :: f42 :: f43 :: f44 :: f45 :: f46 :: f47 :: f48 :: f49 :: f50 :: f51 :: f52 :: f53 :: f54 :: f55 :: f56 :: f57 :: f58 :: f59 :: f60 :: f61 :: f62 :: f63 :: f64 :: f65 :: f66 :: f67 :: f68 :: f69 :: f70 :: f71 :: f72 :: f73 :: f74 :: f75 :: f76 :: f77 :: f78 :: f79 :: f80 :: f81 :: f82 :: f83 :: f84 :: f85 :: f86 :: f87 :: f88 :: f89 :: f90 :: f91 :: f92 :: f93 :: f94 :: f95 :: f96 :: f97 :: f98 :: f99 :: f100 :: f101 :: f102 :: f103 :: f104 :: f105 :: f106 :: f107 :: f108 :: f109 :: f110 :: f111 :: f112 :: f113 :: f114 :: f115 :: f116 :: f117 :: f118 :: f119 :: f120 :: f121 :: f122 :: f123 :: f124 :: f125 :: f126 :: f127 :: f128 :: f129 :: f130 :: f131 :: f132 :: f133 :: f134 :: f135 :: f136 :: f137 :: f138 :: f139 :: f140 :: f141 :: f142 :: f143 :: f144 :: f145 :: f146 :: f147 :: f148 :: f149 :: f150 :: f151 :: f152 :: f153 :: f154 :: f155 :: f156 :: f157 :: f158 :: f159 :: f160 :: f161 :: f162 :: f163 :: f164 :: f165 :: f166 :: f167 :: f168 :: f169 :: f170 :: f171 :: f172 :: f173 :: f174 :: f175 :: f176 :: f177 :: f178 :: f179 :: f180 :: f181 :: f182 :: f183 :: f184 :: f185 :: f186 :: f187 :: f188 :: f189 :: f190 :: f191 :: f192 :: f193 :: f194 :: f195 :: f196 :: f197 :: f198 :: f199 :: f200 :: f201 :: f202 :: f203 :: f204 :: f205 :: f206 :: f207 :: f208 :: f209 :: f210 :: f211 :: f212 :: f213 :: f214 :: f215 :: f216 :: f217 :: f218 :: f219 :: f220 :: f221 :: f222 :: f223 :: f224 :: f225 :: f226 :: f227 :: f228 :: f229 :: f230 :: f231 :: f232 :: f233 :: f234 :: f235 :: f236 :: f237 :: f238 :: f239 :: f240 :: f241 :: f242 :: f243 :: f244 :: f245 :: f246 :: f247 :: f248 :: f249 :: f250 :: f251 :: f252 :: f253 :: f254 :: f255 :: f256 :: f257 :: f258 :: f259 :: f260 :: f261 :: f262 :: f263 :: f264 :: f265 :: f266 :: f267 :: f268 :: f269 :: f270 :: f271 :: f272 :: f273 :: f274 :: f275 :: f276 :: f277 :: f278 :: f279 :: f280 :: f281 :: f282 :: f283 :: f284 :: f285 :: f286 :: f287 :: f288 :: f289 :: f290 :: f291 :: f292 :: f293 :: f294 :: f295 :: f296 :: f297 :: f298 :: f299 :: f300 :: f301 :: f302 :: f303 :: f304 :: f305 :: f306 :: f307 :: f308 :: f309 :: []).toArray, []⟩ X7 := by
  conv => arg 2; whnf
  have HS23 := Lib.hid HS0
  clear HS0
  have HRo := Lib.hid (fun V => int_room c n V)
  have p3d : decide ((2 : Int) ≤ (s.length : Int)) = true := decide_eq_true p3i
  have p8d : decide ((2 : Int) ≤ (d.length : Int)) = true := decide_eq_true p8i
  have p4d : decide ((s.length : Int) ≤ roomOf c n) = true := decide_eq_true p4i
  refine wp_region_noPanic ?_
  refine wp_region_tree (S := fun V => Ext X7 V) (takesOf [0, 1, 2, 3, 4, 5, 6, 7, 8, 9, 10, 11, 12, 13, 14, 15, 16, 17, 18, 19, 20, 21] (.run 22 (takesOf [23, 24, 25, 26, 27, 28, 29, 30, 31, 32, 33, 34, 35, 36, 37, 38, 39, 40, 41, 42, 43, 44, 45, 46, 47, 48, 49, 50, 51, 52, 53, 54] .done))) (by kernel_rfl) (by rw [Bool.and_eq_true]; refine ⟨by kernel_rfl, ?_⟩; refine okT_takes [0, 1, 2, 3, 4, 5] _ _ 49 _ #[true, true, true, true, true, true, false, false, false, false, false, false, false, false, false, false, false, false, false, false, false, false, false, false, false, false, false, false, false, false, false, false, false, false, false, false, false, false, false, false, false, false, false, false, false, false, false, false, false, false, false, false, false, false, false] (by as_aux_lemma => kernel_rfl) (by kernel_rfl) (by kernel_rfl) ?_; refine okT_takes [6, 7, 8, 9, 10, 11] _ _ 43 _ #[true, true, true, true, true, true, true, true, true, true, true, true, false, false, false, false, false, false, false, false, false, false, false, false, false, false, false, false, false, false, false, false, false, false, false, false, false, false, false, false, false, false, false, false, false, false, false, false, false, false, false, false, false, false, false] (by as_aux_lemma => kernel_rfl) (by kernel_rfl) (by kernel_rfl) ?_; refine okT_takes [12, 13, 14, 15, 16, 17] _ _ 37 _ #[true, true, true, true, true, true, true, true, true, true, true, true, true, true, true, true, true, true, false, false, false, false, false, false, false, false, false, false, false, false, false, false, false, false, false, false, false, false, false, false, false, false, false, false, false, false, false, false, false, false, false, false, false, false, false] (by as_aux_lemma => kernel_rfl) (by kernel_rfl) (by kernel_rfl) ?_; refine okT_takes [18, 19, 20, 21] _ _ 33 _ #[true, true, true, true, true, true, true, true, true, true, true, true, true, true, true, true, true, true, true, true, true, true, false, false, false, false, false, false, false, false, false, false, false, false, false, false, false, false, false, false, false, false, false, false, false, false, false, false, false, false, false, false, false, false, false] (by as_aux_lemma => kernel_rfl) (by kernel_rfl) (by kernel_rfl) ?_; refine okT_run1 22 _ _ 32 _ #[true, true, true, true, true, true, true, true, true, true, true, true, true, true, true, true, true, true, true, true, true, true, true, false, false, false, false, false, false, false, false, false, false, false, false, false, false, false, false, false, false, false, false, false, false, false, false, false, false, false, false, false, false, false, false] (by kernel_rfl) (by as_aux_lemma => kernel_rfl) (by kernel_rfl) (by kernel_rfl) ?_; refine okT_takes [23, 24, 25, 26, 27, 28] _ _ 26 _ #[true, true, true, true, true, true, true, true, true, true, true, true, true, true, true, true, true, true, true, true, true, true, true, true, true, true, true, true, true, false, false, false, false, false, false, false, false, false, false, false, false, false, false, false, false, false, false, false, false, false, false, false, false, false, false] (by as_aux_lemma => kernel_rfl) (by kernel_rfl) (by kernel_rfl) ?_; refine okT_takes [29, 30, 31, 32, 33, 34] _ _ 20 _ #[true, true, true, true, true, true, true, true, true, true, true, true, true, true, true, true, true, true, true, true, true, true, true, true, true, true, true, true, true, true, true, true, true, true, true, false, false, false, false, false, false, false, false, false, false, false, false, false, false, false, false, false, false, false, false] (by as_aux_lemma => kernel_rfl) (by kernel_rfl) (by kernel_rfl) ?_; refine okT_takes [35, 36, 37, 38, 39, 40] _ _ 14 _ #[true, true, true, true, true, true, true, true, true, true, true, true, true, true, true, true, true, true, true, true, true, true, true, true, true, true, true, true, true, true, true, true, true, true, true, true, true, true, true, true, true, false, false, false, false, false, false, false, false, false, false, false, false, false, false] (by as_aux_lemma => kernel_rfl) (by kernel_rfl) (by kernel_rfl) ?_; refine okT_takes [41, 42, 43, 44, 45, 46] _ _ 8 _ #[true, true, true, true, true, true, true, true, true, true, true, true, true, true, true, true, true, true, true, true, true, true, true, true, true, true, true, true, true, true, true, true, true, true, true, true, true, true, true, true, true, true, true, true, true, true, true, false, false, false, false, false, false, false, false] (by as_aux_lemma => kernel_rfl) (by kernel_rfl) (by kernel_rfl) ?_; refine okT_takes [47, 48, 49, 50, 51, 52] _ _ 2 _ #[true, true, true, true, true, true, true, true, true, true, true, true, true, true, true, true, true, true, true, true, true, true, true, true, true, true, true, true, true, true, true, true, true, true, true, true, true, true, true, true, true, true, true, true, true, true, true, true, true, true, true, true, true, false, false] (by as_aux_lemma => kernel_rfl) (by kernel_rfl) (by kernel_rfl) ?_; refine okT_takes [53, 54] _ _ 0 _ #[true, true, true, true, true, true, true, true, true, true, true, true, true, true, true, true, true, true, true, true, true, true, true, true, true, true, true, true, true, true, true, true, true, true, true, true, true, true, true, true, true, true, true, true, true, true, true, true, true, true, true, true, true, true, true] (by as_aux_lemma => kernel_rfl) (by kernel_rfl) (by kernel_rfl) ?_; as_aux_lemma => kernel_rfl) (fun _ _ _ _ _ h => h) ((Ext.refl X7).drew) ?_
  refine treeTakesW (a' := ?_) ⟨_, (Ext.refl X7).drew⟩ 310 [0, 1, 2, 3, 4, 5, 6, 7, 8, 9, 10, 11, 12, 13, 14, 15, 16, 17, 18, 19, 20, 21] (by kernel_rfl) (by kernel_rfl) ?_ ?_
  rotate_left
  · intro V hV
    obtain ⟨h1, h2, h3, ⟨h4, h5, h6⟩, ⟨h7, h8, h9⟩, h10, h11⟩ := HS23.out V hV
    repeat (refine wpW_cons (x := ?_) (by rfl) rfl rfl rfl ?_ ?_; rotate_left; (focus (intro Q' hq; (repeat (first | (refine wpList_load_part (by rfl) 34 (.tmp 11) rfl b11 0 rfl [.int .u8 c.kind, .int .i64 c.code, .int .u16 c.hd.id, .bool c.hd.qr, .int .u8 c.hd.op, .bool c.hd.aa, .bool c.hd.tc, .bool c.hd.rd, .bool c.hd.ra, .bool c.hd.z, .bool c.hd.ad, .bool c.hd.cd, .int .u8 c.hd.code, .bool c.hasQ, S c.q.name, .int .u16 c.q.typ, .int .u16 c.q.cls, .bool c.hasE, .int .i64 c.size] (row_all h11) _ Tryz.underlying34 rfl (by kernel_rfl) ?_) | go_guarded | go_skip | go_step)); (first | exact hq | exact wpList_nil hq))))
    exact wpW_nil
  have HR2 := HRo.out
  refine treeRunX (by rfl) (fun Q' hQ hP => ?_)
  (repeat (first | go_guarded | go_step))
  go_at_call 13
  refine (HR2 _).mono ?_
  rintro e wc1 ⟨rfl, hEc⟩
  (try dsimp only)
  (repeat (first | go_values | go_skip | go_guarded | go_step | go_upon | go_back))
  have hSwc1 := ((Ext.refl X7).drew).trans hEc
  clear hEc
  (try with_reducible refine wpList_nil ?_)
  refine hQ.out _ _ hSwc1 ?_
  clear hQ hP Q'
  (try simp only [Act.put, List.setIfInBounds_toArray, List.set_cons_zero, List.set_cons_succ])
  refine treeTakesW (a' := ?_) ⟨_, (Ext.refl X7).drew⟩ 310 [23, 24, 25, 26, 27, 28, 29, 30, 31, 32, 33, 34, 35, 36, 37, 38, 39, 40, 41, 42, 43, 44, 45, 46, 47, 48, 49, 50, 51, 52, 53, 54] (by kernel_rfl) (by kernel_rfl) ?_ ?_
  rotate_left
  · intro V hV
    obtain ⟨h1, h2, h3, ⟨h4, h5, h6⟩, ⟨h7, h8, h9⟩, h10, h11⟩ := HS23.out V hV
    repeat (refine wpW_cons (x := ?_) (by rfl) rfl rfl rfl ?_ ?_; rotate_left; (focus (intro Q' hq; (repeat (first | fail | go_guarded | go_skip | go_step)); (first | exact hq | exact wpList_nil hq))))
    exact wpW_nil
  refine treeDone ?_
  refine NoPanic.normal ?_
  exact hQ _ _ _ _ _ _ _ _ _ _ _ _ _ _ _ _ _ _ _ _ _ _ _ _ _ _ _ _ _ _ _ _ _ _ _ _ _ _ _ _ _ _ _ _ _ _ _ _ _ _ _ _ _ _ _ hSwc1
def findB : Nat → Code → Option Code
  | 0, _ => none
  | _ + 1, .loop a => some a
  | n + 1, .seq a b => (findB n a).orElse fun _ => findB n b
  | n + 1, .cond _ a b => (findB n a).orElse fun _ => findB n b
  | n + 1, .scope a => findB n a
  | n + 1, .block _ a => findB n a
  | _ + 1, _ => none
noncomputable def fits_roundC : Code := ((Tryz.f3.body).bind (findB 400)).getD .skip
set_option maxHeartbeats 40000000 in
theorem fits_round {Q : Exit → Act → World → Prop} {f1 f2 f3 f4 f5 f6 f7 f8 f9 f10 f13 f14 f15 f16 f17 f18 f19 f20 f21 f22 f23 f24 f25 f26 f27 f28 f29 f30 f31 f32 f33 f34 f35 f36 f37 f38 f39 f40 f41 f42 f43 f44 f45 f46 f47 f48 f49 f50 f51 f52 f53 f54 f55 f56 f57 f58 f59 f60 f61 f62 f63 f64 f65 f66 f67 f68 f69 f70 f71 f72 f73 f74 f75 f79 f80 f81 f82 f83 f84 f85 f86 f87 f88 f89 f90 f91 f92 f93 f94 f95 f96 f97 f98 f99 f100 f101 f102 f103 f104 f105 f106 f107 f108 f109 f110 f111 f112 f113 f114 f115 f116 f117 f118 f119 f120 f121 f122 f123 f124 f125 f126 f127 f128 f129 f130 f131 f132 f133 f134 f135 f136 f137 f138 f139 f140 f141 f142 f143 f144 f145 f146 f147 f148 f149 f150 f151 f152 f153 f154 f155 f156 f157 f158 f159 f160 f161 f162 f163 f164 f165 f166 f167 f168 f169 f170 f171 f172 f173 f174 f175 f176 f177 f178 f179 f180 f181 f182 f183 f184 f185 f186 f187 f188 f189 f190 f191 f192 f193 f194 f195 f196 f197 f198 f199 f200 f201 f202 f203 f204 f205 f206 f207 f208 f209 f210 f211 f212 f213 f214 f215 f216 f217 f218 f219 f220 f221 f222 f223 f224 f225 f226 f227 f228 f229 f230 f231 f232 f233 f234 f235 f236 f237 f238 f239 f240 f241 f242 f243 f244 f245 f246 f247 f248 f249 f250 f251 f252 f253 f254 f255 f256 f257 f258 f259 f260 f261 f262 f263 f264 f265 f266 f267 f268 f269 f270 f271 f272 f273 f274 f275 f276 f277 f278 f279 f280 f281 f282 f283 f284 f285 f286 f287 f288 f289 f290 f291 f292 f293 f294 f295 f296 f297 f298 f299 f300 f301 f302 f303 f304 f305 f306 f307 f308 f309 : Value} {c : CameD} {n : Int} {d : List UInt8} {b11 cc i : Nat} {KS : List Int} {A6 : Option Addr} {w X4 w6 : World} (hg : Laid w) (hb : BitsAt w) (hLo : LookOk d c) (hk1 : c.kind ≠ 1) (hop : c.hd.op ≤ 15) (hcn : c.q.name.length ≤ 1048576) (hn5 : 512 ≤ n ∧ n ≤ 4096) (hwz : wrap64 n = n) (hw4 : Ext w X4) (hE8 : Ext X4 w6) (r11 : X4.heap[b11]? = some (.cells (caRow c.kind c.code c.hd c.hasQ c.q c.hasE c.size) 34)) (hkr : Rd w6 0 1 A6 KS.length (KS.map fun k => Value.int .i64 k)) (hK2 : KS.length ≤ 2) (hks : ∀ k ∈ KS, (0 ≤ k ∧ k ≤ 15) ∨ (c.kind = 2 ∧ k = c.code)) (wo : World) (hEL : Ext w6 wo) (hil : i < KS.length)
    (hQ : ∀ (t15 t16 t17 t18 t79 t80 t81 t82 t83 t84 t85 t86 t87 t88 t89 t90 t91 t92 t93 t94 t95 t96 t97 t98 t99 t100 t101 t102 t103 t104 t105 t106 t107 t108 t109 t110 t111 t112 t113 t114 t115 t116 t117 t118 t119 t120 t121 t122 t123 t124 t125 t126 t127 t128 t129 t130 t131 t132 t133 t134 t135 t136 t137 t138 t139 t140 t141 t142 t143 t144 t145 t146 t147 t148 t149 t150 t151 t152 t153 t154 t155 t156 t157 t158 t159 t160 t161 t162 t163 t164 t165 t166 t167 t168 t169 t170 t171 t172 t173 t174 t175 t176 t177 t178 t179 t180 t181 t182 t183 t184 t185 t186 t187 t188 t189 t190 t191 t192 t193 t194 t195 t196 t197 t198 t199 t200 t201 t202 t203 t204 t205 t206 t207 t208 t209 t210 t211 t212 t213 t214 t215 t216 t217 t218 t219 t220 t221 t222 t223 t224 t225 t226 t227 t228 t229 t230 t231 t232 t233 t234 t235 t236 t237 t238 t239 t240 t241 t242 t243 : Value) (V : World), Ext w6 V → Q .normal ⟨(S d :: f1 :: f2 :: f3 :: f4 :: f5 :: f6 :: f7 :: f8 :: f9 :: f10 :: .pointer (some ⟨b11, 0, none⟩) :: .int .i64 n :: f13 :: f14 :: t15 :: t16 :: t17 :: t18 :: f19 :: f20 :: f21 :: f22 :: f23 :: f24 :: f25 :: f26 :: f27 :: f28 :: f29 :: f30 :: f31 :: f32 :: f33 :: f34 :: f35 :: f36 :: f37 :: f38 :: f39 :: f40 :: f41 :: f42 :: f43 :: f44 :: f45 :: f46 :: f47 :: f48 :: f49 :: f50 :: f51 :: f52 :: f53 :: f54 :: f55 :: f56 :: f57 :: f58 :: f59 :: f60 :: f61 :: f62 :: f63 :: f64 :: f65 :: f66 :: f67 :: f68 :: f69 :: f70 :: f71 :: f72 :: f73 :: f74 :: f75 :: .slice A6 KS.length cc :: .int .i64 ((KS.length : Nat) : Int) :: .int .i64 ((i : Int) + 1) :: t79 :: t80 :: t81 :: t82 :: t83 :: t84 :: t85 :: t86 :: t87 :: t88 :: t89 :: t90 :: t91 :: t92 :: t93 :: t94 :: t95 :: t96 :: t97 :: t98 :: t99 :: t100 :: t101 :: t102 :: t103 :: t104 :: t105 :: t106 :: t107 :: t108 :: t109 :: t110 :: t111 :: t112 :: t113 :: t114 :: t115 :: t116 :: t117 :: t118 :: t119 :: t120 :: t121 :: t122 :: t123 :: t124 :: t125 :: t126 :: t127 :: t128 :: t129 :: t130 :: t131 :: t132 :: t133 :: t134 :: t135 :: t136 :: t137 :: t138 :: t139 :: t140 :: t141 :: t142 :: t143 :: t144 :: t145 :: t146 :: t147 :: t148 :: t149 :: t150 :: t151 :: t152 :: t153 :: t154 :: t155 :: t156 :: t157 :: t158 :: t159 :: t160 :: t161 :: t162 :: t163 :: t164 :: t165 :: t166 :: t167 :: t168 :: t169 :: t170 :: t171 :: t172 :: t173 :: t174 :: t175 :: t176 :: t177 :: t178 :: t179 :: t180 :: t181 :: t182 :: t183 :: t184 :: t185 :: t186 :: t187 :: t188 :: t189 :: t190 :: t191 :: t192 :: t193 :: t194 :: t195 :: t196 :: t197 :: t198 :: t199 :: t200 :: t201 :: t202 :: t203 :: t204 :: t205 :: t206 :: t207 :: t208 :: t209 :: t210 :: t211 :: t212 :: t213 :: t214 :: t215 :: t216 :: t217 :: t218 :: t219 :: t220 :: t221 :: t222 :: t223 :: t224 :: t225 :: t226 :: t227 :: t228 :: t229 :: t230 :: t231 :: t232 :: t233 :: t234 :: t235 :: t236 :: t237 :: t238 :: t239 :: t240 :: t241 :: t242 :: t243 :: f244 :: f245 :: f246 :: f247 :: f248 :: f249 :: f250 :: f251 :: f252 :: f253 :: f254 :: f255 :: f256 :: f257 :: f258 :: f259 :: f260 :: f261 :: f262 :: f263 :: f264 :: f265 :: f266 :: f267 :: f268 :: f269 :: f270 :: f271 :: f272 :: f273 :: f274 :: f275 :: f276 :: f277 :: f278 :: f279 :: f280 :: f281 :: f282 :: f283 :: f284 :: f285 :: f286 :: f287 :: f288 :: f289 :: f290 :: f291 :: f292 :: f293 :: f294 :: f295 :: f296 :: f297 :: f298 :: f299 :: f300 :: f301 :: f302 :: f303 :: f304 :: f305 :: f306 :: f307 :: f308 :: f309 :: []).toArray, []⟩ V) :
    Code.wp Tryz.prog fits_roundC Q ⟨(S d :: f1 :: f2 :: f3 :: f4 :: f5 :: f6 :: f7 :: f8 :: f9 :: f10 :: .pointer (some ⟨b11, 0, none⟩) :: .int .i64 n :: f13 :: f14 :: f15 :: f16 :: f17 :: f18 :: f19 :: f20 :: f21 :: f22 :: f23 :: f24 :: f25 :: f26 :: f27 :: f28 :: f29 :: f30 :: f31 :: f32 :: f33 :: f34 :: f35 :: f36 :: f37 :: f38 :: f39 :: f40 :: f41 :: f42 :: f43 :: f44 :: f45 :: f46 :: f47 :: f48 :: f49 :: f50 :: f51 :: f52 :: f53 :: f54 :: f55 :: f56 :: f57 :: f58 :: f59 :: f60 :: f61 :: f62 :: f63 :: f64 :: f65 :: f66 :: f67 :: f68 :: f69 :: f70 :: f71 :: f72 :: f73 :: f74 :: f75 :: .slice A6 KS.length cc :: .int .i64 ((KS.length : Nat) : Int) :: .int .i64 (i : Int) :: f79 :: f80 :: f81 :: f82 :: f83 :: f84 :: f85 :: f86 :: f87 :: f88 :: f89 :: f90 :: f91 :: f92 :: f93 :: f94 :: f95 :: f96 :: f97 :: f98 :: f99 :: f100 :: f101 :: f102 :: f103 :: f104 :: f105 :: f106 :: f107 :: f108 :: f109 :: f110 :: f111 :: f112 :: f113 :: f114 :: f115 :: f116 :: f117 :: f118 :: f119 :: f120 :: f121 :: f122 :: f123 :: f124 :: f125 :: f126 :: f127 :: f128 :: f129 :: f130 :: f131 :: f132 :: f133 :: f134 :: f135 :: f136 :: f137 :: f138 :: f139 :: f140 :: f141 :: f142 :: f143 :: f144 :: f145 :: f146 :: f147 :: f148 :: f149 :: f150 :: f151 :: f152 :: f153 :: f154 :: f155 :: f156 :: f157 :: f158 :: f159 :: f160 :: f161 :: f162 :: f163 :: f164 :: f165 :: f166 :: f167 :: f168 :: f169 :: f170 :: f171 :: f172 :: f173 :: f174 :: f175 :: f176 :: f177 :: f178 :: f179 :: f180 :: f181 :: f182 :: f183 :: f184 :: f185 :: f186 :: f187 :: f188 :: f189 :: f190 :: f191 :: f192 :: f193 :: f194 :: f195 :: f196 :: f197 :: f198 :: f199 :: f200 :: f201 :: f202 :: f203 :: f204 :: f205 :: f206 :: f207 :: f208 :: f209 :: f210 :: f211 :: f212 :: f213 :: f214 :: f215 :: f216 :: f217 :: f218 :: f219 :: f220 :: f221 :: f222 :: f223 :: f224 :: f225 :: f226 :: f227 :: f228 :: f229 :: f230 :: f231 :: f232 :: f233 :: f234 :: f235 :: f236 :: f237 :: f238 :: f239 :: f240 :: f241 :: f242 :: f243 :: f244 :: f245 :: f246 :: f247 :: f248 :: f249 :: f250 :: f251 :: f252 :: f253 :: f254 :: f255 :: f256 :: f257 :: f258 :: f259 :: f260 :: f261 :: f262 :: f263 :: f264 :: f265 :: f266 :: f267 :: f268 :: f269 :: f270 :: f271 :: f272 :: f273 :: f274 :: f275 :: f276 :: f277 :: f278 :: f279 :: f280 :: f281 :: f282 :: f283 :: f284 :: f285 :: f286 :: f287 :: f288 :: f289 :: f290 :: f291 :: f292 :: f293 :: f294 :: f295 :: f296 :: f297 :: f298 :: f299 :: f300 :: f301 :: f302 :: f303 :: f304 :: f305 :: f306 :: f307 :: f308 :: f309 :: []).toArray, []⟩ wo := by
  conv => arg 2; whnf
  have hn : 0 ≤ n ∧ n ≤ 65535 := by omega
  have HCo := Lib.hid (fun k V (hV : Ext w V) => ans_code c k n V (hg.ext hV) (hb.ext hV) hLo.wf hcn)
  have HFi := Lib.hid (fun k (hk : (0 ≤ k ∧ k ≤ 15) ∨ (c.kind = 2 ∧ k = c.code)) => code_fits hLo hk1 (n := n) hn5 hk hop)
  have HKL := Lib.hid hK2
  clear hK2
  have hE : Ext X4 wo := hE8.trans hEL
  have hwo : Ext w wo := hw4.trans hE
  have r11o := (hE.block _ (Array.getElem?_eq_some_iff.1 r11).1).trans r11
  obtain ⟨bk, offk, hkA, _, hkz, hkc⟩ := hkr.2 (by omega)
  have hKi : KS[i]? = some (KS[i]'(by omega)) := List.getElem?_eq_getElem _
  have hkm := hks (KS[i]'(by omega)) (List.getElem_mem _)
  have y0 := hkc i (.int .i64 (KS[i]'(by omega))) (by rw [List.getElem?_map, hKi]; rfl)
  have y0 := (hEL.cell (p := ⟨bk, offk + i, none⟩) hkz).trans y0
  have HIL := Lib.hid hil
  subst hkA
  generalize (KS[i]'(by omega)) = k at *
  obtain ⟨p1, p2, p3, p4, p5, p6, p7, p8⟩ := HFi.out k hkm
  have hsl : (codeOf c k n).length ≤ 1048576 := by
    have hr := room_le c n
    have hr2 : roomOf c n ≤ 4096 := by unfold roomOf; split <;> omega
    omega
  obtain ⟨kn, rfl⟩ : ∃ kn : Nat, k = kn := ⟨k.toNat, by omega⟩
  have hii : (i : Int) < ((KS.length : Nat) : Int) := by omega
  have hi0 : (0 : Int) ≤ (i : Int) := by omega
  have HC1 := Lib.hid (HCo.out kn wo hwo)
  have HDe := Lib.hid (fun V (hV : Ext w V) => wire_decode (codeOf c kn n) V (hg.ext hV) (hb.ext hV) hsl)
  have hm1 : (blankOf c kn n).hd.code = ((kn % 16 : Nat) : Int) := by show (kn : Int) % 4096 % 16 = _; omega
  have hm2 : (blankOf c kn n).ed.ext = ((kn / 16 : Nat) : Int) := by rw [hm1] at p7; omega
  have P := Lib.hid (And.intro p2 (And.intro hm1 hm2))
  have P5 := Lib.hid p5
  generalize codeOf c kn n = s at *
  have p3i : ¬ (s.length : Int) < 2 := by omega
  have p8i : ¬ (d.length : Int) < 2 := by omega
  have p4i : ¬ roomOf c n < (s.length : Int) := by omega
  have p3d : decide ((s.length : Int) < 2) = false := decide_eq_false p3i
  have p8d : decide ((d.length : Int) < 2) = false := decide_eq_false p8i
  have p4d : decide (roomOf c n < (s.length : Int)) = false := decide_eq_false p4i
  have ps2 : (2 : Int) ≤ (s.length : Int) := by omega
  have pd2 : (2 : Int) ≤ (d.length : Int) := by omega
  have hkn : kn ≤ 16 := by omega
  clear p1 p2 p3 p4 p5 p6 p7 p8 hm1 hm2 hkm hKi hkc
  go_wp2_with (first | (refine wpList_load_part (by rfl) 34 (.tmp 11) rfl b11 0 rfl [.int .u8 c.kind, .int .i64 c.code, .int .u16 c.hd.id, .bool c.hd.qr, .int .u8 c.hd.op, .bool c.hd.aa, .bool c.hd.tc, .bool c.hd.rd, .bool c.hd.ra, .bool c.hd.z, .bool c.hd.ad, .bool c.hd.cd, .int .u8 c.hd.code, .bool c.hasQ, S c.q.name, .int .u16 c.q.typ, .int .u16 c.q.cls, .bool c.hasE, .int .i64 c.size] (row_all r11o) _ Tryz.underlying34 rfl (by kernel_rfl) ?_) | fail)
  refine HC1.out.mono ?_
  rintro e wa ⟨rfl, hE5⟩
  have hE45 := hE.trans hE5
  go_wp2_with fail
  refine (HDe.out _ (hw4.trans hE45)).mono ?_
  rintro e wb ⟨⟨x, _, hx, _⟩ | ⟨m, q, a, u, x, o, hm, rfl, hMO, hBd⟩, hE6⟩
  · rw [P.out.1] at hx; cases hx
  have hmb : blankOf c kn n = m := by have := P.out.1; rw [hm] at this; injection this with this; exact this.symm
  obtain ⟨⟨qA, qc, rfl, hqo⟩, ⟨aA, ac, rfl, _⟩, ⟨uA, uc, rfl, _⟩, ⟨xA, xc, rfl, _⟩, ⟨oA2, oc2, rfl, _⟩⟩ := hMO
  dsimp only
  iterate 10 go_step
  obtain ⟨b17, hb17⟩ : ∃ b17, b17 = wb.heap.size := ⟨_, rfl⟩
  have hz17 : (wb.alloc (.cells msgZ 45)).heap[b17]? = some (.cells msgZ 45) := by rw [hb17]; exact heap_alloc_new _ _
  refine Go.Great.wpList_allocTo rfl (some 17) rfl (.pointer (some ⟨wb.heap.size, 0, none⟩)) (.cells msgZ 45) (by kernel_rfl) ?_
  rw [← hb17]
  refine Go.wpList_store_rowTo rfl 45 (.tmp 17) (.tmp 89) rfl rfl b17 #[.int .u16 m.hd.id, .bool m.hd.qr, .int .u8 m.hd.op, .bool m.hd.aa, .bool m.hd.tc, .bool m.hd.rd, .bool m.hd.ra, .bool m.hd.z, .bool m.hd.ad, .bool m.hd.cd, .int .u8 m.hd.code, .slice qA m.qs.length qc, .slice aA m.ans.length ac, .slice uA m.auth.length uc, .slice xA m.extra.length xc, .bool m.he, .int .u16 m.ed.size, .int .u8 m.ed.ext, .int .u8 m.ed.ver, .int .u16 m.ed.flags, .slice oA2 m.ed.opts.length oc2] rfl rfl 45 _ hz17 (by kernel_rfl) rfl (by kernel_rfl) ?_
  rw [alloc_setRow7 wb msgZ #[.int .u16 m.hd.id, .bool m.hd.qr, .int .u8 m.hd.op, .bool m.hd.aa, .bool m.hd.tc, .bool m.hd.rd, .bool m.hd.ra, .bool m.hd.z, .bool m.hd.ad, .bool m.hd.cd, .int .u8 m.hd.code, .slice qA m.qs.length qc, .slice aA m.ans.length ac, .slice uA m.auth.length uc, .slice xA m.extra.length xc, .bool m.he, .int .u16 m.ed.size, .int .u8 m.ed.ext, .int .u8 m.ed.ver, .int .u16 m.ed.flags, .slice oA2 m.ed.opts.length oc2] 45 b17 hb17]
  iterate 3 go_step
  refine wpList_nil ?_
  rw [← hb17]
  have r17m : (wb.alloc (.cells #[.int .u16 m.hd.id, .bool m.hd.qr, .int .u8 m.hd.op, .bool m.hd.aa, .bool m.hd.tc, .bool m.hd.rd, .bool m.hd.ra, .bool m.hd.z, .bool m.hd.ad, .bool m.hd.cd, .int .u8 m.hd.code, .slice qA m.qs.length qc, .slice aA m.ans.length ac, .slice uA m.auth.length uc, .slice xA m.extra.length xc, .bool m.he, .int .u16 m.ed.size, .int .u8 m.ed.ext, .int .u8 m.ed.ver, .int .u16 m.ed.flags, .slice oA2 m.ed.opts.length oc2] 45)).heap[b17]? = some (.cells #[.int .u16 m.hd.id, .bool m.hd.qr, .int .u8 m.hd.op, .bool m.hd.aa, .bool m.hd.tc, .bool m.hd.rd, .bool m.hd.ra, .bool m.hd.z, .bool m.hd.ad, .bool m.hd.cd, .int .u8 m.hd.code, .slice qA m.qs.length qc, .slice aA m.ans.length ac, .slice uA m.auth.length uc, .slice xA m.extra.length xc, .bool m.he, .int .u16 m.ed.size, .int .u8 m.ed.ext, .int .u8 m.ed.ver, .int .u16 m.ed.flags, .slice oA2 m.ed.opts.length oc2] 45) := by rw [hb17]; exact heap_alloc_new _ _
  have hE7m : Ext X4 (wb.alloc (.cells #[.int .u16 m.hd.id, .bool m.hd.qr, .int .u8 m.hd.op, .bool m.hd.aa, .bool m.hd.tc, .bool m.hd.rd, .bool m.hd.ra, .bool m.hd.z, .bool m.hd.ad, .bool m.hd.cd, .int .u8 m.hd.code, .slice qA m.qs.length qc, .slice aA m.ans.length ac, .slice uA m.auth.length uc, .slice xA m.extra.length xc, .bool m.he, .int .u16 m.ed.size, .int .u8 m.ed.ext, .int .u8 m.ed.ver, .int .u16 m.ed.flags, .slice oA2 m.ed.opts.length oc2] 45)) := (hE45.trans hE6).alloc _
  have hqr := (hqo.ext (show Ext wb (wb.alloc (.cells #[.int .u16 m.hd.id, .bool m.hd.qr, .int .u8 m.hd.op, .bool m.hd.aa, .bool m.hd.tc, .bool m.hd.rd, .bool m.hd.ra, .bool m.hd.z, .bool m.hd.ad, .bool m.hd.cd, .int .u8 m.hd.code, .slice qA m.qs.length qc, .slice aA m.ans.length ac, .slice uA m.auth.length uc, .slice xA m.extra.length xc, .bool m.he, .int .u16 m.ed.size, .int .u8 m.ed.ext, .int .u8 m.ed.ver, .int .u16 m.ed.flags, .slice oA2 m.ed.opts.length oc2] 45)) from (Ext.refl _).alloc _)).rd
  have hwL : Ext w6 (wb.alloc (.cells #[.int .u16 m.hd.id, .bool m.hd.qr, .int .u8 m.hd.op, .bool m.hd.aa, .bool m.hd.tc, .bool m.hd.rd, .bool m.hd.ra, .bool m.hd.z, .bool m.hd.ad, .bool m.hd.cd, .int .u8 m.hd.code, .slice qA m.qs.length qc, .slice aA m.ans.length ac, .slice uA m.auth.length uc, .slice xA m.extra.length xc, .bool m.he, .int .u16 m.ed.size, .int .u8 m.ed.ext, .int .u8 m.ed.ver, .int .u16 m.ed.flags, .slice oA2 m.ed.opts.length oc2] 45)) := ((hEL.trans hE5).trans hE6).alloc _
  obtain ⟨X7, hX⟩ : ∃ X7, X7 = wb.alloc (.cells #[.int .u16 m.hd.id, .bool m.hd.qr, .int .u8 m.hd.op, .bool m.hd.aa, .bool m.hd.tc, .bool m.hd.rd, .bool m.hd.ra, .bool m.hd.z, .bool m.hd.ad, .bool m.hd.cd, .int .u8 m.hd.code, .slice qA m.qs.length qc, .slice aA m.ans.length ac, .slice uA m.auth.length uc, .slice xA m.extra.length xc, .bool m.he, .int .u16 m.ed.size, .int .u8 m.ed.ext, .int .u8 m.ed.ver, .int .u16 m.ed.flags, .slice oA2 m.ed.opts.length oc2] 45) := ⟨_, rfl⟩
  rw [← hX] at r17m hE7m hqr hwL ⊢
  clear hX hz17 hb17 hqo
  have r117 := (hE7m.block _ (Array.getElem?_eq_some_iff.1 r11).1).trans r11
  have HRo := Lib.hid (fun V => int_room c n V)
  have HS := Lib.hid (fun V (hEV : Ext X7 V) => (show FitS b17 b11 c n kn aA uA xA ac uc xc V from by
    have rV := (hEV.block _ (Array.getElem?_eq_some_iff.1 r17m).1).trans r17m
    have cV := (hEV.block _ (Array.getElem?_eq_some_iff.1 r117).1).trans r117
    refine ⟨?_, ?_, ?_, ?_, ?_, ?_, ?_, ?_, ?_, ?_, fun he => ?_, ?_, ?_, ?_, box_cell cV rfl, box_cell cV rfl, box_cell cV rfl, box_cell cV rfl, cV⟩
    · rw [box_cell (j := 1) rV rfl, ← hmb]; rfl
    · rw [box_cell (j := 2) rV rfl, ← hmb]; rfl
    · rw [box_cell (j := 3) rV rfl, ← hmb]; rfl
    · rw [box_cell (j := 4) rV rfl, ← hmb]; rfl
    · rw [box_cell (j := 5) rV rfl, ← hmb]; rfl
    · rw [box_cell (j := 6) rV rfl, ← hmb]; rfl
    · rw [box_cell (j := 9) rV rfl, ← hmb]; rfl
    · rw [box_cell (j := 10) rV rfl, ← hmb, ← P.out.2.1]; rfl
    · rw [box_cell (j := 17) rV rfl, ← hmb, ← P.out.2.2]; rfl
    · rw [box_cell (j := 15) rV rfl, ← hmb]; rfl
    · rw [box_cell (j := 16) rV rfl, ← hmb]
      show some (Value.int .u16 (if c.hasE = true then (⟨n % 65536, (kn : Int) % 4096 / 16, 0, 0, []⟩ : EdD) else edNone).size) = _
      rw [if_pos he]
      show some (Value.int .u16 (n % 65536)) = _
      rw [show n % 65536 = n by omega]
    · rw [box_cell (j := 12) rV rfl, ← hmb]; rfl
    · rw [box_cell (j := 13) rV rfl, ← hmb]; rfl
    · rw [box_cell (j := 14) rV rfl, ← hmb]; rfl))
  have HEC := Lib.hid (fun V => edns_code (kn % 16) (kn / 16) V (by omega) (by omega))
  rw [show kn / 16 * 16 + kn % 16 % 16 = kn by omega] at HEC
  have htk := P5.out
  have HMb := Lib.hid hmb
  clear HC1 HDe hmb y0 hm hBd
  go_upto_region 14 with fail
  go_cut [214] from 79 to 243 (fun s214 wx => s214 = .bool false ∧ Ext X7 wx)
  case first =>
    refine fits_r14 X7 HS.out hkn hn hwz (by omega) (by omega) (by omega) htk ?_
    iterate 123 intro _
    intro V hV
    go_wp2_with fail
    go_meet
    exact ⟨rfl, hV⟩

  case rest =>
    obtain ⟨rfl, hE9⟩ := hcut
    obtain ⟨X8, rfl⟩ : ∃ X8 : World, X8 = wc := ⟨_, rfl⟩
    have r178 := (hE9.block _ (Array.getElem?_eq_some_iff.1 r17m).1).trans r17m
    have r118 := (hE9.block _ (Array.getElem?_eq_some_iff.1 r117).1).trans r117
    have hq8 := hqr.ext hE9
    have c13 : X8.cell? ⟨b11, 13, none⟩ = some (.bool c.hasQ) := box_cell r118 rfl
    have hqs : m.qs = if c.hasQ = true then [c.q] else [] := by rw [← HMb.out]; rfl
    go_upto_region 16 with fail
    go_cut [242] from 79 to 243 (fun s242 wx => s242 = .bool false ∧ Ext X8 wx)
    case first =>
      rcases hQ : c.hasQ with _ | _
      · rw [hQ] at hqs c13
        have hql : m.qs.length = 0 := by rw [hqs]; rfl
        have c11 : X8.cell? ⟨b17, 11, none⟩ = some (.slice qA 0 qc) := by rw [← hql]; exact box_cell r178 rfl
        have HS16 := Lib.hid (show ∀ V, Ext X8 V → V.cell? ⟨b11, 13, none⟩ = some (.bool false) ∧ V.cell? ⟨b17, 11, none⟩ = some (.slice qA 0 qc) from fun V hV => ⟨(hV.cell (cell_ltF c13)).trans c13, (hV.cell (cell_ltF c11)).trans c11⟩)
        clear c13 c11 hqs hql hq8
        refine fits_r16a X8 HS16.out ?_
        iterate 27 intro _
        intro V hV
        go_wp2_with fail
        go_meet
        exact ⟨rfl, hV⟩

      · rw [hQ] at hqs c13
        have hql : m.qs.length = 1 := by rw [hqs]; rfl
        have c11 : X8.cell? ⟨b17, 11, none⟩ = some (.slice qA 1 qc) := by rw [← hql]; exact box_cell r178 rfl
        obtain ⟨qb, qo, rfl, _, hbz, hbc⟩ := hq8.2 (by omega)
        obtain ⟨u0, u1, u2⟩ := qus_cells hbc 0 c.q (by rw [hqs]; rfl)
        rw [Nat.zero_mul, Nat.add_zero] at u0 u1 u2
        have p14 : X8.cell? ⟨b11, 14, none⟩ = some (S c.q.name) := box_cell r118 rfl
        have p15 : X8.cell? ⟨b11, 15, none⟩ = some (.int .u16 c.q.typ) := box_cell r118 rfl
        have p16 : X8.cell? ⟨b11, 16, none⟩ = some (.int .u16 c.q.cls) := box_cell r118 rfl
        have HS16 := Lib.hid (show ∀ V, Ext X8 V → V.cell? ⟨b11, 13, none⟩ = some (.bool true) ∧ V.cell? ⟨b17, 11, none⟩ = some (.slice (some ⟨qb, qo, none⟩) 1 qc) ∧ (V.cell? ⟨qb, qo, none⟩ = some (S c.q.name) ∧ V.cell? ⟨qb, qo + 1, none⟩ = some (.int .u16 c.q.typ) ∧ V.cell? ⟨qb, qo + 2, none⟩ = some (.int .u16 c.q.cls)) ∧ (V.cell? ⟨b11, 14, none⟩ = some (S c.q.name) ∧ V.cell? ⟨b11, 15, none⟩ = some (.int .u16 c.q.typ) ∧ V.cell? ⟨b11, 16, none⟩ = some (.int .u16 c.q.cls)) from fun V hV => ⟨(hV.cell (cell_ltF c13)).trans c13, (hV.cell (cell_ltF c11)).trans c11, ⟨(hV.cell (cell_ltF u0)).trans u0, (hV.cell (cell_ltF u1)).trans u1, (hV.cell (cell_ltF u2)).trans u2⟩, ⟨(hV.cell (cell_ltF p14)).trans p14, (hV.cell (cell_ltF p15)).trans p15, (hV.cell (cell_ltF p16)).trans p16⟩⟩)
        clear c13 c11 hqs hql hq8 u0 u1 u2 p14 p15 p16 hbc hbz
        refine fits_r16b X8 HS16.out ?_
        iterate 27 intro _
        intro V hV
        go_wp2_with fail
        go_meet
        exact ⟨rfl, hV⟩

    case rest =>
      obtain ⟨rfl, hE10⟩ := hcut
      obtain ⟨X9, rfl⟩ : ∃ X9 : World, X9 = wc := ⟨_, rfl⟩
      have hi2 : (i : Int) ≤ 1 := by have h9 := HIL.out; have h8 := HKL.out; omega
      have hi3 : (0 : Int) ≤ (i : Int) := by omega
      clear hwz
      go_wp2_with fail
      all_goals (first | exact (hwL.trans hE9).trans hE10 | exact hQ _ _ _ _ _ _ _ _ _ _ _ _ _ _ _ _ _ _ _ _ _ _ _ _ _ _ _ _ _ _ _ _ _ _ _ _ _ _ _ _ _ _ _ _ _ _ _ _ _ _ _ _ _ _ _ _ _ _ _ _ _ _ _ _ _ _ _ _ _ _ _ _ _ _ _ _ _ _ _ _ _ _ _ _ _ _ _ _ _ _ _ _ _ _ _ _ _ _ _ _ _ _ _ _ _ _ _ _ _ _ _ _ _ _ _ _ _ _ _ _ _ _ _ _ _ _ _ _ _ _ _ _ _ _ _ _ _ _ _ _ _ _ _ _ _ _ _ _ _ _ _ _ _ _ _ _ _ _ _ _ _ _ _ _ _ _ _ _ _ _ ((hwL.trans hE9).trans hE10))
def findL : Nat → Code → Option Code
  | 0, _ => none
  | _ + 1, .loop a => some (.loop a)
  | n + 1, .seq a b => (findL n a).orElse fun _ => findL n b
  | n + 1, .cond _ a b => (findL n a).orElse fun _ => findL n b
  | n + 1, .scope a => findL n a
  | n + 1, .block _ a => findL n a
  | _ + 1, _ => none
noncomputable def fits_loopC : Code := ((Tryz.f3.body).bind (findL 400)).getD .skip
set_option maxHeartbeats 40000000 in
theorem fits_loop {Q : Exit → Act → World → Prop} {f1 f2 f3 f4 f5 f6 f7 f8 f9 f10 f13 f14 f15 f16 f17 f18 f19 f20 f21 f22 f23 f24 f25 f26 f27 f28 f29 f30 f31 f32 f33 f34 f35 f36 f37 f38 f39 f40 f41 f42 f43 f44 f45 f46 f47 f48 f49 f50 f51 f52 f53 f54 f55 f56 f57 f58 f59 f60 f61 f62 f63 f64 f65 f66 f67 f68 f69 f70 f71 f72 f73 f74 f75 f79 f80 f81 f82 f83 f84 f85 f86 f87 f88 f89 f90 f91 f92 f93 f94 f95 f96 f97 f98 f99 f100 f101 f102 f103 f104 f105 f106 f107 f108 f109 f110 f111 f112 f113 f114 f115 f116 f117 f118 f119 f120 f121 f122 f123 f124 f125 f126 f127 f128 f129 f130 f131 f132 f133 f134 f135 f136 f137 f138 f139 f140 f141 f142 f143 f144 f145 f146 f147 f148 f149 f150 f151 f152 f153 f154 f155 f156 f157 f158 f159 f160 f161 f162 f163 f164 f165 f166 f167 f168 f169 f170 f171 f172 f173 f174 f175 f176 f177 f178 f179 f180 f181 f182 f183 f184 f185 f186 f187 f188 f189 f190 f191 f192 f193 f194 f195 f196 f197 f198 f199 f200 f201 f202 f203 f204 f205 f206 f207 f208 f209 f210 f211 f212 f213 f214 f215 f216 f217 f218 f219 f220 f221 f222 f223 f224 f225 f226 f227 f228 f229 f230 f231 f232 f233 f234 f235 f236 f237 f238 f239 f240 f241 f242 f243 f244 f245 f246 f247 f248 f249 f250 f251 f252 f253 f254 f255 f256 f257 f258 f259 f260 f261 f262 f263 f264 f265 f266 f267 f268 f269 f270 f271 f272 f273 f274 f275 f276 f277 f278 f279 f280 f281 f282 f283 f284 f285 f286 f287 f288 f289 f290 f291 f292 f293 f294 f295 f296 f297 f298 f299 f300 f301 f302 f303 f304 f305 f306 f307 f308 f309 : Value} {c : CameD} {n : Int} {d : List UInt8} {b11 cc : Nat} {KS : List Int} {A6 : Option Addr} {w X4 w6 : World} (hg : Laid w) (hb : BitsAt w) (hLo : LookOk d c) (hk1 : c.kind ≠ 1) (hop : c.hd.op ≤ 15) (hcn : c.q.name.length ≤ 1048576) (hn5 : 512 ≤ n ∧ n ≤ 4096) (hwz : wrap64 n = n) (hw4 : Ext w X4) (hE8 : Ext X4 w6) (r11 : X4.heap[b11]? = some (.cells (caRow c.kind c.code c.hd c.hasQ c.q c.hasE c.size) 34)) (hkr : Rd w6 0 1 A6 KS.length (KS.map fun k => Value.int .i64 k)) (hK2 : KS.length ≤ 2) (hks : ∀ k ∈ KS, (0 ≤ k ∧ k ≤ 15) ∨ (c.kind = 2 ∧ k = c.code))
    (hQ : ∀ (t10 t15 t16 t17 t18 t78 t79 t80 t81 t82 t83 t84 t85 t86 t87 t88 t89 t90 t91 t92 t93 t94 t95 t96 t97 t98 t99 t100 t101 t102 t103 t104 t105 t106 t107 t108 t109 t110 t111 t112 t113 t114 t115 t116 t117 t118 t119 t120 t121 t122 t123 t124 t125 t126 t127 t128 t129 t130 t131 t132 t133 t134 t135 t136 t137 t138 t139 t140 t141 t142 t143 t144 t145 t146 t147 t148 t149 t150 t151 t152 t153 t154 t155 t156 t157 t158 t159 t160 t161 t162 t163 t164 t165 t166 t167 t168 t169 t170 t171 t172 t173 t174 t175 t176 t177 t178 t179 t180 t181 t182 t183 t184 t185 t186 t187 t188 t189 t190 t191 t192 t193 t194 t195 t196 t197 t198 t199 t200 t201 t202 t203 t204 t205 t206 t207 t208 t209 t210 t211 t212 t213 t214 t215 t216 t217 t218 t219 t220 t221 t222 t223 t224 t225 t226 t227 t228 t229 t230 t231 t232 t233 t234 t235 t236 t237 t238 t239 t240 t241 t242 t243 : Value) (V : World), Ext w6 V → Q (.exit 0) ⟨(S d :: f1 :: f2 :: f3 :: f4 :: f5 :: f6 :: f7 :: f8 :: f9 :: t10 :: .pointer (some ⟨b11, 0, none⟩) :: .int .i64 n :: f13 :: f14 :: t15 :: t16 :: t17 :: t18 :: f19 :: f20 :: f21 :: f22 :: f23 :: f24 :: f25 :: f26 :: f27 :: f28 :: f29 :: f30 :: f31 :: f32 :: f33 :: f34 :: f35 :: f36 :: f37 :: f38 :: f39 :: f40 :: f41 :: f42 :: f43 :: f44 :: f45 :: f46 :: f47 :: f48 :: f49 :: f50 :: f51 :: f52 :: f53 :: f54 :: f55 :: f56 :: f57 :: f58 :: f59 :: f60 :: f61 :: f62 :: f63 :: f64 :: f65 :: f66 :: f67 :: f68 :: f69 :: f70 :: f71 :: f72 :: f73 :: f74 :: f75 :: .slice A6 KS.length cc :: .int .i64 ((KS.length : Nat) : Int) :: t78 :: t79 :: t80 :: t81 :: t82 :: t83 :: t84 :: t85 :: t86 :: t87 :: t88 :: t89 :: t90 :: t91 :: t92 :: t93 :: t94 :: t95 :: t96 :: t97 :: t98 :: t99 :: t100 :: t101 :: t102 :: t103 :: t104 :: t105 :: t106 :: t107 :: t108 :: t109 :: t110 :: t111 :: t112 :: t113 :: t114 :: t115 :: t116 :: t117 :: t118 :: t119 :: t120 :: t121 :: t122 :: t123 :: t124 :: t125 :: t126 :: t127 :: t128 :: t129 :: t130 :: t131 :: t132 :: t133 :: t134 :: t135 :: t136 :: t137 :: t138 :: t139 :: t140 :: t141 :: t142 :: t143 :: t144 :: t145 :: t146 :: t147 :: t148 :: t149 :: t150 :: t151 :: t152 :: t153 :: t154 :: t155 :: t156 :: t157 :: t158 :: t159 :: t160 :: t161 :: t162 :: t163 :: t164 :: t165 :: t166 :: t167 :: t168 :: t169 :: t170 :: t171 :: t172 :: t173 :: t174 :: t175 :: t176 :: t177 :: t178 :: t179 :: t180 :: t181 :: t182 :: t183 :: t184 :: t185 :: t186 :: t187 :: t188 :: t189 :: t190 :: t191 :: t192 :: t193 :: t194 :: t195 :: t196 :: t197 :: t198 :: t199 :: t200 :: t201 :: t202 :: t203 :: t204 :: t205 :: t206 :: t207 :: t208 :: t209 :: t210 :: t211 :: t212 :: t213 :: t214 :: t215 :: t216 :: t217 :: t218 :: t219 :: t220 :: t221 :: t222 :: t223 :: t224 :: t225 :: t226 :: t227 :: t228 :: t229 :: t230 :: t231 :: t232 :: t233 :: t234 :: t235 :: t236 :: t237 :: t238 :: t239 :: t240 :: t241 :: t242 :: t243 :: f244 :: f245 :: f246 :: f247 :: f248 :: f249 :: f250 :: f251 :: f252 :: f253 :: f254 :: f255 :: f256 :: f257 :: f258 :: f259 :: f260 :: f261 :: f262 :: f263 :: f264 :: f265 :: f266 :: f267 :: f268 :: f269 :: f270 :: f271 :: f272 :: f273 :: f274 :: f275 :: f276 :: f277 :: f278 :: f279 :: f280 :: f281 :: f282 :: f283 :: f284 :: f285 :: f286 :: f287 :: f288 :: f289 :: f290 :: f291 :: f292 :: f293 :: f294 :: f295 :: f296 :: f297 :: f298 :: f299 :: f300 :: f301 :: f302 :: f303 :: f304 :: f305 :: f306 :: f307 :: f308 :: f309 :: []).toArray, []⟩ V) :
    Code.wp Tryz.prog fits_loopC Q ⟨(S d :: f1 :: f2 :: f3 :: f4 :: f5 :: f6 :: f7 :: f8 :: f9 :: f10 :: .pointer (some ⟨b11, 0, none⟩) :: .int .i64 n :: f13 :: f14 :: f15 :: f16 :: f17 :: f18 :: f19 :: f20 :: f21 :: f22 :: f23 :: f24 :: f25 :: f26 :: f27 :: f28 :: f29 :: f30 :: f31 :: f32 :: f33 :: f34 :: f35 :: f36 :: f37 :: f38 :: f39 :: f40 :: f41 :: f42 :: f43 :: f44 :: f45 :: f46 :: f47 :: f48 :: f49 :: f50 :: f51 :: f52 :: f53 :: f54 :: f55 :: f56 :: f57 :: f58 :: f59 :: f60 :: f61 :: f62 :: f63 :: f64 :: f65 :: f66 :: f67 :: f68 :: f69 :: f70 :: f71 :: f72 :: f73 :: f74 :: f75 :: .slice A6 KS.length cc :: .int .i64 ((KS.length : Nat) : Int) :: .int .i64 0 :: f79 :: f80 :: f81 :: f82 :: f83 :: f84 :: f85 :: f86 :: f87 :: f88 :: f89 :: f90 :: f91 :: f92 :: f93 :: f94 :: f95 :: f96 :: f97 :: f98 :: f99 :: f100 :: f101 :: f102 :: f103 :: f104 :: f105 :: f106 :: f107 :: f108 :: f109 :: f110 :: f111 :: f112 :: f113 :: f114 :: f115 :: f116 :: f117 :: f118 :: f119 :: f120 :: f121 :: f122 :: f123 :: f124 :: f125 :: f126 :: f127 :: f128 :: f129 :: f130 :: f131 :: f132 :: f133 :: f134 :: f135 :: f136 :: f137 :: f138 :: f139 :: f140 :: f141 :: f142 :: f143 :: f144 :: f145 :: f146 :: f147 :: f148 :: f149 :: f150 :: f151 :: f152 :: f153 :: f154 :: f155 :: f156 :: f157 :: f158 :: f159 :: f160 :: f161 :: f162 :: f163 :: f164 :: f165 :: f166 :: f167 :: f168 :: f169 :: f170 :: f171 :: f172 :: f173 :: f174 :: f175 :: f176 :: f177 :: f178 :: f179 :: f180 :: f181 :: f182 :: f183 :: f184 :: f185 :: f186 :: f187 :: f188 :: f189 :: f190 :: f191 :: f192 :: f193 :: f194 :: f195 :: f196 :: f197 :: f198 :: f199 :: f200 :: f201 :: f202 :: f203 :: f204 :: f205 :: f206 :: f207 :: f208 :: f209 :: f210 :: f211 :: f212 :: f213 :: f214 :: f215 :: f216 :: f217 :: f218 :: f219 :: f220 :: f221 :: f222 :: f223 :: f224 :: f225 :: f226 :: f227 :: f228 :: f229 :: f230 :: f231 :: f232 :: f233 :: f234 :: f235 :: f236 :: f237 :: f238 :: f239 :: f240 :: f241 :: f242 :: f243 :: f244 :: f245 :: f246 :: f247 :: f248 :: f249 :: f250 :: f251 :: f252 :: f253 :: f254 :: f255 :: f256 :: f257 :: f258 :: f259 :: f260 :: f261 :: f262 :: f263 :: f264 :: f265 :: f266 :: f267 :: f268 :: f269 :: f270 :: f271 :: f272 :: f273 :: f274 :: f275 :: f276 :: f277 :: f278 :: f279 :: f280 :: f281 :: f282 :: f283 :: f284 :: f285 :: f286 :: f287 :: f288 :: f289 :: f290 :: f291 :: f292 :: f293 :: f294 :: f295 :: f296 :: f297 :: f298 :: f299 :: f300 :: f301 :: f302 :: f303 :: f304 :: f305 :: f306 :: f307 :: f308 :: f309 :: []).toArray, []⟩ w6 := by
  conv => arg 2; whnf
  go_loopw [15, 16, 17, 18, 78] (fun _ _ _ _ s78 wr => ∃ i : Nat, i ≤ KS.length ∧ s78 = .int .i64 i ∧ Ext w6 wr) (fun _ _ _ _ s78 _ => KS.length - (intOf s78).toNat)
  case atStart => exact ⟨0, by omega, rfl, Ext.refl _⟩
  case round =>
    obtain ⟨i, hi, rfl, hEL⟩ := hrel
    obtain ⟨wo, rfl⟩ : ∃ wo : World, wo = wr := ⟨_, rfl⟩
    have hE : Ext X4 wo := hE8.trans hEL
    have hwo : Ext w wo := hw4.trans hE
    have r11o := (hE.block _ (Array.getElem?_eq_some_iff.1 r11).1).trans r11
    by_cases hil : i < KS.length
    · refine fits_round hg hb hLo hk1 hop hcn hn5 hwz hw4 hE8 r11 hkr hK2 hks wo hEL hil ?_
      iterate 169 intro _
      intro V hV
      go_wp2_with fail
      go_roundw
      case rel => exact ⟨i + 1, by omega, by go_num, hV⟩
      case measure => (simp [intOf]; omega)
    · have hle : i = KS.length := by omega
      have hii : ¬ (i : Int) < ((KS.length : Nat) : Int) := by omega
      go_wp2_with fail
      all_goals (first | exact hEL | exact hQ _ _ _ _ _ _ _ _ _ _ _ _ _ _ _ _ _ _ _ _ _ _ _ _ _ _ _ _ _ _ _ _ _ _ _ _ _ _ _ _ _ _ _ _ _ _ _ _ _ _ _ _ _ _ _ _ _ _ _ _ _ _ _ _ _ _ _ _ _ _ _ _ _ _ _ _ _ _ _ _ _ _ _ _ _ _ _ _ _ _ _ _ _ _ _ _ _ _ _ _ _ _ _ _ _ _ _ _ _ _ _ _ _ _ _ _ _ _ _ _ _ _ _ _ _ _ _ _ _ _ _ _ _ _ _ _ _ _ _ _ _ _ _ _ _ _ _ _ _ _ _ _ _ _ _ _ _ _ _ _ _ _ _ _ _ _ _ _ _ _ _ wo hEL)
set_option maxHeartbeats 40000000 in
theorem law28_fits (d : List UInt8) (cd vc ttl n : Int) (vs vo : Value) (sets soa : List SetD) (w : World) (hg : Laid w) (hb : BitsAt w) (h : Arg28 w d vc ttl vs vo sets soa) (hcd : 0 ≤ cd ∧ cd ≤ 255) (hn : 0 ≤ n ∧ n ≤ 65535) :
    Calls Tryz.prog 3 #[S d, .int .u8 cd, .agg #[.int .u8 vc, vs, vo], .int .u32 ttl, .int .u16 n] w (AwPost w) := by
  have HAw := Lib.hid (fun V (hV : Ext w V) => law28_awake V (hg.ext hV) (hb.ext hV))
  have HSm := Lib.hid (fun V (hV : Ext w V) => law28_small vc vs vo sets soa V (h.vs.ext hV) (h.vo.ext hV))
  have H := Lib.hid h
  obtain ⟨sps, sA, sc, _, rfl, _, _, _, _⟩ := h.vs
  obtain ⟨ops, oA, oc, _, rfl, _, _, _, _⟩ := h.vo
  have hdl := h.d
  unfold maxLen at hdl
  clear h
  obtain ⟨X0, hX0⟩ : ∃ X0, X0 = w.alloc (.cells #[.int .u8 vc, .slice sA sps.length sc, .slice oA ops.length oc] 24) := ⟨_, rfl⟩
  have hw0 : Ext w X0 := by rw [hX0]; exact (Ext.refl _).alloc _
  have r0 : X0.heap[w.heap.size]? = some (.cells #[.int .u8 vc, .slice sA sps.length sc, .slice oA ops.length oc] 24) := by rw [hX0]; exact heap_alloc_new _ _
  have z0 : X0.cell? ⟨w.heap.size, 0, none⟩ = some (.int .u8 vc) := box_cell r0 rfl
  have z1 : X0.cell? ⟨w.heap.size, 1, none⟩ = some (.slice sA sps.length sc) := box_cell r0 rfl
  have z2 : X0.cell? ⟨w.heap.size, 2, none⟩ = some (.slice oA ops.length oc) := box_cell r0 rfl
  go_enter Tryz.func3, Tryz.ntmps3
  go_upto_region 1 with fail
  have hzz : w.alloc (.cells #[.int .u8 vc, .slice sA sps.length sc, .slice oA ops.length oc] 24) = X0 := hX0.symm
  rw [hzz]
  clear hzz hX0
  by_cases hlong : 3000 < d.length
  · have hli : (3000 : Int) < (d.length : Int) := by omega
    clear z0 z1 z2
    go_wp2_with fail
    refine (HAw.out _ hw0).mono ?_
    rintro e w1 ⟨rfl, hE1⟩
    go_wp2_with fail
    go_ret
    exact ⟨rfl, hw0.trans hE1⟩
  have hli : ¬ (3000 : Int) < (d.length : Int) := by omega
  go_upto_region 2 with (first
    | (go_at_call 7; refine (HSm.out _ hw0).mono ?_; rintro e w1 ⟨B, rfl, hB, hE1⟩; (rcases B with _ | _))
    | (go_at_call 8; refine (HAw.out _ (hw0.trans hE1)).mono ?_; rintro e w2 ⟨rfl, hE2⟩)
    | fail)
  · go_wp2_with fail
    refine (HAw.out _ (hw0.trans hE1)).mono ?_
    rintro e w2 ⟨rfl, hE2⟩
    go_wp2_with fail
    go_ret
    exact ⟨rfl, hw0.trans (hE1.trans hE2)⟩
  obtain ⟨hsm1, hsm2⟩ : SmL sets ∧ SmL soa := by first | exact hB rfl | exact hB trivial | exact hB
  have hw2 : Ext w w2 := (hw0.trans hE1).trans hE2
  have HLk := Lib.hid (int_look d w2 (hg.ext hw2) (hb.ext hw2) (by omega))
  have HLo := Lib.hid (look_ok d)
  have hcn : (lookOf d).q.name.length ≤ 1048576 := by
    rcases hq : (lookOf d).hasQ with _ | _
    · rw [look_noq hq]; simp [qNone]
    · exact Nat.le_trans (may_le (HLo.out.q hq)) (by omega)
  obtain ⟨c, hc⟩ : ∃ c, c = lookOf d := ⟨_, rfl⟩
  rw [← hc] at HLk HLo hcn
  clear hc
  have hwz : wrap64 n = n := by unfold wrap64; omega
  have hwc : wrap64 cd = cd := by unfold wrap64; omega
  have HCo := Lib.hid (fun k V (hV : Ext w V) => ans_code c k n V (hg.ext hV) (hb.ext hV) HLo.out.wf hcn)
  have HOf := Lib.hid (fun V (hV : Ext w V) => ans_of c vc (.slice sA sps.length sc) (.slice oA ops.length oc) sets soa ttl n V (hg.ext hV) (hb.ext hV) HLo.out.wf hcn (H.out.vs.ext hV) (H.out.vo.ext hV) (hsm1.ok H.out.ws) (hsm2.ok H.out.wo) H.out.ttl)
  refine HLk.out.mono ?_
  rintro e w3 ⟨rfl, hE3⟩
  dsimp only
  iterate 7 go_step
  obtain ⟨b11, hb11⟩ : ∃ b11, b11 = w3.heap.size := ⟨_, rfl⟩
  have hz11 : (w3.alloc (.cells cameZ 34)).heap[b11]? = some (.cells cameZ 34) := by rw [hb11]; exact heap_alloc_new _ _
  refine Go.Great.wpList_allocTo rfl (some 11) rfl (.pointer (some ⟨w3.heap.size, 0, none⟩)) (.cells cameZ 34) (by kernel_rfl) ?_
  rw [← hb11]
  refine Go.wpList_store_rowTo rfl 34 (.tmp 11) (.tmp 36) rfl rfl b11 (caRow c.kind c.code c.hd c.hasQ c.q c.hasE c.size) rfl rfl 34 _ hz11 (by kernel_rfl) rfl (by kernel_rfl) ?_
  rw [alloc_setRow7 w3 cameZ (caRow c.kind c.code c.hd c.hasQ c.q c.hasE c.size) 34 b11 hb11]
  iterate 3 go_step
  refine wpList_nil ?_
  rw [← hb11]
  have r11 : (w3.alloc (.cells (caRow c.kind c.code c.hd c.hasQ c.q c.hasE c.size) 34)).heap[b11]? = some (.cells (caRow c.kind c.code c.hd c.hasQ c.q c.hasE c.size) 34) := by rw [hb11]; exact heap_alloc_new _ _
  have hw4 : Ext w (w3.alloc (.cells (caRow c.kind c.code c.hd c.hasQ c.q c.hasE c.size) 34)) := (hw2.trans hE3).alloc _
  have h03 : Ext X0 (w3.alloc (.cells (caRow c.kind c.code c.hd c.hasQ c.q c.hasE c.size) 34)) := ((hE1.trans hE2).trans hE3).alloc _
  obtain ⟨X4, hX⟩ : ∃ X4, X4 = w3.alloc (.cells (caRow c.kind c.code c.hd c.hasQ c.q c.hasE c.size) 34) := ⟨_, rfl⟩
  rw [← hX] at r11 hw4 h03 ⊢
  clear hX hz11 hb11 hE3 hE2 hE1 hB HLk HAw HSm z0 z1 z2 hw2 hli
  have r04 := (h03.block _ (Array.getElem?_eq_some_iff.1 r0).1).trans r0
  have hC0 : X4.cell? ⟨b11, 0, none⟩ = some (.int .u8 c.kind) := box_cell r11 rfl
  go_upto_region 4 with fail
  by_cases hbad : n < 512 ∨ 4096 < n ∨ c.kind = 1
  · have hco : codeOf c cd n = [] := by
      unfold codeOf
      rw [if_neg]
      rintro ⟨h1, h2, _⟩
      rcases hbad with h | h | h
      · omega
      · omega
      · rw [h] at h1; omega
    have hao : ansOf c vc sets soa ttl n = [] := by
      unfold ansOf
      rw [if_neg]
      rintro ⟨⟨h1, h2, _⟩, _⟩
      rcases hbad with h | h | h
      · omega
      · omega
      · rw [h] at h1; omega
    rw [hao] at HOf
    have HC1 := Lib.hid (HCo.out cd X4 hw4)
    rw [hco] at HC1
    have hb3 : n < 512 ∨ (¬ n < 512 ∧ 4096 < n) ∨ (¬ n < 512 ∧ ¬ 4096 < n ∧ (c.kind == 1) = true) := by
      by_cases h1 : n < 512
      · exact .inl h1
      · by_cases h2 : 4096 < n
        · exact .inr (.inl ⟨h1, h2⟩)
        · refine .inr (.inr ⟨h1, h2, ?_⟩)
          rcases hbad with h | h | h
          · exact absurd h h1
          · exact absurd h h2
          · rw [h]; rfl
    clear hbad hco hao hn hcd
    rcases hb3 with h1 | ⟨h1, h2⟩ | ⟨h1, h2, h3⟩
    all_goals
      go_upto_region 5 with fail
      go_wp2_with (first | (refine wpList_load_part (by rfl) 34 (.tmp 11) rfl b11 0 rfl [.int .u8 c.kind, .int .i64 c.code, .int .u16 c.hd.id, .bool c.hd.qr, .int .u8 c.hd.op, .bool c.hd.aa, .bool c.hd.tc, .bool c.hd.rd, .bool c.hd.ra, .bool c.hd.z, .bool c.hd.ad, .bool c.hd.cd, .int .u8 c.hd.code, .bool c.hasQ, S c.q.name, .int .u16 c.q.typ, .int .u16 c.q.cls, .bool c.hasE, .int .i64 c.size] (row_all r11) _ Tryz.underlying34 rfl (by kernel_rfl) ?_) | fail)
      refine HC1.out.mono ?_
      rintro e w5 ⟨rfl, hE5⟩
      have r115 := (hE5.block _ (Array.getElem?_eq_some_iff.1 r11).1).trans r11
      have r05 := (hE5.block _ (Array.getElem?_eq_some_iff.1 r04).1).trans r04
      have z0 : w5.cell? ⟨w.heap.size, 0, none⟩ = some (.int .u8 vc) := box_cell r05 rfl
      have z1 : w5.cell? ⟨w.heap.size, 1, none⟩ = some (.slice sA sps.length sc) := box_cell r05 rfl
      have z2 : w5.cell? ⟨w.heap.size, 2, none⟩ = some (.slice oA ops.length oc) := box_cell r05 rfl
      go_wp2_with (first | (refine wpList_load_part (by rfl) 34 (.tmp 11) rfl b11 0 rfl [.int .u8 c.kind, .int .i64 c.code, .int .u16 c.hd.id, .bool c.hd.qr, .int .u8 c.hd.op, .bool c.hd.aa, .bool c.hd.tc, .bool c.hd.rd, .bool c.hd.ra, .bool c.hd.z, .bool c.hd.ad, .bool c.hd.cd, .int .u8 c.hd.code, .bool c.hasQ, S c.q.name, .int .u16 c.q.typ, .int .u16 c.q.cls, .bool c.hasE, .int .i64 c.size] (row_all r115) _ Tryz.underlying34 rfl (by kernel_rfl) ?_) | fail)
      refine (HOf.out _ (hw4.trans hE5)).mono ?_
      rintro e w6 ⟨rfl, hE6⟩
      go_wp2_with fail
      go_ret
      exact ⟨rfl, (hw4.trans hE5).trans hE6⟩
  have hn1 : ¬ n < 512 := fun h => hbad (.inl h)
  have hn2 : ¬ 4096 < n := fun h => hbad (.inr (.inl h))
  have hk1 : c.kind ≠ 1 := fun h => hbad (.inr (.inr h))
  have f4 : (c.kind == 1) = false := by rw [beq_eq_false_iff_ne]; exact hk1
  have hop : c.hd.op ≤ 15 := by
    rw [(HLo.out.hd hk1).1]
    exact (fromN_id (n16 d 0) (n16 d 2) (n16_lt d 0) (n16_lt d 2)).2.2
  have HFi := Lib.hid (fun k (hk : (0 ≤ k ∧ k ≤ 15) ∨ (c.kind = 2 ∧ k = c.code)) => code_fits HLo.out hk1 (n := n) ⟨by omega, by omega⟩ hk hop)
  clear hbad
  go_upto_region 7 with fail
  obtain ⟨i0, hi0, hz0, hz1, hz2⟩ := info_parts info_i64
  obtain ⟨W7, hW7⟩ : ∃ W7, W7 = X4.alloc (.cells #[.int .i64 (cd % 16)] 3) := ⟨_, rfl⟩
  obtain ⟨gk, hgk⟩ : ∃ gk, gk = X4.heap.size := ⟨_, rfl⟩
  have rk : W7.heap[gk]? = some (.cells #[.int .i64 (cd % 16)] 3) := by rw [hW7, hgk]; exact heap_alloc_new _ _
  have hE7 : Ext X4 W7 := by rw [hW7]; exact (Ext.refl _).alloc _
  have hown : Own W7 X4.heap.size 3 1 (some ⟨gk, 0, none⟩) 1 1 ([cd % 16].map fun k => Value.int .i64 k) := ⟨rfl, .inr ⟨gk, 1, _, rfl, by omega, rk, Nat.le_refl _, by unfold maxLen; decide, rfl, rfl⟩⟩
  have r17 := (hE7.block _ (Array.getElem?_eq_some_iff.1 r11).1).trans r11
  have k0 : W7.cell? ⟨b11, 0, none⟩ = some (.int .u8 c.kind) := box_cell r17 rfl
  have k1 : W7.cell? ⟨b11, 1, none⟩ = some (.int .i64 c.code) := box_cell r17 rfl
  have hz7 : X4.heap.size ≤ W7.heap.size := hE7.size
  rw [← hW7]
  (try rw [← hgk])
  clear hW7 hgk
  have hkk : (c.kind = 2 ∧ ksOf c cd = [cd % 16] ++ [c.code]) ∨ (c.kind ≠ 2 ∧ ksOf c cd = [cd % 16]) := by
    by_cases hk2 : c.kind = 2
    · exact .inl ⟨hk2, by unfold ksOf; rw [if_pos hk2]; rfl⟩
    · exact .inr ⟨hk2, by unfold ksOf; rw [if_neg hk2]⟩
  have hks : ∀ k ∈ ksOf c cd, (0 ≤ k ∧ k ≤ 15) ∨ (c.kind = 2 ∧ k = c.code) := by
    intro k hk
    unfold ksOf at hk
    split at hk
    · rename_i h2
      simp only [List.mem_cons, List.not_mem_nil, or_false] at hk
      rcases hk with rfl | rfl
      · exact .inl (by omega)
      · exact .inr ⟨h2, rfl⟩
    · rw [List.mem_singleton] at hk
      subst hk
      exact .inl (by omega)
  go_upto_if 70 with fail
  go_cut [13] (fun s13 wx => ∃ (A : Option Addr) (cc : Nat), s13 = .slice A (ksOf c cd).length cc ∧ Rd wx 0 1 A (ksOf c cd).length ((ksOf c cd).map fun k => Value.int .i64 k) ∧ Ext X4 wx)
  case first =>
    rcases hkk with ⟨hk2, HK⟩ | ⟨hk2, HK⟩
    · have f2 : (c.kind == 2) = true := by rw [hk2]; rfl
      have HKS := Lib.hid HK
      clear hk2 HK hks
      go_wp2_with (first
        | (at_builtin
           refine wpList_app _ rfl (.tmp 71) (.tmp 74) _ rfl X4.heap.size 3 i0 _ 1 8 Tryz.underlying38 hi0 hz0 hz1 hz2 rfl (by omega) (some ⟨gk, 0, none⟩) 1 1 ([cd % 16].map fun k => Value.int .i64 k) rfl (hown.ext ((Ext.refl _).alloc _)) 0 _ 1 1 ([c.code].map fun k => Value.int .i64 k) rfl (rd_new _ _ (by simp) _ _ 1 1 rfl) (i64_one _) (by omega) (by omega) (by simp; omega) ?_
           intro A6 c6 w6 hown6 hg6 hb6 hat6)
        | fail)
      go_meet
      rw [HKS.out]
      exact ⟨A6, c6, rfl, by rw [List.map_append]; exact hown6.rd.lower (Nat.zero_le _), (hE7.alloc _).then hb6 (Nat.le_refl _)⟩
    · have f2 : (c.kind == 2) = false := by rw [beq_eq_false_iff_ne]; exact hk2
      have HKS := Lib.hid HK
      clear hk2 HK hks
      go_wp2_with fail
      go_meet
      rw [HKS.out]
      exact ⟨_, _, rfl, hown.rd.lower (Nat.zero_le _), hE7⟩
  case rest =>
  obtain ⟨A6, c6, rfl, hkr, hE8⟩ := hcut
  obtain ⟨w6, rfl⟩ : ∃ w6 : World, w6 = wc := ⟨_, rfl⟩
  clear hkk hown k0 k1 rk
  have HKL := Lib.hid (show (ksOf c cd).length ≤ 2 by unfold ksOf; split <;> simp)
  generalize hKS : ksOf c cd = KS at *
  clear hKS

  go_wp2_with fail
  refine fits_loop hg hb HLo.out hk1 hop hcn ⟨by omega, by omega⟩ hwz hw4 hE8 r11 hkr HKL.out hks ?_
  iterate 171 intro _
  intro wo hEL
  have hE : Ext X4 wo := hE8.trans hEL
  have hwo : Ext w wo := hw4.trans hE
  have r11o := (hE.block _ (Array.getElem?_eq_some_iff.1 r11).1).trans r11
  have r04o := (hE.block _ (Array.getElem?_eq_some_iff.1 r04).1).trans r04
  have z0 : wo.cell? ⟨w.heap.size, 0, none⟩ = some (.int .u8 vc) := box_cell r04o rfl
  have z1 : wo.cell? ⟨w.heap.size, 1, none⟩ = some (.slice sA sps.length sc) := box_cell r04o rfl
  have z2 : wo.cell? ⟨w.heap.size, 2, none⟩ = some (.slice oA ops.length oc) := box_cell r04o rfl
  go_wp2_with (first | (refine wpList_load_part (by rfl) 34 (.tmp 11) rfl b11 0 rfl [.int .u8 c.kind, .int .i64 c.code, .int .u16 c.hd.id, .bool c.hd.qr, .int .u8 c.hd.op, .bool c.hd.aa, .bool c.hd.tc, .bool c.hd.rd, .bool c.hd.ra, .bool c.hd.z, .bool c.hd.ad, .bool c.hd.cd, .int .u8 c.hd.code, .bool c.hasQ, S c.q.name, .int .u16 c.q.typ, .int .u16 c.q.cls, .bool c.hasE, .int .i64 c.size] (row_all r11o) _ Tryz.underlying34 rfl (by kernel_rfl) ?_) | fail)
  refine (HOf.out _ hwo).mono ?_
  rintro e wa ⟨rfl, hE5⟩
  clear z0 z1 z2
  rcases hs0 : ansOf c vc sets soa ttl n with _ | ⟨b0, s0⟩
  · go_wp2_with fail
    go_ret
    exact ⟨rfl, hwo.trans hE5⟩
  have hne : ansOf c vc sets soa ttl n ≠ [] := by rw [hs0]; simp
  obtain ⟨hk3, m, hdm, hmq, hmh, hl2, hlr, htk, hd2⟩ := ans_fits HLo.out H.out.ws H.out.wo H.out.ttl hne
  rw [hs0] at hdm hl2 hlr htk
  obtain ⟨s, hs⟩ : ∃ s, s = b0 :: s0 := ⟨_, rfl⟩
  have hse : s.isEmpty = false := by rw [hs]; rfl
  rw [← hs] at hdm hl2 hlr htk ⊢
  clear hs hs0 hne
  have hr2 : roomOf c n ≤ 4096 := by unfold roomOf; split <;> omega
  have HDe := Lib.hid (fun V (hV : Ext w V) => wire_decode s V (hg.ext hV) (hb.ext hV) (by omega))
  have HMd := Lib.hid hdm
  have HMq := Lib.hid hmq
  have HMh := Lib.hid hmh
  have HTk := Lib.hid htk
  clear hdm hmq hmh htk
  go_wp2_with fail
  refine (HDe.out _ (hwo.trans hE5)).mono ?_
  rintro e wb ⟨⟨x, _, hx, _⟩ | ⟨m', q, a, u, x, o, hm, rfl, hMO, hBd⟩, hE6⟩
  · rw [HMd.out] at hx; cases hx
  obtain rfl : m = m' := by have := HMd.out; rw [hm] at this; injection this with this; exact this.symm
  obtain ⟨⟨qA, qc, rfl, hqo⟩, ⟨aA, ac, rfl, _⟩, ⟨uA, uc, rfl, _⟩, ⟨xA, xc, rfl, _⟩, ⟨oA2, oc2, rfl, _⟩⟩ := hMO
  dsimp only
  iterate 10 go_step
  obtain ⟨b20, hb20⟩ : ∃ b20, b20 = wb.heap.size := ⟨_, rfl⟩
  have hz20 : (wb.alloc (.cells msgZ 45)).heap[b20]? = some (.cells msgZ 45) := by rw [hb20]; exact heap_alloc_new _ _
  refine Go.Great.wpList_allocTo rfl (some 20) rfl (.pointer (some ⟨wb.heap.size, 0, none⟩)) (.cells msgZ 45) (by kernel_rfl) ?_
  rw [← hb20]
  refine Go.wpList_store_rowTo rfl 45 (.tmp 20) (.tmp 254) rfl rfl b20 #[.int .u16 m.hd.id, .bool m.hd.qr, .int .u8 m.hd.op, .bool m.hd.aa, .bool m.hd.tc, .bool m.hd.rd, .bool m.hd.ra, .bool m.hd.z, .bool m.hd.ad, .bool m.hd.cd, .int .u8 m.hd.code, .slice qA m.qs.length qc, .slice aA m.ans.length ac, .slice uA m.auth.length uc, .slice xA m.extra.length xc, .bool m.he, .int .u16 m.ed.size, .int .u8 m.ed.ext, .int .u8 m.ed.ver, .int .u16 m.ed.flags, .slice oA2 m.ed.opts.length oc2] rfl rfl 45 _ hz20 (by kernel_rfl) rfl (by kernel_rfl) ?_
  rw [alloc_setRow7 wb msgZ #[.int .u16 m.hd.id, .bool m.hd.qr, .int .u8 m.hd.op, .bool m.hd.aa, .bool m.hd.tc, .bool m.hd.rd, .bool m.hd.ra, .bool m.hd.z, .bool m.hd.ad, .bool m.hd.cd, .int .u8 m.hd.code, .slice qA m.qs.length qc, .slice aA m.ans.length ac, .slice uA m.auth.length uc, .slice xA m.extra.length xc, .bool m.he, .int .u16 m.ed.size, .int .u8 m.ed.ext, .int .u8 m.ed.ver, .int .u16 m.ed.flags, .slice oA2 m.ed.opts.length oc2] 45 b20 hb20]
  iterate 3 go_step
  refine wpList_nil ?_
  rw [← hb20]
  have r20m : (wb.alloc (.cells #[.int .u16 m.hd.id, .bool m.hd.qr, .int .u8 m.hd.op, .bool m.hd.aa, .bool m.hd.tc, .bool m.hd.rd, .bool m.hd.ra, .bool m.hd.z, .bool m.hd.ad, .bool m.hd.cd, .int .u8 m.hd.code, .slice qA m.qs.length qc, .slice aA m.ans.length ac, .slice uA m.auth.length uc, .slice xA m.extra.length xc, .bool m.he, .int .u16 m.ed.size, .int .u8 m.ed.ext, .int .u8 m.ed.ver, .int .u16 m.ed.flags, .slice oA2 m.ed.opts.length oc2] 45)).heap[b20]? = some (.cells #[.int .u16 m.hd.id, .bool m.hd.qr, .int .u8 m.hd.op, .bool m.hd.aa, .bool m.hd.tc, .bool m.hd.rd, .bool m.hd.ra, .bool m.hd.z, .bool m.hd.ad, .bool m.hd.cd, .int .u8 m.hd.code, .slice qA m.qs.length qc, .slice aA m.ans.length ac, .slice uA m.auth.length uc, .slice xA m.extra.length xc, .bool m.he, .int .u16 m.ed.size, .int .u8 m.ed.ext, .int .u8 m.ed.ver, .int .u16 m.ed.flags, .slice oA2 m.ed.opts.length oc2] 45) := by rw [hb20]; exact heap_alloc_new _ _
  have hE7m : Ext wo (wb.alloc (.cells #[.int .u16 m.hd.id, .bool m.hd.qr, .int .u8 m.hd.op, .bool m.hd.aa, .bool m.hd.tc, .bool m.hd.rd, .bool m.hd.ra, .bool m.hd.z, .bool m.hd.ad, .bool m.hd.cd, .int .u8 m.hd.code, .slice qA m.qs.length qc, .slice aA m.ans.length ac, .slice uA m.auth.length uc, .slice xA m.extra.length xc, .bool m.he, .int .u16 m.ed.size, .int .u8 m.ed.ext, .int .u8 m.ed.ver, .int .u16 m.ed.flags, .slice oA2 m.ed.opts.length oc2] 45)) := (hE5.trans hE6).alloc _
  have hqr := (hqo.ext (show Ext wb (wb.alloc (.cells #[.int .u16 m.hd.id, .bool m.hd.qr, .int .u8 m.hd.op, .bool m.hd.aa, .bool m.hd.tc, .bool m.hd.rd, .bool m.hd.ra, .bool m.hd.z, .bool m.hd.ad, .bool m.hd.cd, .int .u8 m.hd.code, .slice qA m.qs.length qc, .slice aA m.ans.length ac, .slice uA m.auth.length uc, .slice xA m.extra.length xc, .bool m.he, .int .u16 m.ed.size, .int .u8 m.ed.ext, .int .u8 m.ed.ver, .int .u16 m.ed.flags, .slice oA2 m.ed.opts.length oc2] 45)) from (Ext.refl _).alloc _)).rd
  obtain ⟨X7, hX⟩ : ∃ X7, X7 = wb.alloc (.cells #[.int .u16 m.hd.id, .bool m.hd.qr, .int .u8 m.hd.op, .bool m.hd.aa, .bool m.hd.tc, .bool m.hd.rd, .bool m.hd.ra, .bool m.hd.z, .bool m.hd.ad, .bool m.hd.cd, .int .u8 m.hd.code, .slice qA m.qs.length qc, .slice aA m.ans.length ac, .slice uA m.auth.length uc, .slice xA m.extra.length xc, .bool m.he, .int .u16 m.ed.size, .int .u8 m.ed.ext, .int .u8 m.ed.ver, .int .u16 m.ed.flags, .slice oA2 m.ed.opts.length oc2] 45) := ⟨_, rfl⟩
  rw [← hX] at r20m hE7m hqr ⊢
  clear hX hz20 hb20 hqo hm hBd
  have r117 := (hE7m.block _ (Array.getElem?_eq_some_iff.1 r11o).1).trans r11o
  have hql : m.qs.length = 1 := by rw [HMq.out]; rfl
  have c11 : X7.cell? ⟨b20, 11, none⟩ = some (.slice qA 1 qc) := by rw [← hql]; exact box_cell r20m rfl
  have c15 : X7.cell? ⟨b20, 15, none⟩ = some (.bool c.hasE) := by rw [← HMh.out]; exact box_cell r20m rfl
  obtain ⟨qb, qo, rfl, _, hbz, hbc⟩ := hqr.2 (by omega)
  obtain ⟨u0, u1, u2⟩ := qus_cells hbc 0 c.q (by rw [HMq.out]; rfl)
  rw [Nat.zero_mul, Nat.add_zero] at u0 u1 u2
  have p0 : X7.cell? ⟨b11, 0, none⟩ = some (.int .u8 3) := by rw [← hk3]; exact box_cell r117 rfl
  have p14 : X7.cell? ⟨b11, 14, none⟩ = some (S c.q.name) := box_cell r117 rfl
  have p15 : X7.cell? ⟨b11, 15, none⟩ = some (.int .u16 c.q.typ) := box_cell r117 rfl
  have p16 : X7.cell? ⟨b11, 16, none⟩ = some (.int .u16 c.q.cls) := box_cell r117 rfl
  have p17 : X7.cell? ⟨b11, 17, none⟩ = some (.bool c.hasE) := box_cell r117 rfl
  have HS23 := Lib.hid (show ∀ V, Ext X7 V → V.cell? ⟨b11, 0, none⟩ = some (.int .u8 3) ∧ V.cell? ⟨b20, 11, none⟩ = some (.slice (some ⟨qb, qo, none⟩) 1 qc) ∧ V.cell? ⟨b20, 15, none⟩ = some (.bool c.hasE) ∧ (V.cell? ⟨qb, qo, none⟩ = some (S c.q.name) ∧ V.cell? ⟨qb, qo + 1, none⟩ = some (.int .u16 c.q.typ) ∧ V.cell? ⟨qb, qo + 2, none⟩ = some (.int .u16 c.q.cls)) ∧ (V.cell? ⟨b11, 14, none⟩ = some (S c.q.name) ∧ V.cell? ⟨b11, 15, none⟩ = some (.int .u16 c.q.typ) ∧ V.cell? ⟨b11, 16, none⟩ = some (.int .u16 c.q.cls)) ∧ V.cell? ⟨b11, 17, none⟩ = some (.bool c.hasE) ∧ V.heap[b11]? = some (.cells (caRow c.kind c.code c.hd c.hasQ c.q c.hasE c.size) 34) from fun V hV => ⟨(hV.cell (cell_ltF p0)).trans p0, (hV.cell (cell_ltF c11)).trans c11, (hV.cell (cell_ltF c15)).trans c15, ⟨(hV.cell (cell_ltF u0)).trans u0, (hV.cell (cell_ltF u1)).trans u1, (hV.cell (cell_ltF u2)).trans u2⟩, ⟨(hV.cell (cell_ltF p14)).trans p14, (hV.cell (cell_ltF p15)).trans p15, (hV.cell (cell_ltF p16)).trans p16⟩, (hV.cell (cell_ltF p17)).trans p17, (hV.block _ (Array.getElem?_eq_some_iff.1 r117).1).trans r117⟩)
  clear c11 c15 u0 u1 u2 p0 p14 p15 p16 p17 hbc hbz hql
  have htk := HTk.out
  have p3i : (2 : Int) ≤ (s.length : Int) := by omega
  have p8i : (2 : Int) ≤ (d.length : Int) := by omega
  have p4i : (s.length : Int) ≤ roomOf c n := by omega
  have p3d : decide ((2 : Int) ≤ (s.length : Int)) = true := decide_eq_true p3i
  have p8d : decide ((2 : Int) ≤ (d.length : Int)) = true := decide_eq_true p8i
  have p4d : decide ((s.length : Int) ≤ roomOf c n) = true := decide_eq_true p4i
  have HRo := Lib.hid (fun V => int_room c n V)
  clear HMd HDe HFi HCo HOf
  go_upto_region 23 with fail
  go_cut [10] (fun s10 wx => s10 = .bool true ∧ Ext X7 wx)
  case first =>
    refine fits_r23 X7 HS23.out hn hwz (by omega) (by omega) (by omega) htk ?_
    iterate 54 intro _
    intro V hV
    go_wp2_with fail
    go_meet
    exact ⟨rfl, hV⟩

  case rest =>
    obtain ⟨rfl, hE9⟩ := hcut
    go_wp2_with fail
    go_ret
    exact ⟨rfl, (hwo.trans hE7m).trans hE9⟩
end Go.Proofs.YtdnpmapelmjfpaaGreatDoor
namespace Go.Proofs.YtdnpmapelmjfpaaGreatDoor
set_option linter.unusedSimpArgs false
set_option linter.unusedVariables false
open Go.ChangeShapes Go.WideShapes Go.RowKit Go.Deep Go.Joins
set_option maxRecDepth 100000
theorem wf_u8c {n : Int} (h : (Lit.int .u8 n).wf = true) : 0 ≤ n ∧ n ≤ 255 := by
  have h1 : IntKind.u8.min = 0 := rfl
  have h2 : IntKind.u8.max = 255 := rfl
  simp [Lit.wf] at h; omega
theorem some_atc {α : Type} {l : List α} {n j : Nat} (h : l.length = n) (hj : j < n) : ∃ x, l[j]? = some x := ⟨l[j]'(by omega), List.getElem?_eq_getElem _⟩
theorem bytes_set7 : Tryz.prog.bytesOf 79 = 48 := by kernel_rfl
theorem weights_row7 {H : Type} {d : DataW H} {elems sp : List (DataW H)} (h : d = .slice elems sp) : (elems.length + sp.length) * 48 ∈ d.weights Tryz.prog 22 := by
  subst h
  simp only [DataW.weights, Tryz.underlying22, bytes_set7, List.mem_cons, true_or]
theorem sets_trod7 {H : Type} {enc : TypeId × Value → H} {W : World} {fuel : Nat} {v : Value} {y : DataW H × List MemPlace}
    (hf : DataW.trod enc Tryz.prog W 0 (fun _ => true) true fuel 22 [v] = some y) :
    ∃ l : List SetD, Sets W 0 v l ∧ (∀ s ∈ l, SetIn s ∧ s.name.length ∈ y.1.weights Tryz.prog 22 ∧ ∀ x ∈ s.data, x.length ∈ y.1.weights Tryz.prog 22) ∧ (l.length = 0 ∨ ∃ m, m ∈ y.1.weights Tryz.prog 22 ∧ l.length ≤ m) := by
  rcases open_slice_fields Tryz.underlying22 Tryz.underlying79 (by kernel_rfl) (by kernel_rfl) hf with ⟨e, _⟩ | ⟨a, len, cap, m, D, Pl, e, _, hl, hm, hmm, hdp, hi⟩
  · simp only [List.cons.injEq, and_true] at e
    rw [e]
    exact ⟨[], ⟨[], none, 0, rfl, rfl, Nat.le_refl _, by unfold maxLen; omega, Rd.nil _ _ _ _, by simp⟩, by simp, .inl rfl⟩
  · simp only [List.cons.injEq, and_true] at e
    rw [e]
    have hmc : len ≤ m := by rw [hmm]; split <;> omega
    have hdd := (Prod.mk.inj hdp).1
    obtain ⟨l, hll, hq⟩ := pick ((SetD.zero, .slice none 0 0) : SetD × Value) len (fun i r => (W.cell? (a.add (i * 5 + 0)) = some (S r.1.name) ∧ W.cell? (a.add (i * 5 + 1)) = some (.int .u16 r.1.typ) ∧ W.cell? (a.add (i * 5 + 2)) = some (.int .u16 r.1.cls) ∧ W.cell? (a.add (i * 5 + 3)) = some (.int .u32 r.1.ttl) ∧ W.cell? (a.add (i * 5 + 4)) = some r.2) ∧ Strs W 0 r.2 r.1.data ∧ SetIn r.1 ∧ r.1.name.length ∈ y.1.weights Tryz.prog 22 ∧ ∀ x ∈ r.1.data, x.length ∈ y.1.weights Tryz.prog 22) (fun i hi' => by
      obtain ⟨ys, n, hD, _, _, hy⟩ := hi i (by omega)
      obtain ⟨v0, y0, c0, g0, t0⟩ := hy 0 _ rfl
      obtain ⟨v1, y1, c1, _, t1⟩ := hy 1 _ rfl
      obtain ⟨v2, y2, c2, _, t2⟩ := hy 2 _ rfl
      obtain ⟨v3, y3, c3, _, t3⟩ := hy 3 _ rfl
      obtain ⟨v4, y4, c4, g4, t4⟩ := hy 4 _ rfl
      obtain ⟨s, e0, z0, hs⟩ := DataW.trod_string Tryz.underlying9 t0
      obtain ⟨x1, e1, _, w1⟩ := DataW.trod_int Tryz.underlying26 t1
      obtain ⟨x2, e2, _, w2⟩ := DataW.trod_int Tryz.underlying26 t2
      obtain ⟨x3, e3, _, w3⟩ := DataW.trod_int Tryz.underlying25 t3
      obtain ⟨sl, hsl, hsw⟩ := open_strs t4
      injection e0 with e0 _
      injection e1 with e1 _
      injection e2 with e2 _
      injection e3 with e3 _
      subst e0 e1 e2 e3
      rw [S_of] at c0
      have hmem : D i ∈ (List.range len).map D := List.mem_map.2 ⟨i, List.mem_range.2 hi', rfl⟩
      refine ⟨(⟨s.data.toList, x1, x2, x3, sl⟩, v4), ⟨c0, c1, c2, c3, c4⟩, hsl, ⟨wf_u16 w1, wf_u16 w2, wf_u32 w3⟩, ?_, fun x hx => ?_⟩
      · rw [hdd]
        refine weights_elem Tryz.underlying22 hmem ?_
        rw [hD]
        refine weights_field (j := 0) (d := y0.1) Tryz.underlying79 rfl (by simp [g0]) ?_
        rw [z0]; exact weights_str _ s
      · rw [hdd]
        refine weights_elem Tryz.underlying22 hmem ?_
        rw [hD]
        exact weights_field (j := 4) (d := y4.1) Tryz.underlying79 rfl (by simp [g4]) (hsw x hx))
    subst hll
    refine ⟨l.map Prod.fst, ⟨l, some a, cap, rfl, rfl, hl, hm, ?_, fun p hp => ?_⟩, fun s hs => ?_, .inr ⟨_, weights_row7 (by rw [hdd]), by simp only [List.length_map, List.length_range]; omega⟩⟩
    · refine ⟨flatS_len l, fun h0 => ?_⟩
      have hz := (hq 0 h0).1.1
      rw [show a.add (0 * 5 + 0) = a from rfl] at hz
      obtain ⟨ea, hb⟩ := spot_of hz
      refine ⟨a.block, a.off, by rw [← ea], Nat.zero_le _, hb, sets_of fun i hi' => ?_⟩
      have := (hq i hi').1
      rw [ea] at this
      simp only [add_none] at this
      exact this
    · obtain ⟨i, hi', rfl⟩ := List.getElem_of_mem hp
      exact (hq i hi').2.1
    · obtain ⟨p, hp, rfl⟩ := List.mem_map.1 hs
      obtain ⟨i, hi', rfl⟩ := List.getElem_of_mem hp
      exact (hq i hi').2.2
theorem open_verdict7 {H : Type} {enc : TypeId × Value → H} {W : World} {r : Reach} {b0 : Nat} {v : Value} {d : DataW H} {p : List MemPlace}
    (hv : Value.okWide Tryz.prog W r b0 24 v) (h : DataW.Trod enc Tryz.prog W 0 (fun _ => true) true 24 v d p) :
    ∃ (code : Int) (vs vo : Value) (ss oo : List SetD), v = .agg #[.int .u8 code, vs, vo] ∧ Sets W 0 vs ss ∧ Sets W 0 vo oo ∧ (0 ≤ code ∧ code ≤ 255) ∧
      (∀ s ∈ ss ++ oo, SetIn s ∧ s.name.length ∈ d.weights Tryz.prog 24 ∧ ∀ x ∈ s.data, x.length ∈ d.weights Tryz.prog 24) ∧
      (ss.length = 0 ∨ ∃ m, m ∈ d.weights Tryz.prog 24 ∧ ss.length ≤ m) ∧ (oo.length = 0 ∨ ∃ m, m ∈ d.weights Tryz.prog 24 ∧ oo.length ≤ m) := by
  obtain ⟨cs, rfl, hsz⟩ := okWide_struct Tryz.underlying24 hv
  obtain ⟨l⟩ := cs
  have hC : Tryz.prog.cellsOf 24 = 3 := by kernel_rfl
  match l, hsz.trans hC with
  | [c0, c1, c2], _ =>
    obtain ⟨fuel, hf⟩ := h
    obtain ⟨xs, n, _, hd, _, hlen, hg⟩ := DataW.trod_struct Tryz.underlying24 hf
    have hd1 := (Prod.mk.inj hd).1
    obtain ⟨y0, hy0⟩ := some_atc hlen (show 0 < _ by decide)
    obtain ⟨y1, hy1⟩ := some_atc hlen (show 1 < _ by decide)
    obtain ⟨y2, hy2⟩ := some_atc hlen (show 2 < _ by decide)
    have g0 : DataW.trod enc Tryz.prog W 0 (fun _ => true) true n 5 ((([c0, c1, c2] : List Value).drop 0).take (Tryz.prog.cellsOf 5)) = some y0 := (hg 0 _ rfl).trans hy0
    have g1 : DataW.trod enc Tryz.prog W 0 (fun _ => true) true n 22 ((([c0, c1, c2] : List Value).drop 1).take (Tryz.prog.cellsOf 22)) = some y1 := (hg 1 _ rfl).trans hy1
    have g2 : DataW.trod enc Tryz.prog W 0 (fun _ => true) true n 22 ((([c0, c1, c2] : List Value).drop 2).take (Tryz.prog.cellsOf 22)) = some y2 := (hg 2 _ rfl).trans hy2
    rw [show Tryz.prog.cellsOf 5 = 1 by kernel_rfl] at g0
    rw [show Tryz.prog.cellsOf 22 = 1 by kernel_rfl] at g1 g2
    simp only [List.drop_succ_cons, List.drop_zero, List.take_succ_cons, List.take_zero] at g0 g1 g2
    obtain ⟨x, e0, _, w0⟩ := DataW.trod_int Tryz.underlying5 g0
    simp only [List.cons.injEq, and_true] at e0
    subst e0
    obtain ⟨ss, hs, hsw, hsl⟩ := sets_trod7 g1
    obtain ⟨oo, ho, how, hol⟩ := sets_trod7 g2
    have up1 : ∀ {m : Nat}, m ∈ y1.1.weights Tryz.prog 22 → m ∈ d.weights Tryz.prog 24 := fun hm => by
      rw [hd1]; exact weights_field (j := 1) (d := y1.1) Tryz.underlying24 rfl (by simp [hy1]) hm
    have up2 : ∀ {m : Nat}, m ∈ y2.1.weights Tryz.prog 22 → m ∈ d.weights Tryz.prog 24 := fun hm => by
      rw [hd1]; exact weights_field (j := 2) (d := y2.1) Tryz.underlying24 rfl (by simp [hy2]) hm
    refine ⟨x, c1, c2, ss, oo, rfl, hs, ho, wf_u8c w0, fun s hm => ?_, ?_, ?_⟩
    · rcases List.mem_append.1 hm with hm | hm
      · exact ⟨(hsw s hm).1, up1 (hsw s hm).2.1, fun x hx => up1 ((hsw s hm).2.2 x hx)⟩
      · exact ⟨(how s hm).1, up2 (how s hm).2.1, fun x hx => up2 ((how s hm).2.2 x hx)⟩
    · exact hsl.imp id fun ⟨m, h1, h2⟩ => ⟨m, up1 h1, h2⟩
    · exact hol.imp id fun ⟨m, h1, h2⟩ => ⟨m, up2 h1, h2⟩
end Go.Proofs.YtdnpmapelmjfpaaGreatDoor
namespace Go.Proofs.YtdnpmapelmjfpaaGreatDoor
set_option linter.unusedSimpArgs false
set_option linter.unusedVariables false
open Go.ChangeShapes Go.WideShapes Go.RowKit Go.Deep Go.Joins
set_option maxRecDepth 100000
section
variable {H : Type} {enc : TypeId × Value → H} {P : Program} {w : World} {base : Nat} {spare : Nat → Bool} {held : Bool}
theorem trodAll_five {t0 t1 t2 t3 t4 : TypeId} {args : Array Value} {ds : List (DataW H)} {ps : List MemPlace} (h : DataW.TrodAll enc P w base spare held [t0, t1, t2, t3, t4] args.toList ds ps) :
    ∃ v0 v1 v2 v3 v4 d0 d1 d2 d3 d4 p0 p1 p2 p3 p4, args = #[v0, v1, v2, v3, v4] ∧ ds = [d0, d1, d2, d3, d4] ∧ ps = p0 ++ p1 ++ p2 ++ p3 ++ p4 ∧ DataW.Trod enc P w base spare held t0 v0 d0 p0 ∧ DataW.Trod enc P w base spare held t1 v1 d1 p1 ∧ DataW.Trod enc P w base spare held t2 v2 d2 p2 ∧ DataW.Trod enc P w base spare held t3 v3 d3 p3 ∧ DataW.Trod enc P w base spare held t4 v4 d4 p4 := by
  obtain ⟨v0, vs0, d0, ds0, p0, q0, hargs, rfl, rfl, h0, r0⟩ := trodAll_cons h
  obtain ⟨v1, vs1, d1, ds1, p1, q1, rfl, rfl, rfl, h1, r1⟩ := trodAll_cons r0
  obtain ⟨v2, vs2, d2, ds2, p2, q2, rfl, rfl, rfl, h2, r2⟩ := trodAll_cons r1
  obtain ⟨v3, vs3, d3, ds3, p3, q3, rfl, rfl, rfl, h3, r3⟩ := trodAll_cons r2
  obtain ⟨v4, vs4, d4, ds4, p4, q4, rfl, rfl, rfl, h4, r4⟩ := trodAll_cons r3
  obtain ⟨rfl, rfl, rfl⟩ := trodAll_nil r4
  exact ⟨v0, v1, v2, v3, v4, d0, d1, d2, d3, d4, p0, p1, p2, p3, p4, by cases args; simp_all, rfl, by simp, h0, h1, h2, h3, h4⟩
end
end Go.Proofs.YtdnpmapelmjfpaaGreatDoor
namespace Go.Proofs.YtdnpmapelmjfpaaGreatDoor
set_option linter.unusedSimpArgs false
set_option linter.unusedVariables false
open Go.ChangeShapes Go.WideShapes Go.RowKit Go.Deep Go.Joins
set_option maxRecDepth 100000
theorem open_u8r {H : Type} {enc : TypeId × Value → H} {W : World} {r : Reach} {b0 : Nat} {v : Value} {d : DataW H} {p : List MemPlace}
    (hv : Value.okWide Tryz.prog W r b0 5 v) (h : DataW.Trod enc Tryz.prog W 0 (fun _ => true) true 5 v d p) : ∃ n : Int, v = .int .u8 n ∧ 0 ≤ n ∧ n ≤ 255 := by
  obtain ⟨n, rfl⟩ := okWide_int Tryz.underlying5 hv
  obtain ⟨fuel, hf⟩ := h
  obtain ⟨x, e, _, wf⟩ := DataW.trod_int Tryz.underlying5 hf
  simp only [Value.cells, List.cons.injEq, and_true] at e
  injection e with _ e
  subst e
  exact ⟨n, rfl, wf_u8c wf⟩
end Go.Proofs.YtdnpmapelmjfpaaGreatDoor
namespace Go.Proofs.YtdnpmapelmjfpaaGreatDoor
set_option linter.unusedSimpArgs false
set_option linter.unusedVariables false
open Go.ChangeShapes Go.WideShapes Go.ChangeAt Go.RowKit
set_option maxRecDepth 100000
theorem answerFits_contract (H : Type) (enc : TypeId × Value → H) (W : World) (base : Nat) (args : Array Value) (ds gs : List (DataW H)) (before : List MemPlace)
    (hval : ∀ (j : Nat) t v, Tryz.f3.params[j]? = some t → args[j]? = some v → Value.okWide Tryz.prog W .any base t v)
    (hW : DataW.Whole enc Tryz.prog Tryz.f3.params.toList Rows.answerFitsSpec.vars false W args.toList ds gs before)
    (hsz : (DataW.weightsEach Tryz.prog (Tryz.f3.params.toList ++ (OpenSpec.ofChange Rows.answerFitsSpec).bare.plain.varTypes Tryz.prog) (ds ++ gs)).all (· ≤ reachBytes) = true)
    (hL : laidMetH Tryz.prog laidL W) :
    Calls Tryz.prog 3 args W fun e W' => ∃ v, e = .returned v ∧ Rows.answerFitsSpec.post enc Tryz.prog Tryz.f3 false true false false W args v W' := by
  have hW' := hW
  have hp : ∀ t ∈ Tryz.f3.params.toList, Tryz.prog.readableRec t = true ∧ t < Tryz.prog.types.size := by
    have h : (Tryz.f3.params.toList.all fun t => Tryz.prog.readableRec t && decide (t < Tryz.prog.types.size)) = true := by kernel_rfl
    simpa only [List.all_eq_true, Bool.and_eq_true, decide_eq_true_eq] using h
  have hg := laid_of hL
  have hb := laidbits_of hL
  obtain ⟨p, q, hA0, hV, rfl, _, _⟩ := hW
  have hA : DataW.TrodAll enc Tryz.prog W 0 (fun _ => true) true Tryz.f3.params.toList args.toList ds p := hA0
  clear hA0
  rw [Tryz.params3] at hA hval hsz
  obtain ⟨rfl, rfl⟩ := trodVars_none hV
  obtain ⟨v0, v1, v2, v3, v4, d0, d1, d2, d3, d4, p0, p1, p2, p3, p4, rfl, rfl, rfl, h0, h1, h2, h3, h4⟩ := trodAll_five hA
  obtain ⟨n, rfl, hn⟩ := open_str (hval 0 _ _ rfl rfl) h0
  obtain ⟨cd, rfl, hc1, hc2⟩ := open_u8r (hval 1 _ _ rfl rfl) h1
  obtain ⟨vc, vs, vo, ss, oo, rfl, hvs, hvo, hvc, hin, _, _⟩ := open_verdict7 (hval 2 _ _ rfl rfl) h2
  obtain ⟨tl, rfl, ht1, ht2⟩ := open_u32 (hval 3 _ _ rfl rfl) h3
  obtain ⟨sz, rfl, hs1, hs2⟩ := open_u16 (hval 4 _ _ rfl rfl) h4
  refine (law28_fits n cd vc tl sz vs vo ss oo W hg hb ⟨hn, hvc, ⟨ht1, ht2⟩, hvs, hvo, fun s hs => ⟨(hin s (List.mem_append.2 (.inl hs))).1.1, (hin s (List.mem_append.2 (.inl hs))).1.2.1⟩, fun s hs => ⟨(hin s (List.mem_append.2 (.inr hs))).1.1, (hin s (List.mem_append.2 (.inr hs))).1.2.1⟩⟩ ⟨hc1, hc2⟩ ⟨hs1, hs2⟩).mono ?_
  rintro e W' ⟨rfl, hE⟩
  exact ⟨_, rfl, post_true laid_out rfl (by kernel_rfl) Tryz.underlying4 hp hW' rfl hE⟩

theorem answerFits_reads (os : Os) {H : Type} (enc : TypeId × Value → H) : ∃ places, DataW.whole enc Tryz.prog ((laidWorld os).forCall (fun _ _ => 0) ⟨#[], #[.string ⟨#[]⟩, .int .u8 0, .agg #[.int .u8 0, .slice none 0 0, .slice none 0 0], .int .u32 0, .int .u16 0], []⟩).memory Tryz.f3.params.toList Rows.answerFitsSpec.vars false (#[.string ⟨#[]⟩, .int .u8 0, .agg #[.int .u8 0, .slice none 0 0, .slice none 0 0], .int .u32 0, .int .u16 0] : Array Value).toList 8 = some ([.lit (.string []), .lit (.int .u8 0), .agg [.lit (.int .u8 0), .nil, .nil], .lit (.int .u32 0), .lit (.int .u16 0)], [], places) :=
  ⟨[], by kernel_rfl⟩
theorem answerFits_lifted (os : Os) (started : os.Started) (H : Type) (enc : TypeId × Value → H) (F : Stop.Interp) :
    ReturnsInHanded {} Tryz.checked os 3 .any ((OpenSpec.ofChange Rows.answerFitsSpec).preRow enc Tryz.prog Tryz.f3 Rows.answerFitsRow.domain false Rows.answerFitsRow.laid) (((OpenSpec.ofChange Rows.answerFitsSpec).at F).post enc Tryz.prog Tryz.f3 false true false false) := by
  obtain ⟨places, hx⟩ := answerFits_reads os enc
  refine returnsInHanded_of_row (C := Tryz.checked) (s := OpenSpec.ofChange Rows.answerFitsSpec) own_knob started (by kernel_rfl) Tryz.func3
    (witness_row_at (enc := enc) (C := Tryz.checked) false (laidWorld os) #[.string ⟨#[]⟩, .int .u8 0, .agg #[.int .u8 0, .slice none 0 0, .slice none 0 0], .int .u32 0, .int .u16 0] rfl (by kernel_rfl) (by kernel_rfl) (by kernel_rfl)
      (OpenSpec.preRow_of_cond 8 hx (by kernel_rfl) (fun k hk => by cases hk) (by kernel_rfl) (laid_met os _))) ?_
  intro W base args ds gs before hval hW _ _ hsz hL _ _
  exact answerFits_contract H enc W base args ds gs before hval hW hsz hL
theorem band_card (a b : Bool) (h1 : a = true) (h2 : b = true) : (a && b) = true := by rw [h1, h2]; rfl
set_option maxHeartbeats 4000000 in
theorem answerFits_joined : joinedFacts Tryz.prog 3 Tryz.f3 (OpenSpec.ofChange Rows.answerFitsSpec).bare Rows.answerFitsRow = true := by
  unfold joinedFacts; repeat' (with_reducible refine band_card _ _ ?_ ?_)
  all_goals (as_aux_lemma => kernel_rfl)
set_option maxHeartbeats 4000000 in
theorem answerFits_said : Rows.AnswerFitsSaid :=
  OpenClaim.holds_of_cond 3 Tryz.f3 rfl rfl rfl rfl rfl rfl rfl ⟨rfl, rfl, rfl, rfl, rfl⟩ rfl rfl rfl rfl rfl (by kernel_rfl) Tryz.func3 answerFits_joined
    (of_decide_eq_true (by kernel_rfl)) (by unfold Func.isWrapper; first | (rw [if_pos (by decide +kernel)]; kernel_rfl) | (rw [if_neg (by decide +kernel)]; exact ⟨rfl, rfl⟩))
    (fun os started H enc _ F => by rw [OpenClaim.pre_eq_preRow]; exact answerFits_lifted os started H enc F)
theorem answerFits_card : Rows.AnswerFitsCardSaid :=
  Claim7.holds_tied_plain_at .later [] _ _ _ _ answerFits_said (fun _ h => by cases h) (by as_aux_lemma => kernel_rfl) (fun _ h => by cases h) answerFits_row_tie rfl ⟨rfl, rfl⟩ (by as_aux_lemma => kernel_rfl) rfl
    (fun f fn hf hfn => by
      obtain rfl : f = 3 := Option.some.inj ((show Tryz.prog.funcNamed Rows.answerFitsRow.func = some 3 by kernel_rfl).symm.trans hf) |>.symm
      obtain rfl : fn = Tryz.f3 := (Option.some.inj (Tryz.func3.symm.trans hfn)).symm
      refine ⟨by kernel_rfl, fun j t ht => ?_⟩
      have h : (Tryz.f3.params.toList.all fun t => !Tryz.prog.wantsStandIn t) = true := by kernel_rfl
      have h2 := List.all_eq_true.1 h t (by simpa using Array.mem_of_getElem? ht)
      exact (by simpa using h2 : Tryz.prog.wantsStandIn t = false))
    (by as_aux_lemma => kernel_rfl)
#print axioms answerFits_card
end Go.Proofs.YtdnpmapelmjfpaaGreatDoor
