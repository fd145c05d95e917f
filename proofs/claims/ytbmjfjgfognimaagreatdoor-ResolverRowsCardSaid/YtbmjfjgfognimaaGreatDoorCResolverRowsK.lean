/- hustingslaw30.ResolverRows returns true for every input, and every argument reads behind the call as it read before; the listed variables are tied to the program's text. No condition of ours. -/
import Derived.Test.YtbmjfjgfognimaaGreatDoorCards
import Derived.Test.YtbmjfjgfognimaaGreatDoorTie
import Derived.Test.YtbmjfjgfognimaaGreatDoorKb
import Derived.ProofKit
import Derived.OpenShut
import Derived.LaidHandle
import Derived.LaidLaws
import Derived.Test.YtbmjfjgfognimaaGreatDoorKwy
import Derived.Deep.DeepHandedRow
import Derived.Test.YtbmjfjgfognimaaGreatDoorKg
import Derived.Test.YtbmjfjgfognimaaGreatDoorKj
import Derived.Deep.RegionHeld3
import Derived.Test.YtbmjfjgfognimaaGreatDoorKrs
import Derived.Test.YtbmjfjgfognimaaGreatDoorKe
import Derived.Test.YtbmjfjgfognimaaGreatDoorKhx
import Derived.Test.YtbmjfjgfognimaaGreatDoorKpr
import Derived.Test.YtbmjfjgfognimaaGreatDoorKl3
import Derived.BigRegion
import Derived.Test.YtbmjfjgfognimaaGreatDoorKry
import Derived.Carry
namespace Go.Proofs.YtbmjfjgfognimaaGreatDoor
set_option linter.unusedSimpArgs false
set_option linter.unusedVariables false
open Go.ChangeShapes Go.WideShapes Go.ChangeAt Go.RowKit
set_option maxRecDepth 100000

theorem own_knob : ownKnob Tryz.prog.godebug = none := by kernel_rfl
theorem et_at : Tryz.prog.globalNamed "errors.errorType" = some 3 := by kernel_rfl
theorem one_row : ((List.range Tryz.prog.types.size).filter fun t => Tryz.prog.rowNamed t [101, 114, 114, 111, 114]) = [160] := by kernel_rfl
def laidL : List (String × DataW Unit) := [("errors.errorType", Rows.laid_errors_errorType), ("hustings/head.bits", Rows.laid_hustings_head_bits)]

theorem laid_of {W : World} (h : laidMetH Tryz.prog laidL W) : Laid W := by
  have h' : laidMet Tryz.prog [("hustings/head.bits", Rows.laid_hustings_head_bits)] W ∧ handlesMet Tryz.prog [("errors.errorType", Rows.laid_errors_errorType)] W := h
  obtain ⟨name, u, ty, e1, e2, e3, e4, e5⟩ := h'.2 _ (List.mem_singleton.2 rfl)
  have en : name = [101, 114, 114, 111, 114] := (Option.some.inj e1).symm
  subst en
  obtain rfl : u = 322 := Option.some.inj (e2.symm.trans (by kernel_rfl))
  have hm : ty ∈ (List.range Tryz.prog.types.size).filter fun t => Tryz.prog.rowNamed t [101, 114, 114, 111, 114] := List.mem_filter.2 ⟨List.mem_range.2 e3, e4⟩
  rw [one_row] at hm
  obtain rfl := List.mem_singleton.1 hm
  have hh : typeHandle Tryz.prog 160 = hdl 160 := by kernel_rfl
  rw [hh] at e5
  show W.cell? ⟨3, 0, none⟩ = _
  simpa using World.var?_cell et_at e5 0

theorem bits_at : Tryz.prog.globalNamed "hustings/head.bits" = some 2 := by kernel_rfl
theorem one_cell {l : List Value} {i : Nat} {v : Value} (h : (l.drop i).take 1 = [v]) : l[i]? = some v := by
  have h1 := congrArg (fun x : List Value => x[0]?) h
  simpa using h1
def bitsL : List Int := [32768, 1024, 512, 256, 128, 64, 32, 16]
theorem laidbits_of {W : World} (h : laidMetH Tryz.prog laidL W) : BitsAt W := by
  have h' : laidMet Tryz.prog [("hustings/head.bits", Rows.laid_hustings_head_bits)] W ∧ handlesMet Tryz.prog [("errors.errorType", Rows.laid_errors_errorType)] W := h
  obtain ⟨ps, hlv, _, _⟩ := h'.1
  obtain ⟨g, t, cs, fuel, p, q, e1, e2, e3, e4, _, _⟩ := hlv
  obtain rfl : 2 = g := Option.some.inj (bits_at.symm.trans e1)
  obtain rfl : 260 = t := Option.some.inj ((show (Tryz.prog.globals[2]?).map (·.type) = some 260 by kernel_rfl).symm.trans e2)
  obtain ⟨xs, n, _, hd, _, hlen, hf⟩ := DataW.trod_array Tryz.underlying260 e4
  have hd1 := (Prod.mk.inj hd).1
  have key : ∀ i, i < 8 → cs.toList[i]? = some (.int .u16 (bitsL.getD i 0)) := fun i hi => by
    have hx : (xs.map (·.1))[i]? = some (.lit (.int .u16 (bitsL.getD i 0))) := by
      have h1 : xs.map (·.1) = bitsL.map fun k => (.lit (.int .u16 k) : DataW Unit) := by
        injection hd1 with h1
        exact h1.symm
      rw [h1, List.getElem?_map, List.getElem?_eq_getElem (show i < bitsL.length from hi)]
      simp [List.getD, List.getElem?_eq_getElem (show i < bitsL.length from hi)]
    rw [List.getElem?_map] at hx
    obtain ⟨y, hy1, hy2⟩ := Option.map_eq_some_iff.1 hx
    have h2 := (hf i hi).trans hy1
    rw [show Tryz.prog.cellsOf 26 = 1 by kernel_rfl, Nat.mul_one] at h2
    obtain ⟨m, g1, g2, _⟩ := DataW.trod_int Tryz.underlying26 h2
    rw [g2] at hy2
    have hm : m = bitsL.getD i 0 := by
      injection hy2 with hy2
      injection hy2
    rw [← hm]
    exact one_cell g1
  have key2 : ∀ i, i < 8 → W.cell? ⟨2, i, none⟩ = some (.int .u16 (bitsL.getD i 0)) := fun i hi => by
    rw [World.var?_cell bits_at e3 i]
    simpa using key i hi
  exact ⟨key2 0 (by omega), key2 1 (by omega), key2 2 (by omega), key2 3 (by omega), key2 4 (by omega), key2 5 (by omega), key2 6 (by omega), key2 7 (by omega)⟩
noncomputable def laidWorld (os : Os) : World :=
  let w0 := World.holding Tryz.prog os ⟨#[], #[], []⟩
  { w0 with heap := (w0.heap.modify 3 fun
      | .cells _ t frozen => .cells #[errTy] t frozen
      | o => o).modify 2 fun
      | .cells _ t frozen => .cells #[.int .u16 32768, .int .u16 1024, .int .u16 512, .int .u16 256, .int .u16 128, .int .u16 64, .int .u16 32, .int .u16 16] t frozen
      | o => o }
theorem laid_met (os : Os) (args : Array Value) : laidMetH Tryz.prog laidL ((laidWorld os).forCall (fun _ _ => 0) ⟨#[], args, []⟩).memory :=
  laidMetH_of_parts (laidMet_of_run' 8 (by kernel_rfl) (by kernel_rfl)) (by kernel_rfl)

section
variable {H : Type} {enc : TypeId × Value → H} {P : Program}
theorem trodAll_stays (hl : laidOutB P = true) {W W' : World} (hb : Below W.heap.size W W') {sp : Nat → Bool} : ∀ {ts : List TypeId} {vs : List Value} {ds : List (DataW H)} {ps : List MemPlace},
    (∀ t ∈ ts, P.readableRec t = true ∧ t < P.types.size) → DataW.TrodAll enc P W 0 (fun _ => true) true ts vs ds ps → (∀ x ∈ ps, x.block < W.heap.size) → (∀ x ∈ ps, sp x.block = true) → DataW.TrodAll enc P W' 0 sp true ts vs ds ps
  | [], _, _, _, _, h, _, _ => by obtain ⟨rfl, rfl, rfl⟩ := trodAll_nil h; exact trodAll_mk0
  | t :: ts, _, _, _, ht, h, hlt, hs => by
    obtain ⟨v, vs, d, ds, p, q, rfl, rfl, rfl, h0, h1⟩ := trodAll_cons h
    have h2 := ht t (by simp)
    exact trodAll_cons_mk (WideElems.Trod_stays hl h2.1 h2.2 h0 (fun x hx => hb.same (hlt x (by simp [hx]))) (fun x hx => hs x (by simp [hx])))
      (trodAll_stays hl hb (fun t ht' => ht t (by simp [ht'])) h1 (fun x hx => hlt x (by simp [hx])) (fun x hx => hs x (by simp [hx])))
theorem post_of_below {f : Func} {s : ChangeSpec} {apart fresh handsOn again : Bool} {W W' : World} {args : Array Value} {v : Value} {ds gs : List (DataW H)} {before pa pv : List MemPlace}
    (hW : DataW.Whole enc P f.params.toList s.vars apart W args.toList ds gs before)
    (hres : ∀ (b : Nat) (sp : Nat → Bool) (hd : Bool), DataW.TrodAll enc P W' b sp hd f.resultTypes.toList (v.resultList f.resultTypes.size) (s.fn H (ds ++ gs)).results [])
    (hargs : ∀ sp : Nat → Bool, (∀ p ∈ before, sp p.block = true) → DataW.TrodAll enc P W' 0 sp true f.params.toList args.toList (s.fn H (ds ++ gs)).args pa)
    (hvars : ∀ sp : Nat → Bool, (∀ p ∈ before, sp p.block = true) → DataW.TrodVars enc P W' sp s.vars (s.fn H (ds ++ gs)).vars pv)
    (hps : before = pa ++ pv) (hb : Below W.heap.size W W')
    (hok : ∀ (j : Nat) (t : TypeId) (r : Value), f.resultTypes[j]? = some t → (v.resultList f.resultTypes.size)[j]? = some r → Value.okWide P W' .any 0 t r) :
    s.post enc P f apart fresh handsOn again W args v W' := by
  have hlt : ∀ p ∈ before, p.block < W.heap.size := fun p hp => hW.lt p hp
  have hold : ∀ p ∈ before, (fun b => decide (b < W.heap.size)) p.block = true := fun p hp => by simpa using hlt p hp
  refine ⟨ds, gs, before, [], pa, pv, hW, hres _ _ _, hargs _ hold, hvars _ hold, World.keptBut_mono (fun p hp => ⟨hp, ?_⟩) (hb.frame (· ∈ before)), fun _ => ?_⟩
  · rw [hps, List.mem_append] at hp
    exact Or.inr hp
  · obtain ⟨_, _, _, _, _, hz, hn⟩ := hW
    refine ⟨hok, _, _, ([] ++ pa) ++ pv, ⟨[] ++ pa, pv, trodAll_append (hargs _ (fun _ _ => rfl)) (hres _ _ _), hvars _ (fun _ _ => rfl), rfl, ?_, ?_⟩, ?_⟩
    · intro b off hp
      have hin : MemPlace.cell b off ∈ before := by rw [hps]; simpa using hp
      rw [hb.frozen (hlt _ hin)]
      exact hz b off hin
    · intro ha
      have := hn ha
      rw [hps] at this
      simpa using this
    · intro p hp _
      rw [hps]
      simpa using hp
/-- A law that returns true and only makes memory: its post. -/
theorem post_true {f : Func} {s : ChangeSpec} {apart fresh handsOn again : Bool} {W W' : World} {args : Array Value} {ds gs : List (DataW H)} {before : List MemPlace} {t : TypeId}
    (hl : laidOutB P = true) (hvn : s.vars = []) (hr : f.resultTypes = #[t]) (ht : P.underlying t = some .bool)
    (hp : ∀ t ∈ f.params.toList, P.readableRec t = true ∧ t < P.types.size)
    (hW : DataW.Whole enc P f.params.toList s.vars apart W args.toList ds gs before)
    (hfn : s.fn H ds = { results := [.lit (.bool true)], args := ds }) (hb : Ext W W') :
    s.post enc P f apart fresh handsOn again W args (.bool true) W' := by
  have hW' := hW
  obtain ⟨p, q, hA, hV, rfl, _, _⟩ := hW
  rw [hvn] at hV
  obtain ⟨rfl, rfl⟩ := trodVars_none hV
  have hlt : ∀ x ∈ p, x.block < W.heap.size := fun x hx => by simpa using hW'.lt x (by simp [hx])
  refine post_of_below (pa := p) (pv := []) hW' (fun _ _ _ => ?_) (fun sp hs => ?_) (fun _ _ => ?_) rfl hb (ok_one hr rfl (okWide_bool_mk ht _))
  · rw [List.append_nil, hfn, hr]; exact trodAll_mk1 (shut_bool ht true)
  · rw [List.append_nil, hfn]; exact trodAll_stays hl hb hp hA hlt (fun x hx => hs x (by simp [hx]))
  · rw [List.append_nil, hfn, hvn]; rfl
end
theorem laid_out : laidOutB Tryz.prog = true := by kernel_rfl
end Go.Proofs.YtbmjfjgfognimaaGreatDoor
namespace Go.Proofs.YtbmjfjgfognimaaGreatDoor
set_option linter.unusedSimpArgs false
set_option linter.unusedVariables false
open Go.RowKit
set_option maxRecDepth 100000

theorem rec_fields30 : (Tryz.prog.fieldsOf 56).toList.map (fun f => (f.type, f.offset, decide (f.name = "_"))) = [(9, 0, false), (26, 1, false), (26, 2, false), (25, 3, false), (9, 4, false)] := by kernel_rfl
theorem run_neq_rec30 (w : World) (x y : RecD) : (binOp .neq 56 (recVal x) (recVal y)).run Tryz.prog w = .ok (.bool (!((x.name == y.name) && (x.typ == y.typ) && (x.cls == y.cls) && (x.ttl == y.ttl) && (x.data == y.data)))) w := by
  rw [run_neq_struct, run_equalIn_struct w 9999 56 _ _ (by kernel_rfl) (by kernel_rfl)]
  obtain ⟨fs, hfs⟩ : ∃ fs, (Tryz.prog.fieldsOf 56).toList = fs := ⟨_, rfl⟩
  have h := rec_fields30
  rw [hfs] at h ⊢
  match fs, h with
  | [f0, f1, f2, f3, f4], h =>
    simp only [List.map_cons, List.map_nil, List.cons.injEq, Prod.mk.injEq, decide_eq_false_iff_not, and_true] at h
    obtain ⟨⟨a0, b0, c0⟩, ⟨a1, b1, c1⟩, ⟨a2, b2, c2⟩, ⟨a3, b3, c3⟩, ⟨a4, b4, c4⟩⟩ := h
    have p0 : ∀ v : RecD, (part 9 #[S v.name, .int .u16 v.typ, .int .u16 v.cls, .int .u32 v.ttl, S v.data] 0).run Tryz.prog w = .ok (S v.name) w := fun v => by kernel_rfl
    have p1 : ∀ v : RecD, (part 26 #[S v.name, .int .u16 v.typ, .int .u16 v.cls, .int .u32 v.ttl, S v.data] 1).run Tryz.prog w = .ok (.int .u16 v.typ) w := fun v => by kernel_rfl
    have p2 : ∀ v : RecD, (part 26 #[S v.name, .int .u16 v.typ, .int .u16 v.cls, .int .u32 v.ttl, S v.data] 2).run Tryz.prog w = .ok (.int .u16 v.cls) w := fun v => by kernel_rfl
    have p3 : ∀ v : RecD, (part 25 #[S v.name, .int .u16 v.typ, .int .u16 v.cls, .int .u32 v.ttl, S v.data] 3).run Tryz.prog w = .ok (.int .u32 v.ttl) w := fun v => by kernel_rfl
    have p4 : ∀ v : RecD, (part 9 #[S v.name, .int .u16 v.typ, .int .u16 v.cls, .int .u32 v.ttl, S v.data] 4).run Tryz.prog w = .ok (S v.data) w := fun v => by kernel_rfl
    simp only [Op.eqFields, a0, a1, a2, a3, a4, b0, b1, b2, b3, b4, ne_eq, c0, c1, c2, c3, c4, not_false_eq_true, if_true, Sem.run_bind, Sem.run_ite, p0, p1, p2, p3, p4, Result.andThen_ok, run_equalIn_string w 9998 _ _ _ Tryz.underlying9, run_equalIn_int w 9998 _ _ _ _ _ Tryz.underlying26, run_equalIn_int w 9998 _ _ _ _ _ Tryz.underlying25]
    have hl : ∀ l : List UInt8, (ByteArray.mk l.toArray).toList = l := fun l => by rw [ByteArray.toList_eq]
    simp only [hl]
    generalize (x.name == y.name) = q0
    generalize (x.typ == y.typ) = q1
    generalize (x.cls == y.cls) = q2
    generalize (x.ttl == y.ttl) = q3
    generalize (x.data == y.data) = q4
    cases q0 <;> cases q1 <;> cases q2 <;> cases q3 <;> cases q4 <;> rfl
theorem rec_neq_t30 {x y : RecD} (h : x = y) (w : World) : (binOp .neq 56 (recVal x) (recVal y)).run Tryz.prog w = .ok (.bool false) w := by
  rw [run_neq_rec30]; subst h; simp
theorem rec_neq_f30 {x y : RecD} (h : x ≠ y) (w : World) : (binOp .neq 56 (recVal x) (recVal y)).run Tryz.prog w = .ok (.bool true) w := by
  rw [run_neq_rec30]
  obtain ⟨xn, xt, xc, xl, xd⟩ := x
  obtain ⟨yn, yt, yc, yl, yd⟩ := y
  congr 2
  rw [Bool.not_eq_true', Bool.eq_false_iff]
  intro e
  simp only [Bool.and_eq_true, beq_iff_eq] at e
  obtain ⟨⟨⟨⟨rfl, rfl⟩, rfl⟩, rfl⟩, rfl⟩ := e
  exact h rfl
set_option maxHeartbeats 2000000 in
theorem ref_sameRecords (l1 l2 : List RecD) (v1 v2 : Value) (lo1 lo2 : Nat) (w : World) (h1 : Recs w lo1 v1 l1) (h2 : Recs w lo2 v2 l2) :
    Calls Tryz.prog 32 #[v1, v2] w fun e w' => e = .returned (.bool (decide (l1 = l2))) ∧ Ext w w' := by
  obtain ⟨A, c, rfl, a1, a2, ra⟩ := h1
  obtain ⟨B, d, rfl, b1, b2, rb⟩ := h2
  unfold maxLen at a2 b2
  obtain ⟨R, hR⟩ : ∃ R, R = decide (l1 = l2) := ⟨_, rfl⟩
  rw [← hR]
  have HR := Lib.hid hR
  clear hR
  by_cases hl : l1.length = l2.length
  · obtain ⟨f1, f2⟩ := eq_nats hl
    have Hl := Lib.hid hl
    clear hl
    go_enter Tryz.func32, Tryz.ntmps32
    go_wp2_with fail
    go_loopw [5] (fun i wr => ∃ k q : Nat, k ≤ l1.length ∧ i = .int .i64 k ∧ l1.take k = l2.take k ∧ wr = w.drewN q) (fun i _ => l1.length - (intOf i).toNat)
    case atStart => exact ⟨0, 0, by omega, rfl, rfl, rfl⟩
    case round =>
      obtain ⟨k, q, hk, rfl, ht, rfl⟩ := hrel
      have Ht := Lib.hid ht
      clear ht
      by_cases hlt : k < l1.length
      · have hlt2 : k < l2.length := by have := Hl.out; omega
        obtain ⟨gb, go, rfl, _, _, gc⟩ := ra.2 (by omega)
        obtain ⟨hb, ho, rfl, _, _, hc⟩ := rb.2 (by omega)
        have c1 := recs_cells gc k l1[k] (List.getElem?_eq_getElem hlt)
        have c2 := recs_cells hc k l2[k] (List.getElem?_eq_getElem hlt2)
        have HT1 := Lib.hid (take_snoc l1 k hlt)
        have HT2 := Lib.hid (take_snoc l2 k hlt2)
        have HG := Lib.hid (show l1 = l2 → l1[k] = l2[k] by intro e; subst e; rfl)
        generalize l1[k] = x at *
        generalize l2[k] = y at *
        obtain ⟨p0, p1, p2, p3, p4⟩ := c1
        obtain ⟨q0, q1, q2, q3, q4⟩ := c2
        have hki : (k : Int) < (l1.length : Int) := by omega
        have hki2 : (k : Int) < (l2.length : Int) := by omega
        have hk0 : (0 : Int) ≤ (k : Int) := by omega
        have hgd : Tryz.prog.eqGuardType Tryz.prog.depth 56 = false := by kernel_rfl
        clear gc hc
        by_cases hxy : x = y
        · have hne := rec_neq_t30 hxy
          have Hxy := Lib.hid hxy
          clear hxy
          go_wp2_with fail
          go_quiet (fail)
          go_wp2_with fail
          go_roundw
          case rel => exact ⟨k + 1, _, by omega, by go_num, by rw [HT1.out, HT2.out, Ht.out, Hxy.out], rfl⟩
          case measure => simp [intOf]; omega
        · have hne := rec_neq_f30 hxy
          have HF := Lib.hid (show R = false by rw [HR.out]; simp; intro e; exact hxy (HG.out e))
          clear hxy
          go_wp2_with fail
          go_quiet (fail)
          go_wp2_with fail
          go_ret
          exact ⟨ret_bool HF.out.symm, ((Ext.refl w).drewN q).trans (by (repeat (first | with_reducible exact Ext.refl _ | with_reducible assumption | with_reducible refine Ext.alloc ?_ _ | with_reducible refine Ext.drewN ?_ _ | with_reducible refine Ext.drew ?_ | (with_reducible refine Ext.setCell ?_ ?hp _; case hp => (simp <;> omega)))))⟩
      · have HF := Lib.hid (show R = true by rw [HR.out]; have := Ht.out; have := Hl.out; rw [List.take_of_length_le (by omega), List.take_of_length_le (by omega)] at *; simp [*])
        go_wp2_with fail
        go_ret
        exact ⟨ret_bool HF.out.symm, (Ext.refl w).drewN q⟩
  · obtain ⟨f1, f2⟩ := ne_nats hl
    have HF := Lib.hid (show R = false by rw [HR.out]; simp; intro e; exact hl (by rw [e]))
    clear hl
    go_enter Tryz.func32, Tryz.ntmps32
    go_wp2_with fail
    go_ret
    exact ⟨ret_bool HF.out.symm, Ext.refl _⟩
end Go.Proofs.YtbmjfjgfognimaaGreatDoor
namespace Go.Proofs.YtbmjfjgfognimaaGreatDoor
set_option linter.unusedSimpArgs false
set_option linter.unusedVariables false
open Go.RowKit
set_option maxRecDepth 100000

set_option maxHeartbeats 2000000 in
theorem ref08_records30 (s : SetD) (dv : Value) (lo : Nat) (w : World) (hd : Strs w lo dv s.data) (hl : s.data.length ≤ 1048576) :
    Calls Tryz.prog 75 #[setVal s dv] w (CollPost (recsOf s) w) := by
  obtain ⟨nm, ty, cl, tt, da⟩ := s
  dsimp only at *
  obtain ⟨A, c, rfl, h1, h2, hrd⟩ := hd
  unfold maxLen at h2
  obtain ⟨i0, hi0, hz0, hz1, hz2⟩ := info_parts info_rec7
  go_enter Tryz.func75, Tryz.ntmps75
  go_wp2_with fail
  go_loopw [3, 4] (fun v i wr => ∃ (k : Nat) (B : Option Addr) (d : Nat), k ≤ da.length ∧ i = .int .i64 k ∧ v = .slice B k d ∧ Own wr (w.heap.size + 1) 56 5 B k d ((recsK ⟨nm, ty, cl, tt, da⟩ k).flatMap recCells) ∧ Ext (w.alloc (.cells #[S nm, .int .u16 ty, .int .u16 cl, .int .u32 tt, .slice A da.length c] 54)) wr) (fun _ i _ => da.length - (intOf i).toNat)
  case atStart => exact ⟨0, none, 0, by omega, rfl, rfl, Own.nil _ _ _ _, Ext.refl _⟩
  case round =>
    obtain ⟨k, B, d, hk, rfl, rfl, hown, hE⟩ := hrel
    obtain ⟨wo, rfl⟩ : ∃ wo : World, wo = wr := ⟨_, rfl⟩
    have hEw : Ext w wo := ((Ext.refl w).alloc _).trans hE
    obtain ⟨bq, _, bqz⟩ := ext_new hE
    have b4' : wo.cell? ⟨w.heap.size, 4, none⟩ = some (.slice A da.length c) := bq 4
    by_cases hlt : k < da.length
    · have b0 : wo.cell? ⟨w.heap.size, 0, none⟩ = some (S nm) := bq 0
      have b1 : wo.cell? ⟨w.heap.size, 1, none⟩ = some (.int .u16 ty) := bq 1
      have b2 : wo.cell? ⟨w.heap.size, 2, none⟩ = some (.int .u16 cl) := bq 2
      have b3 : wo.cell? ⟨w.heap.size, 3, none⟩ = some (.int .u32 tt) := bq 3
      have b4 : wo.cell? ⟨w.heap.size, 4, none⟩ = some (.slice A da.length c) := bq 4
      obtain ⟨g, off, rfl, _, hgz, gc⟩ := hrd.2 (by omega)
      have hck := (hEw.cell (p := ⟨g, off + k, none⟩) hgz).trans (gc k (S da[k]) (by simp [List.getElem?_eq_getElem hlt]))
      have HT := Lib.hid (show recsK ⟨nm, ty, cl, tt, da⟩ (k + 1) = recsK ⟨nm, ty, cl, tt, da⟩ k ++ [⟨nm, ty, cl, tt, da[k]⟩] by unfold recsK; rw [take_snoc da k hlt, List.map_append]; rfl)
      generalize da[k] = y at *
      have hki : (k : Int) < (da.length : Int) := by omega
      have hk0 : (0 : Int) ≤ (k : Int) := by omega
      have hwz : w.heap.size + 1 ≤ wo.heap.size := bqz
      clear bq gc
      go_wp2_with fail
      go_region_held3 (fun V => V.cell? ⟨w.heap.size, 0, none⟩ = some (S nm) ∧ V.cell? ⟨w.heap.size, 1, none⟩ = some (.int .u16 ty) ∧ V.cell? ⟨w.heap.size, 2, none⟩ = some (.int .u16 cl) ∧ V.cell? ⟨w.heap.size, 3, none⟩ = some (.int .u32 tt) ∧ V.cell? ⟨w.heap.size, 4, none⟩ = some (.slice (some ⟨g, off, none⟩) da.length c) ∧ V.cell? ⟨g, off + k, none⟩ = some (S y))
        (first | go_keep | (have hK : Below (w.heap.size + 1) wo w5 := Below.trans (Below.mono (show Ext wo _ by (repeat (first | with_reducible exact Ext.refl _ | with_reducible assumption | with_reducible refine Ext.alloc ?_ _ | with_reducible refine Ext.drewN ?_ _ | with_reducible refine Ext.drew ?_ | (with_reducible refine Ext.setCell ?_ ?hp _; case hp => (simp <;> omega))))) hwz) hb5; exact ⟨(hK.cell (p := ⟨w.heap.size, 0, none⟩) (Nat.lt_succ_self _)).trans b0, (hK.cell (p := ⟨w.heap.size, 1, none⟩) (Nat.lt_succ_self _)).trans b1, (hK.cell (p := ⟨w.heap.size, 2, none⟩) (Nat.lt_succ_self _)).trans b2, (hK.cell (p := ⟨w.heap.size, 3, none⟩) (Nat.lt_succ_self _)).trans b3, (hK.cell (p := ⟨w.heap.size, 4, none⟩) (Nat.lt_succ_self _)).trans b4, (hK.cell (p := ⟨g, off + k, none⟩) (Nat.lt_succ_of_lt hgz)).trans hck⟩))
        (first
          | (refine step_app _ (by rfl) (.tmp 12) (.tmp 27) _ (by rfl) (w.heap.size + 1) 56 i0 _ 5 40 Tryz.underlying40 hi0 hz0 hz1 hz2 rfl (by omega) B k d ((recsK ⟨nm, ty, cl, tt, da⟩ k).flatMap recCells) (by rfl) (by exact hown.ext (by (repeat (first | with_reducible exact Ext.refl _ | with_reducible assumption | with_reducible refine Ext.alloc ?_ _ | with_reducible refine Ext.drewN ?_ _ | with_reducible refine Ext.drew ?_ | (with_reducible refine Ext.setCell ?_ ?hp _; case hp => (simp <;> omega)))))) 0 _ 1 1 (recCells ⟨nm, ty, cl, tt, y⟩) (by rfl) (by exact (rd_new _ _ (by simp) _ _ 1 5 rfl).drew) (rec_one7 _) (by omega) (by omega) (by simp; omega) ?_; intro A5 c5 w5 hown5 hg5 hb5 hat5))
      have hE5 : Ext (w.alloc (.cells #[S nm, .int .u16 ty, .int .u16 cl, .int .u32 tt, .slice (some ⟨g, off, none⟩) da.length c] 54)) w5 := Ext.then (lo := w.heap.size + 1) (hE.trans (by (repeat (first | with_reducible exact Ext.refl _ | with_reducible assumption | with_reducible refine Ext.alloc ?_ _ | with_reducible refine Ext.drewN ?_ _ | with_reducible refine Ext.drew ?_ | (with_reducible refine Ext.setCell ?_ ?hp _; case hp => (simp <;> omega)))))) hb5 (by simp)
      go_wp2_with fail
      go_roundw
      case rel =>
        refine ⟨k + 1, A5, c5, by omega, by go_num, rfl, ?_, hE5⟩
        rw [HT.out, List.flatMap_append]
        simpa using hown5
      case measure => simp [intOf]; omega
    · obtain rfl : k = da.length := by omega
      clear bq
      go_wp2_with fail
      go_ret
      have hlz : (recsOf ⟨nm, ty, cl, tt, da⟩).length = da.length := by simp [recsOf]
      refine ⟨B, d, ?_, ?_, hEw⟩
      · simp [recsOf]
      · have e : recsK ⟨nm, ty, cl, tt, da⟩ da.length = recsOf ⟨nm, ty, cl, tt, da⟩ := by unfold recsK recsOf; rw [List.take_length]
        rw [e] at hown
        have := hown.lower (lo' := w.heap.size) (by omega)
        rw [hlz]; exact this

def NewRPost (l : List RecD) (w : World) (e : Ending) (w' : World) : Prop :=
  (l.all okRec = true ∧ ∃ (R : Nat) (gv : Value), e = .returned (.tuple #[.pointer (some ⟨R, 0, none⟩), .int .i64 0]) ∧ w.heap.size ≤ R ∧ w'.heap[R]? = some (.cells #[gv] 77) ∧ OSets w' w.heap.size gv (groupR l) ∧ Ext w w') ∨
  (l.all okRec = false ∧ e = .returned (.tuple #[.pointer none, .int .i64 1]) ∧ Ext w w')
set_option maxHeartbeats 4000000 in
theorem ref30_new (lo : Nat) (v : Value) (l : List RecD) (w : World) (h : Recs w lo v l) (hbd : RecsBd l) :
    Calls Tryz.prog 31 #[v] w (NewRPost l w) := by
  have HG := Lib.hid (fun W (hW : Ext w W) => ref_group lo v l W (h.ext hW) hbd)
  obtain ⟨A, c, rfl, h1, h2, hrd⟩ := h
  unfold maxLen at h2
  have hl4 := hbd.1
  have HBd := Lib.hid hbd.2
  have HEnd := Lib.hid (show (l.take l.length).all okRec = l.all okRec by rw [List.take_length])
  have HNo := Lib.hid (fun k (h : (l.take k).all okRec = false) => all_no h)
  have HSp := Lib.hid (fun k r (h : l[k]? = some r) => all_to h)
  have H0 := Lib.hid (show (l.take 0).all okRec = true from rfl)
  go_enter Tryz.func31, Tryz.ntmps31
  go_wp2_with fail
  go_loopw [2, 3, 4] (fun s2 s3 s4 wr => ∃ k : Nat, k ≤ l.length ∧ s2 = .pointer none ∧ s3 = .int .i64 0 ∧ s4 = .int .i64 k ∧ (l.take k).all okRec = true ∧ Ext w wr) (fun _ _ s4 _ => l.length - (intOf s4).toNat)
  case atStart => exact ⟨0, by omega, rfl, rfl, rfl, H0.out, Ext.refl _⟩
  case round =>
    obtain ⟨k, hk, rfl, rfl, rfl, hall, hE⟩ := hrel
    obtain ⟨wo, rfl⟩ : ∃ wo : World, wo = wr := ⟨_, rfl⟩
    by_cases hlt : k < l.length
    · have hp : l[k]? = some l[k] := List.getElem?_eq_getElem hlt
      have hbs := HBd.out l[k] (List.getElem_mem hlt)
      have hS1 := HSp.out k _ hp
      rw [hall, Bool.true_and] at hS1
      have HS1 := Lib.hid hS1
      obtain ⟨b, off, rfl, _, hbz, hc⟩ := hrd.2 (by omega)
      obtain ⟨c0, c1, c2, c3, c4⟩ := recs_cells hc k l[k] hp
      generalize l[k] = r at *
      obtain ⟨nm, ty, cl, tt, da⟩ := r
      dsimp only at *
      rw [← hE.cell (p := ⟨b, _, none⟩) hbz] at c0 c1 c2 c3 c4
      have hbw : b < wo.heap.size := Nat.lt_of_lt_of_le hbz hE.size
      have HM := Lib.hid (fun W => ref_may nm W (by omega))
      have HR := Lib.hid (fun W => ref_rmay ty da W (by omega))
      have HOk : Hid (okRec ⟨nm, ty, cl, tt, da⟩ = (may nm && rmay ty da)) := rfl
      have HNk := Lib.hid (HNo.out (k + 1))
      have HS4 := Lib.hid (show ∀ V, Ext wo V → V.cell? ⟨b, off + k * 5, none⟩ = some (S nm) ∧ V.cell? ⟨b, off + k * 5 + 1, none⟩ = some (.int .u16 ty) ∧ V.cell? ⟨b, off + k * 5 + 4, none⟩ = some (S da) from fun V hV => ⟨(hV.cell (p := ⟨b, _, none⟩) hbw).trans c0, (hV.cell (p := ⟨b, _, none⟩) hbw).trans c1, (hV.cell (p := ⟨b, _, none⟩) hbw).trans c4⟩)
      clear hc hp hS1 hall hbs c0 c1 c2 c3 c4
      have hki : (k : Int) < (l.length : Int) := by omega
      have hk0 : (0 : Int) ≤ (k : Int) := by omega
      go_upto_region 4 with fail
      go_cut [31] (fun s31 wx => s31 = .bool (!(may nm && rmay ty da)) ∧ Ext wo wx)
      case first =>
        rcases hm : may nm with _ | _
        · have Hm := Lib.hid hm
          rw [hm] at HM
          clear hm
          refine wp_region_noPanic ?_
          refine wp_region_tree (S := (fun V => V.cell? ⟨b, off + k * 5, none⟩ = some (S nm) ∧ V.cell? ⟨b, off + k * 5 + 1, none⟩ = some (.int .u16 ty) ∧ V.cell? ⟨b, off + k * 5 + 4, none⟩ = some (S da))) (.take 0 (.take 1 (.take 2 (.take 3 (.take 4 (.run 5 (.take 6 (.take 7 (.take 8 (.take 9 (.take 10 (.take 11 (.take 12 (.take 13 (.take 14 (.take 15 (.take 16 (.take 17 (.take 18 (.take 19 (.take 20 (.done)))))))))))))))))))))) (by kernel_rfl) (by kernel_rfl) (fun _ _ _ _ _ h => h) ((HS4.out _ (Ext.refl wo).drew)) ?_
          repeat ((with_reducible refine treeIs ?_); first
            | (refine treeTakeX (a' := ?_) ⟨_, (HS4.out _ (Ext.refl wo).drew)⟩ (by rfl) rfl (by kernel_rfl) rfl ?_ ?_; rotate_left; (focus (intro V Q' hV hq; obtain ⟨hV1, hV2, hV3⟩ := hV; (repeat (first | go_guarded | go_skip | go_step)); (first | exact hq | exact wpList_nil hq))))
            | (refine treeSkip (by rfl) (by rfl) ?_; (try simp only [Act.put, List.setIfInBounds_toArray, List.set_cons_zero, List.set_cons_succ])))
          refine treeRun (by rfl) (fun K hK => ?_)
          go_simp
          refine (HM.out _).mono ?_
          rintro e wa ⟨rfl, hqwa⟩
          have hEwa : Ext wo wa := ((Ext.refl wo).drew).trans hqwa
          clear hqwa
          refine hK.out _ _ ?_ ?_
          · exact (HS4.out _ hEwa)
          clear hK K
          (try simp only [Act.put, List.setIfInBounds_toArray, List.set_cons_zero, List.set_cons_succ])
          repeat ((with_reducible refine treeIs ?_); first
            | (refine treeTakeX (a' := ?_) ⟨_, (HS4.out _ (Ext.refl wo).drew)⟩ (by rfl) rfl (by kernel_rfl) rfl ?_ ?_; rotate_left; (focus (intro V Q' hV hq; obtain ⟨hV1, hV2, hV3⟩ := hV; (repeat (first | go_guarded | go_skip | go_step)); (first | exact hq | exact wpList_nil hq))))
            | (refine treeSkip (by rfl) (by rfl) ?_; (try simp only [Act.put, List.setIfInBounds_toArray, List.set_cons_zero, List.set_cons_succ])))
          refine treeDone ?_
          refine NoPanic.normal ?_
          go_wp2_with fail
          go_meet
          exact ⟨by rw [Hm.out]; rfl, hEwa⟩
        · have Hm := Lib.hid hm
          rw [hm] at HM
          clear hm
          refine wp_region_noPanic ?_
          refine wp_region_tree (S := (fun V => V.cell? ⟨b, off + k * 5, none⟩ = some (S nm) ∧ V.cell? ⟨b, off + k * 5 + 1, none⟩ = some (.int .u16 ty) ∧ V.cell? ⟨b, off + k * 5 + 4, none⟩ = some (S da))) (.take 0 (.take 1 (.take 2 (.take 3 (.take 4 (.run 5 (.take 6 (.take 7 (.take 8 (.take 9 (.take 10 (.take 11 (.take 12 (.take 13 (.take 14 (.take 15 (.take 16 (.take 17 (.run 18 (.take 19 (.take 20 (.done)))))))))))))))))))))) (by kernel_rfl) (by kernel_rfl) (fun _ _ _ _ _ h => h) ((HS4.out _ (Ext.refl wo).drew)) ?_
          repeat ((with_reducible refine treeIs ?_); first
            | (refine treeTakeX (a' := ?_) ⟨_, (HS4.out _ (Ext.refl wo).drew)⟩ (by rfl) rfl (by kernel_rfl) rfl ?_ ?_; rotate_left; (focus (intro V Q' hV hq; obtain ⟨hV1, hV2, hV3⟩ := hV; (repeat (first | go_guarded | go_skip | go_step)); (first | exact hq | exact wpList_nil hq)))))
          refine treeRun (by rfl) (fun K hK => ?_)
          go_simp
          refine (HM.out _).mono ?_
          rintro e wa ⟨rfl, hqwa⟩
          have hEwa : Ext wo wa := ((Ext.refl wo).drew).trans hqwa
          clear hqwa
          refine hK.out _ _ ?_ ?_
          · exact (HS4.out _ hEwa)
          clear hK K
          (try simp only [Act.put, List.setIfInBounds_toArray, List.set_cons_zero, List.set_cons_succ])
          repeat ((with_reducible refine treeIs ?_); first
            | (refine treeTakeX (a' := ?_) ⟨_, (HS4.out _ (Ext.refl wo).drew)⟩ (by rfl) rfl (by kernel_rfl) rfl ?_ ?_; rotate_left; (focus (intro V Q' hV hq; obtain ⟨hV1, hV2, hV3⟩ := hV; (repeat (first | go_guarded | go_skip | go_step)); (first | exact hq | exact wpList_nil hq)))))
          refine treeRun (by rfl) (fun K hK => ?_)
          go_simp
          refine (HR.out _).mono ?_
          rintro e wb ⟨rfl, hqwb⟩
          have hEwb : Ext wo wb := (hEwa).trans hqwb
          clear hqwb
          refine hK.out _ _ ?_ ?_
          · exact (HS4.out _ hEwb)
          clear hK K
          (try simp only [Act.put, List.setIfInBounds_toArray, List.set_cons_zero, List.set_cons_succ])
          repeat ((with_reducible refine treeIs ?_); first
            | (refine treeTakeX (a' := ?_) ⟨_, (HS4.out _ (Ext.refl wo).drew)⟩ (by rfl) rfl (by kernel_rfl) rfl ?_ ?_; rotate_left; (focus (intro V Q' hV hq; obtain ⟨hV1, hV2, hV3⟩ := hV; (repeat (first | go_guarded | go_skip | go_step)); (first | exact hq | exact wpList_nil hq)))))
          refine treeDone ?_
          refine NoPanic.normal ?_
          go_wp2_with fail
          go_meet
          exact ⟨by rw [Hm.out]; simp, hEwb⟩
      case rest =>
        obtain ⟨rfl, hEx⟩ := hcut
        obtain ⟨wx, rfl⟩ : ∃ wx : World, wx = wc := ⟨_, rfl⟩
        rcases hB : (may nm && rmay ty da) with _ | _
        · rw [hB] at HOk
          clear hB
          go_wp2_with fail
          go_ret2
          exact .inr ⟨HNk.out (HS1.out.trans HOk.out), rfl, hE.trans hEx⟩
        · rw [hB] at HOk
          clear hB
          go_wp2_with fail
          go_roundw
          case rel => exact ⟨k + 1, by omega, rfl, rfl, by go_num, HS1.out.trans HOk.out, hE.trans hEx⟩
          case measure => simp [intOf]; omega
    · obtain rfl : k = l.length := by omega
      rw [HEnd.out] at hall
      have HA := Lib.hid hall
      clear hall
      have h65 : ¬ (65535 : Int) < (l.length : Int) := by omega
      go_wp2_with fail
      refine (HG.out _ hE).mono ?_; rintro e w1 ⟨gv, rfl, ho, hE1⟩
      have HO := Lib.hid ho
      obtain ⟨qs, gA, gc, _, rfl, _, _⟩ := ho
      go_wp2_with fail
      go_ret2
      exact .inl ⟨HA.out, _, _, rfl, (hE.trans hE1).size, heap_alloc_new _ _, ((HO.out.lower hE.size).ext ((Ext.refl _).alloc _)), (hE.trans hE1).alloc _⟩
theorem own_zero30 (w : World) (e : TypeId) (lo : Nat) : Own w lo e 5 none 0 0 [] := Own.nil _ _ _ _
theorem recs_one30 (l : List RecD) : ∀ u ∈ l.flatMap recCells, u.oneCell' = true := fun u hu => by
  obtain ⟨r, _, hu⟩ := List.mem_flatMap.1 hu
  exact rec_one7 r u hu
set_option maxHeartbeats 4000000 in
theorem ref30_records (R : Nat) (v : Value) (L : List SetD) (w : World) (hR : w.cell? ⟨R, 0, none⟩ = some v) (h : Sets w 0 v L) (h1 : L.length ≤ 1048576) (h2 : ∀ s ∈ L, s.data.length ≤ 1048576) (h3 : (L.flatMap recsOf).length ≤ 1048576) :
    Calls Tryz.prog 34 #[.pointer (some ⟨R, 0, none⟩)] w (CollPost (L.flatMap recsOf) w) := by
  obtain ⟨ps, A, c, hl, rfl, g1, g2, hrd, hst⟩ := h
  unfold maxLen at g2
  have hRw : R < w.heap.size := by
    rcases Nat.lt_or_ge R w.heap.size with h | h
    · exact h
    · simp [World.cell?, Array.getElem?_eq_none h] at hR
  have hlen : ps.length = L.length := by rw [← hl]; simp
  have Hl := Lib.hid hl
  have Hlen := Lib.hid hlen
  have HEnd := Lib.hid (show (L.take ps.length).flatMap recsOf = L.flatMap recsOf by rw [hlen, List.take_length])
  have HBd := Lib.hid h2
  have hTl : ∀ k, ((L.take k).flatMap recsOf).length ≤ 1048576 := fun k => by
    have e : L.flatMap recsOf = (L.take k).flatMap recsOf ++ (L.drop k).flatMap recsOf := by rw [← List.flatMap_append, List.take_append_drop]
    rw [e, List.length_append] at h3; omega
  have HTl := Lib.hid hTl
  have HSp := Lib.hid (fun k s (h : L[k]? = some s) => sets_step L k s h)
  have H0 := Lib.hid (show (L.take 0).flatMap recsOf = [] from rfl)
  obtain ⟨i0, hi0, hz0, hz1, hz2⟩ := info_parts info_rec7
  clear hl hlen h3 hTl h2
  go_enter Tryz.func34, Tryz.ntmps34
  go_wp2_with fail
  go_loopw [3, 4] (fun s3 s4 wr => ∃ (k m : Nat) (B : Option Addr) (d : Nat) (xs : List RecD), k ≤ ps.length ∧ s4 = .int .i64 k ∧ s3 = .slice B m d ∧ Hid (m = xs.length) ∧ Hid (xs = (L.take k).flatMap recsOf) ∧ Own wr w.heap.size 56 5 B m d (xs.flatMap recCells) ∧ Ext w wr) (fun _ s4 _ => ps.length - (intOf s4).toNat)
  case atStart => exact ⟨0, 0, none, 0, [], by omega, rfl, rfl, rfl, H0.out.symm, Own.nil _ _ _ _, Ext.refl _⟩
  case round =>
    obtain ⟨k, m, B, d, xs, hk, rfl, rfl, hm, hxs, hown, hE⟩ := hrel
    obtain ⟨wo, rfl⟩ : ∃ wo : World, wo = wr := ⟨_, rfl⟩
    have hRo : wo.cell? ⟨R, 0, none⟩ = some (.slice A ps.length c) := (hE.cell (p := ⟨R, 0, none⟩) hRw).trans hR
    by_cases hlt : k < ps.length
    · have hp : ps[k]? = some ps[k] := List.getElem?_eq_getElem hlt
      have hpl : L[k]? = some ps[k].1 := by rw [← Hl.out, List.getElem?_map, hp]; rfl
      have hbs := HBd.out ps[k].1 (List.mem_of_getElem? hpl)
      have hstr := (hst ps[k] (List.getElem_mem hlt)).ext hE
      have HS1 := Lib.hid (HSp.out k _ hpl)
      have hm1 : m ≤ 1048576 := by rw [hm.out, hxs.out]; exact HTl.out k
      have hn1 : m + (recsOf ps[k].1).length ≤ 1048576 := by
        have := HTl.out (k + 1)
        rw [HS1.out, List.length_append] at this
        rw [hm.out, hxs.out]; exact this
      generalize ps[k] = p at *
      obtain ⟨b, off, rfl, _, hbz, hc⟩ := hrd.2 (by omega)
      obtain ⟨c0, c1, c2, c3, c4⟩ := sets_cells hc k p hp
      rw [← hE.cell (p := ⟨b, _, none⟩) hbz] at c0 c1 c2 c3 c4
      obtain ⟨s, dv⟩ := p
      obtain ⟨nm, ty, cl, tt, da⟩ := s
      dsimp only at *
      have HRec := Lib.hid (ref08_records30 ⟨nm, ty, cl, tt, da⟩ dv 0 wo hstr hbs)
      obtain ⟨dA, dc, rfl⟩ := hstr.shape
      unfold CollPost at HRec
      generalize recsOf ⟨nm, ty, cl, tt, da⟩ = news at *
      clear hc hp hpl hbs hstr
      have hki : (k : Int) < (ps.length : Int) := by omega
      have hk0 : (0 : Int) ≤ (k : Int) := by omega
      go_wp2_with fail
      refine HRec.out.mono ?_
      rintro e w1 ⟨B1, d1, rfl, ho1, hE1⟩
      go_wp2_with (first
        | (at_builtin
           refine wpList_app _ rfl (.tmp 14) (.tmp 22) _ rfl w.heap.size 56 i0 _ 5 40 Tryz.underlying40 hi0 hz0 hz1 hz2 rfl (by omega) _ m d (xs.flatMap recCells) rfl (hown.ext hE1) 0 B1 news.length d1 (news.flatMap recCells) rfl (ho1.rd.lower (Nat.zero_le _)) (recs_one30 news) (by omega) (by omega) (Nat.le_trans hE.size hE1.size) ?_
           intro A3 c3' w3 hown3 hg3 hb3 _)
        | fail)
      have hE3 : Ext w w3 := (hE.trans hE1).then hb3 (Nat.le_refl _)
      go_wp2_with fail
      go_roundw
      case rel =>
        refine ⟨k + 1, m + news.length, A3, c3', xs ++ news, by omega, by go_num, rfl, ?_, ?_, ?_, hE3⟩
        · show m + news.length = (xs ++ news).length
          rw [List.length_append, ← hm.out]
        · show xs ++ news = _
          rw [HS1.out, ← hxs.out]
        · rw [List.flatMap_append]; exact hown3
      case measure => simp [intOf]; omega
    · obtain rfl : k = ps.length := by omega
      go_wp2_with fail
      go_ret
      have e : xs = L.flatMap recsOf := hxs.out.trans HEnd.out
      refine ⟨B, d, by rw [hm.out, e]; rfl, ?_, hE⟩
      rw [← e, ← hm.out]; exact hown
set_option maxHeartbeats 1000000 in
theorem res_records (R : Nat) (v : Value) (L : List SetD) (w : World) (hR : w.cell? ⟨R, 0, none⟩ = some v) (h : Sets w 0 v L) (h1 : L.length ≤ 1048576) (h2 : ∀ s ∈ L, s.data.length ≤ 1048576) (h3 : (L.flatMap recsOf).length ≤ 1048576) :
    Calls Tryz.prog 33 #[.pointer (some ⟨R, 0, none⟩)] w (CollPost (L.flatMap recsOf) w) := by
  have HSq := Lib.hid (fun A n c V => res_seq A n c V)
  have HC := Lib.hid (fun V B (hV : Ext w V) (hB : V.cell? ⟨B, 0, none⟩ = some v) => res_collect v L w V B h hV hB h1 h2 h3)
  obtain ⟨ps, A, c, hl, rfl, -, -, -, -⟩ := h
  unfold CollPost at HC
  generalize L.flatMap recsOf = rs at *
  go_enter Tryz.func33, Tryz.ntmps33
  go_wp2_with fail
  refine (HSq.out _ _ _ _).mono ?_
  rintro e Z ⟨rfl, hZ⟩
  have rB : Z.cell? ⟨w.heap.size, 0, none⟩ = some (.slice A ps.length c) := by rw [hZ]; exact box_cell (heap_alloc_new _ _) rfl
  have hEZ : Ext w Z := by rw [hZ]; exact (Ext.refl _).alloc _
  have HC1 := Lib.hid (HC.out _ _ hEZ rB)
  clear hZ
  go_wp2_with fail
  refine HC1.out.mono ?_
  rintro e Y ⟨A1, c1, rfl, ho1, hEY⟩
  go_wp2_with fail
  go_ret
  exact ⟨A1, c1, rfl, ho1.lower hEZ.size, hEZ.trans hEY⟩
theorem res_records_nil (w : World) : Calls Tryz.prog 33 #[.pointer none] w fun e w' => e = .returned (.slice none 0 0) ∧ w = w' := by
  go_enter Tryz.func33, Tryz.ntmps33
  go_wp2_with fail
  go_ret
  exact ⟨rfl, rfl⟩
theorem res_answer_nil (d : List UInt8) (w : World) : Calls Tryz.prog 28 #[.pointer none, S d] w fun e w' => e = .returned (S []) ∧ w = w' := by
  go_enter Tryz.func28, Tryz.ntmps28
  go_wp2_with fail
  go_ret
  exact ⟨rfl, rfl⟩
end Go.Proofs.YtbmjfjgfognimaaGreatDoor
namespace Go.Proofs.YtbmjfjgfognimaaGreatDoor
set_option linter.unusedSimpArgs false
set_option linter.unusedVariables false

def dataN30 (l : List SetD) : Nat := (l.map fun s => s.data.length).sum
theorem dataN30_append (l m : List SetD) : dataN30 (l ++ m) = dataN30 l + dataN30 m := by simp [dataN30]
theorem dataN30_modify : ∀ (l : List SetD) (i : Nat) (f : SetD → SetD) (hf : ∀ s, (f s).data.length ≤ s.data.length + 1), dataN30 (l.modify i f) ≤ dataN30 l + 1
  | [], i, f, hf => by simp [dataN30]
  | a :: l, 0, f, hf => by have := hf a; simp [dataN30]; omega
  | a :: l, i + 1, f, hf => by have := dataN30_modify l i f hf; simp [dataN30] at this ⊢; omega
theorem dataN30_add (L : List SetD) (x : RecD) : dataN30 (addR L x) ≤ dataN30 L + 1 := by
  unfold addR
  split
  · split
    · rw [dataN30_append]; simp [dataN30]
    · exact dataN30_modify _ _ _ fun s => by unfold updS; exact putS_len _ _
  · omega
theorem dataN30_to (l : List RecD) : ∀ k, k ≤ l.length → dataN30 (groupTo l k) ≤ k
  | 0, _ => by simp [groupTo, dataN30]
  | k + 1, h => by rw [groupTo_step l k (by omega)]; have := dataN30_to l k (by omega); have := dataN30_add (groupTo l k) l[k]; omega
theorem dataN30_group (l : List RecD) : dataN30 (groupR l) ≤ l.length := by
  have h1 : dataN30 (groupR l) = dataN30 (groupTo l l.length) := by unfold dataN30; exact ((group_perm l).1.map _).sum_nat
  rw [h1]; exact dataN30_to l l.length (Nat.le_refl _)
theorem recsOf_len30 (s : SetD) : (recsOf s).length = s.data.length := by simp [recsOf]
theorem flat_len30 (l : List SetD) : (l.flatMap recsOf).length = dataN30 l := by
  induction l with
  | nil => rfl
  | cons a l ih => simp [dataN30, recsOf_len30] at ih ⊢; (try omega)
theorem dataN30_take (l : List SetD) (k : Nat) : dataN30 (l.take k) ≤ dataN30 l := by
  have : dataN30 l = dataN30 (l.take k) + dataN30 (l.drop k) := by rw [← dataN30_append, List.take_append_drop]
  omega
theorem in_flat30 {L : List SetD} {s : SetD} (h : s ∈ L) : s.data.length ≤ (L.flatMap recsOf).length := by
  induction L with
  | nil => cases h
  | cons a L ih =>
    rw [List.flatMap_cons, List.length_append]
    rcases List.mem_cons.1 h with rfl | h
    · rw [recsOf_len30]; omega
    · have := ih h; omega
theorem group_lens30 (l : List RecD) : (groupR l).length ≤ l.length ∧ (∀ s ∈ groupR l, s.data.length ≤ l.length) ∧ ((groupR l).flatMap recsOf).length ≤ l.length := by
  have h1 := groupTo_len l l.length (Nat.le_refl _)
  have h2 := (group_perm l).1.length_eq
  have h3 : ((groupR l).flatMap recsOf).length ≤ l.length := by rw [flat_len30]; exact dataN30_group l
  exact ⟨by omega, fun s hs => Nat.le_trans (in_flat30 hs) h3, h3⟩
end Go.Proofs.YtbmjfjgfognimaaGreatDoor
namespace Go.Proofs.YtbmjfjgfognimaaGreatDoor
set_option linter.unusedSimpArgs false
set_option linter.unusedVariables false
open Go.RowKit
def turnC (l : List RecD) (r k : Nat) : List RecD := (List.range k).map fun i => l.getD ((i + r) % l.length) ⟨[], 0, 0, 0, []⟩
theorem turnC_len (l : List RecD) (r k : Nat) : (turnC l r k).length = k := by simp [turnC]
theorem turnC_step (l : List RecD) (r k j : Nat) (hj : j < l.length) (e : (k + r) % l.length = j) : turnC l r (k + 1) = turnC l r k ++ [l[j]] := by
  unfold turnC
  rw [List.range_succ, List.map_append, List.map_cons, List.map_nil, e, List.getD_eq_getElem?_getD, List.getElem?_eq_getElem hj]; rfl
theorem turnC_mod (l : List RecD) (r k : Nat) : turnC l r k = turnC l (r % l.length) k := by
  unfold turnC
  congr 1
  funext i
  rw [Nat.add_mod_mod]
theorem turnC_mem (l : List RecD) (r : Nat) (x : RecD) : x ∈ turnC l r l.length ↔ x ∈ l := by
  by_cases hn : l.length = 0
  · rw [List.eq_nil_of_length_eq_zero hn]; rfl
  have h0 : 0 < l.length := by omega
  rw [turnC_mod]
  have hr : r % l.length < l.length := Nat.mod_lt _ h0
  generalize r % l.length = r at *
  unfold turnC
  constructor
  · intro h
    obtain ⟨i, hi, rfl⟩ := List.mem_map.1 h
    have hm : (i + r) % l.length < l.length := Nat.mod_lt _ h0
    rw [List.getD_eq_getElem?_getD, List.getElem?_eq_getElem hm]
    exact List.getElem_mem hm
  · intro h
    obtain ⟨j, hj, rfl⟩ := List.getElem_of_mem h
    refine List.mem_map.2 ⟨(j + (l.length - r)) % l.length, List.mem_range.2 (Nat.mod_lt _ h0), ?_⟩
    have e : ((j + (l.length - r)) % l.length + r) % l.length = j := by
      rw [Nat.mod_add_mod, show j + (l.length - r) + r = j + l.length by omega, Nat.add_mod_right, Nat.mod_eq_of_lt hj]
    rw [e, List.getD_eq_getElem?_getD, List.getElem?_eq_getElem hj]; rfl
def turnF (l : List RecD) (r k : Nat) : List RecD := (turnC l r k).map foldRc
theorem turnF_len (l : List RecD) (r k : Nat) : (turnF l r k).length = k := by unfold turnF; rw [List.length_map, turnC_len]
theorem turnF_step (l : List RecD) (r k j : Nat) (hj : j < l.length) (e : (k + r) % l.length = j) : turnF l r (k + 1) = turnF l r k ++ [foldRc l[j]] := by
  unfold turnF; rw [turnC_step l r k j hj e, List.map_append]; rfl
theorem turnF_group {l : List RecD} (r : Nat) (hok : ∀ x ∈ l, okRec x = true) : groupR (turnF l r l.length ++ l) = groupR l := group_folds (turnC_mem l r) hok
end Go.Proofs.YtbmjfjgfognimaaGreatDoor
namespace Go.Proofs.YtbmjfjgfognimaaGreatDoor
set_option linter.unusedSimpArgs false
set_option linter.unusedVariables false
open Go.RowKit
set_option maxRecDepth 100000

theorem wrap_kb {k b : Nat} (h1 : k ≤ 40) (h2 : b ≤ 255) : wrap64 ((k : Int) + (b : Int)) = (k : Int) + (b : Int) ∧ wrap64 (b : Int) = (b : Int) := by
  unfold wrap64; omega
theorem turn_int {k b n j : Nat} (hj : (k + b) % n = j) : ((k : Int) + (b : Int)).tmod (n : Int) = (j : Int) := by
  have e2 : ((k : Int) + (b : Int)) % (n : Int) = (j : Int) := by rw [← hj]; push_cast; rfl
  rw [Int.tmod_eq_emod_of_nonneg (by omega)]; exact e2
theorem foldRc_ok7 {r : RecD} : (foldRc r).name.length ≤ 255 := fold_le _
set_option maxHeartbeats 8000000 in
theorem law30_rows (v : Value) (l : List RecD) (by_ : Int) (q : List UInt8) (w : World) (hg : Laid w) (hb : BitsAt w) (h : Recs w 0 v l) (hwf : ∀ r ∈ l, r.wf) (hs : ∀ r ∈ l, r.name.length ≤ maxLen ∧ r.data.length ≤ maxLen) (hby : 0 ≤ by_ ∧ by_ ≤ 255) (hq : q.length ≤ maxLen) :
    Calls Tryz.prog 8 #[v, .int .u8 by_, S q] w fun e w' => e = .returned (.bool true) ∧ Ext w w' := by
  unfold maxLen at hq
  have HFw := Lib.hid (law30_few 0 v l w h hs)
  have HAw := Lib.hid (fun V (hV : Ext w V) => law30_awake V (hg.ext hV) (hb.ext hV))
  have HH := Lib.hid h
  obtain ⟨A, c, rfl, h1, h2, hrd⟩ := h
  unfold maxLen at h2
  unfold FewPost at HFw
  go_enter Tryz.func8, Tryz.ntmps8
  go_wp2_with fail
  refine HFw.out.mono ?_
  rintro e w1 ⟨B, rfl, hB, rfl⟩
  rcases B with _ | _
  · go_wp2_with fail
    refine (HAw.out _ (Ext.refl _)).mono ?_
    rintro e w2 ⟨rfl, hE2⟩
    go_wp2_with fail
    go_ret
    exact ⟨rfl, hE2⟩
  have hfew := hB rfl
  have HFe := Lib.hid hfew
  clear hB HFw
  by_cases h40 : 40 < l.length
  · have h40i : decide ((40 : Int) < (l.length : Int)) = true := decide_eq_true (by omega)
    go_wp2_with fail
    refine (HAw.out _ (Ext.refl _)).mono ?_
    rintro e w2 ⟨rfl, hE2⟩
    go_wp2_with fail
    go_ret
    exact ⟨rfl, hE2⟩
  have h40i : decide ((40 : Int) < (l.length : Int)) = false := decide_eq_false (by omega)
  by_cases hq3 : 3000 < q.length
  · have hqi : decide ((3000 : Int) < (q.length : Int)) = true := decide_eq_true (by omega)
    go_wp2_with fail
    refine (HAw.out _ (Ext.refl _)).mono ?_
    rintro e w2 ⟨rfl, hE2⟩
    go_wp2_with fail
    go_ret
    exact ⟨rfl, hE2⟩
  have hqi : decide ((3000 : Int) < (q.length : Int)) = false := decide_eq_false (by omega)
  go_wp2_with fail
  refine (HAw.out _ (Ext.refl _)).mono ?_
  rintro e w2 ⟨rfl, hE2⟩
  have HN1 := Lib.hid (res_new 0 _ l w2 (hg.ext hE2) (HH.out.ext hE2) hfew.bd (recsOk_wf hwf))
  unfold NewPost at HN1
  go_wp2_with fail
  refine HN1.out.mono ?_
  rintro e w3 (⟨hall, R1, gv, rfl, hR1l, hR1, ho1, hE3⟩ | ⟨_, rfl, hE3⟩)
  rotate_left
  · go_wp2_with fail
    go_ret
    exact ⟨rfl, hE2.trans hE3⟩
  have hw3 : Ext w w3 := hE2.trans hE3
  have hokl : ∀ r ∈ l, okRec r = true := List.all_eq_true.1 hall
  have HOk := Lib.hid hokl
  have HS1 := Lib.hid (ho1.sets.lower (Nat.zero_le _))
  have HR1 := Lib.hid hR1
  clear ho1 hall hokl hfew HN1
  obtain ⟨i0, hi0, hz0, hz1, hz2⟩ := info_parts info_rec7
  obtain ⟨byn, hbyn⟩ : ∃ b : Nat, by_ = (b : Int) := ⟨by_.toNat, by omega⟩
  have hb255 : byn ≤ 255 := by omega
  have HBy := Lib.hid hbyn
  clear hbyn
  have hl40 : l.length ≤ 40 := by omega
  have hT0 := Lib.hid (show turnF l byn 0 = [] from rfl)
  go_wp2_with fail
  go_loopw [9, 10, 11] (fun s9 s10 _ wr => ∃ (k : Nat) (A9 : Option Addr) (c9 : Nat), k ≤ l.length ∧ s10 = .int .i64 k ∧ s9 = .slice A9 k c9 ∧ Own wr w3.heap.size 56 5 A9 k c9 ((turnF l byn k).flatMap recCells) ∧ Ext w3 wr) (fun _ s10 _ _ => l.length - (intOf s10).toNat)
  case atStart => exact ⟨0, none, 0, Nat.zero_le _, rfl, rfl, by rw [hT0.out]; exact Own.nil _ _ _ _, Ext.refl _⟩
  case round =>
    obtain ⟨k, A9, c9, hk, rfl, rfl, hown, hE4⟩ := hrel
    obtain ⟨wo, rfl⟩ : ∃ wo : World, wo = wr := ⟨_, rfl⟩
    have hwo : Ext w wo := hw3.trans hE4
    by_cases hkl : k < l.length
    · obtain ⟨j, hj⟩ : ∃ j, (k + byn) % l.length = j := ⟨_, rfl⟩
      have hjl : j < l.length := by rw [← hj]; exact Nat.mod_lt _ (by omega)
      have hln : ¬ ((l.length : Int) = 0) := by omega
      have hln1 : ((l.length : Int) == 0) = false := by rw [beq_eq_false_iff_ne]; exact hln
      obtain ⟨b, off, rfl, _, hbz, hc⟩ := hrd.2 (by omega)
      obtain ⟨x0, x1, x2, x3, x4⟩ := recs_cells hc j l[j] (List.getElem?_eq_getElem hjl)
      rw [← hwo.cell (p := ⟨b, _, none⟩) hbz] at x0 x1 x2 x3 x4
      have HT := Lib.hid (turnF_step l byn k j hjl hj)
      have hrs := HFe.out.2 l[j] (List.getElem_mem hjl)
      have HKl := Lib.hid hkl
      generalize l[j] = r at *
      obtain ⟨nm, ty, cl, tt, da⟩ := r
      dsimp only at *
      have hji : (j : Int) < (l.length : Int) := by omega
      have hj0 : (0 : Int) ≤ (j : Int) := by omega
      have hki : (k : Int) < (l.length : Int) := by omega
      have hk0 : (0 : Int) ≤ (k : Int) := by omega
      have e3 := turn_int hj
      obtain ⟨hw64, hwb⟩ := wrap_kb (Nat.le_trans hk hl40) hb255
      rw [← HBy.out] at e3 hw64 hwb
      clear hc hj
      obtain ⟨X11, hX11⟩ : ∃ X11, X11 = wo.alloc (.cells #[S nm, .int .u16 ty, .int .u16 cl, .int .u32 tt, S da] 56) := ⟨_, rfl⟩
      obtain ⟨g11, hg11⟩ : ∃ g11, g11 = wo.heap.size := ⟨_, rfl⟩
      have r11 : X11.heap[g11]? = some (.cells #[S nm, .int .u16 ty, .int .u16 cl, .int .u32 tt, S da] 56) := by rw [hX11, hg11]; exact heap_alloc_new _ _
      have hEX : Ext wo X11 := by rw [hX11]; exact (Ext.refl _).alloc _
      have hgo : wo.heap.size ≤ g11 := by rw [hg11]; exact Nat.le_refl _
      have hwX : Ext w X11 := hwo.trans hEX
      have HNf := Lib.hid (fun V => name_fold nm V (by unfold maxLen; omega))
      have HRf := Lib.hid (fun V (hV : Ext w V) => rdata_fold ty da V (hg.ext hV) (by omega))
      have hdl : (rfold ty da).length ≤ 1048576 := by have := rfold_len ty da; omega
      go_wp2_with fail
      rw [← hX11, ← hg11]
      clear hX11 hg11 x0 x1 x2 x3 x4 e3 hw64 hwb
      go_cut [] (fun wx => wx.heap[g11]? = some (.cells #[S (fold nm), .int .u16 ty, .int .u16 cl, .int .u32 tt, S (rfold ty da)] 56) ∧ Ext wo wx)
      case first =>
        have k0 := box_cell (j := 0) r11 rfl
        have k1 := box_cell (j := 1) r11 rfl
        have k4 := box_cell (j := 4) r11 rfl
        go_region_with (first
          | (go_at_call 29; refine (HNf.out _).mono ?_; rintro e wa ⟨rfl, hEa⟩; have ra := (hEa.block _ (Array.getElem?_eq_some_iff.1 r11).1).trans r11; have a0 := box_cell (j := 0) ra rfl; have a1 := box_cell (j := 1) ra rfl; have a4 := box_cell (j := 4) ra rfl)
          | (go_at_call 36; refine (HRf.out _ (by first | exact hwX.trans hEa | exact (hwX.drew).trans hEa)).mono ?_; rintro e wb ⟨rfl, hEb⟩; have rb := (hEb.block _ (Array.getElem?_eq_some_iff.1 ra).1).trans ra; have b0 := box_cell (j := 0) rb rfl; have b4 := box_cell (j := 4) rb rfl; have f0 := box_free (j := 0) rb; have f4 := box_free (j := 4) rb))
        all_goals
          go_wp2_with fail
          go_meet
          refine ⟨row_set (row_set rb 0 _) 4 _, ((Ext.trans (Ext.trans (by (repeat (first | with_reducible exact Ext.refl _ | with_reducible assumption | with_reducible refine Ext.alloc ?_ _ | with_reducible refine Ext.drewN ?_ _ | with_reducible refine Ext.drew ?_ | (with_reducible refine Ext.setCell ?_ ?hp _; case hp => (simp <;> omega))))) hEa) (Ext.trans (by (repeat (first | with_reducible exact Ext.refl _ | with_reducible assumption | with_reducible refine Ext.alloc ?_ _ | with_reducible refine Ext.drewN ?_ _ | with_reducible refine Ext.drew ?_ | (with_reducible refine Ext.setCell ?_ ?hp _; case hp => (simp <;> omega))))) hEb)).setCell hgo _).setCell hgo _⟩
      case rest =>
        obtain ⟨r12, hE12⟩ := hcut
        obtain ⟨W12, rfl⟩ : ∃ W12 : World, W12 = wc := ⟨_, rfl⟩
        have q0 := box_cell (j := 0) r12 rfl
        have q1 := box_cell (j := 1) r12 rfl
        have q2 := box_cell (j := 2) r12 rfl
        have q3 := box_cell (j := 3) r12 rfl
        have q4 := box_cell (j := 4) r12 rfl
        have hsz : w3.heap.size ≤ W12.heap.size := (hE4.trans hE12).size
        go_wp2_with (first
          | (at_builtin
             refine wpList_app _ rfl (.tmp 65) (.tmp 67) _ rfl w3.heap.size 56 i0 _ 5 40 Tryz.underlying40 hi0 hz0 hz1 hz2 rfl (by omega) A9 k c9 ((turnF l byn k).flatMap recCells) rfl (by exact (hown.ext hE12).ext (by (repeat (first | with_reducible exact Ext.refl _ | with_reducible assumption | with_reducible refine Ext.alloc ?_ _ | with_reducible refine Ext.drewN ?_ _ | with_reducible refine Ext.drew ?_ | (with_reducible refine Ext.setCell ?_ ?hp _; case hp => (simp <;> omega)))))) 0 _ 1 1 (recCells ⟨fold nm, ty, cl, tt, rfold ty da⟩) rfl (rd_new _ _ (by simp) _ _ 1 5 rfl) (rec_one7 _) (by omega) (by omega) (by simp; omega) ?_
             intro A6 c6 w6 hown6 hg6 hb6 _)
          | fail)
        go_roundw
        case rel =>
          refine ⟨k + 1, A6, c6, by have := HKl.out; omega, by go_num, rfl, ?_, Ext.then ((hE4.trans hE12).trans (by (repeat (first | with_reducible exact Ext.refl _ | with_reducible assumption | with_reducible refine Ext.alloc ?_ _ | with_reducible refine Ext.drewN ?_ _ | with_reducible refine Ext.drew ?_ | (with_reducible refine Ext.setCell ?_ ?hp _; case hp => (simp <;> omega)))))) hb6 (Nat.le_refl _)⟩
          rw [HT.out, List.flatMap_append, List.flatMap_singleton]
          exact hown6
        case measure => (have := HKl.out); simp [intOf]; omega
    · obtain rfl : k = l.length := by omega
      have HTl := Lib.hid (turnF_len l byn l.length)
      obtain ⟨xs, hxs⟩ : ∃ xs, xs = turnF l byn l.length := ⟨_, rfl⟩
      rw [← hxs] at hown HTl
      have hmem : ∀ x ∈ xs, ∃ r ∈ l, x = foldRc r := fun x hx => by
        rw [hxs] at hx
        unfold turnF at hx
        obtain ⟨y, hy, rfl⟩ := List.mem_map.1 hx
        exact ⟨y, (turnC_mem l byn y).1 hy, rfl⟩
      have HGr := Lib.hid (show groupR (xs ++ l) = groupR l from by rw [hxs]; exact turnF_group byn HOk.out)
      have hin : ∀ x ∈ xs ++ l, x.wf ∧ okRec x = true ∧ x.name.length ≤ 400 ∧ x.data.length ≤ 300000 := fun x hx => by
        rcases List.mem_append.1 hx with hx | hx
        · obtain ⟨r, hr, rfl⟩ := hmem x hx
          have h1 := HOk.out r hr
          have h2 := hwf r hr
          have h3 := HFe.out.2 r hr
          have h4 := (foldO_same r).1
          have e : foldOc r = foldRc r := by unfold foldOc; rw [if_pos h1]
          rw [e] at h4
          refine ⟨⟨h2.1, h2.2.1, h2.2.2⟩, h4.trans h1, ?_, ?_⟩
          · have := foldRc_ok7 (r := r); omega
          · show (rfold r.typ r.data).length ≤ _
            have := rfold_len r.typ r.data; omega
        · have h3 := HFe.out.2 x hx
          exact ⟨hwf x hx, HOk.out x hx, h3.1, by omega⟩
      have hlen2 : (xs ++ l).length = l.length + l.length := by rw [List.length_append, HTl.out]
      have HBd2 := Lib.hid (show RecsBd (xs ++ l) from ⟨by omega, fun x hx => by have := hin x hx; omega⟩)
      have HWf2 := Lib.hid (show ∀ x ∈ xs ++ l, x.wf from fun x hx => (hin x hx).1)
      have HAll2 := Lib.hid (show (xs ++ l).all okRec = true from List.all_eq_true.2 fun x hx => (hin x hx).2.1)
      have HL2 := Lib.hid hlen2
      have hsz : w3.heap.size ≤ wo.heap.size := hE4.size
      have hki : ¬ ((l.length : Int) < (l.length : Int)) := by omega
      clear hin hmem hxs hlen2
      go_wp2_with (first
        | (at_builtin
           refine wpList_app _ rfl (.tmp 70) (.tmp 71) _ rfl w3.heap.size 56 i0 _ 5 40 Tryz.underlying40 hi0 hz0 hz1 hz2 rfl (by omega) A9 l.length c9 (xs.flatMap recCells) rfl hown 0 A l.length c (l.flatMap recCells) rfl (hrd.ext hwo) (recs_one30 l) (by omega) (by omega) hsz ?_
           intro A6 c6 w6 hown6 hg6 hb6 _)
        | fail)
      have h36 : Ext w3 w6 := hE4.then hb6 (Nat.le_refl _)
      have hw6 : Ext w w6 := hw3.trans h36
      have HXr := Lib.hid (show Recs w6 0 (.slice A6 (l.length + l.length) c6) (xs ++ l) from ⟨A6, c6, by rw [HL2.out], by rw [HL2.out]; exact hown6.cap.1, hown6.cap.2, by rw [HL2.out, List.flatMap_append]; exact hown6.rd.lower (Nat.zero_le _)⟩)
      have HN2 := Lib.hid (res_new 0 _ (xs ++ l) w6 (hg.ext hw6) HXr.out HBd2.out (recsOk_wf HWf2.out))
      unfold NewPost at HN2
      have r16 := (h36.block _ (Array.getElem?_eq_some_iff.1 hR1).1).trans hR1
      clear hown hown6 hg6 hb6 hsz
      go_wp2_with fail
      refine HN2.out.mono ?_
      rintro e w7 (⟨-, R2, gv2, rfl, _, hR2, ho2, hE7⟩ | ⟨hno, _⟩)
      rotate_left
      · rw [HAll2.out] at hno; cases hno
      have hw7 : Ext w w7 := hw6.trans hE7
      have r17 := (hE7.block _ (Array.getElem?_eq_some_iff.1 r16).1).trans r16
      have HS27 := Lib.hid (ho2.sets.lower (Nat.zero_le _))
      have HS17 := Lib.hid (HS1.out.ext (h36.trans hE7))
      have HLn := Lib.hid (group_lens30 l)
      have hl40' := hl40
      have HA2 := Lib.hid (res_answer (xs ++ l) gv2 R2 q w7 (hg.ext hw7) (hb.ext hw7) (box_cell hR2 rfl) HS27.out HBd2.out HWf2.out (by omega))
      have HA1 := Lib.hid (fun V (hV : Ext w7 V) => res_answer l gv R1 q V (hg.ext (hw7.trans hV)) (hb.ext (hw7.trans hV)) (box_cell ((hV.block _ (Array.getElem?_eq_some_iff.1 r17).1).trans r17) rfl) (HS17.out.ext hV) HFe.out.bd hwf (by omega))
      rw [HGr.out] at HA2 HS27
      have HT2 := Lib.hid (fun V (hV : Ext w7 V) => res_records R2 gv2 (groupR l) V (box_cell ((hV.block _ (Array.getElem?_eq_some_iff.1 hR2).1).trans hR2) rfl) (HS27.out.ext hV) (by have := HLn.out.1; omega) (fun s hs => by have := HLn.out.2.1 s hs; omega) (by have := HLn.out.2.2; omega))
      have HT1 := Lib.hid (fun V (hV : Ext w7 V) => res_records R1 gv (groupR l) V (box_cell ((hV.block _ (Array.getElem?_eq_some_iff.1 r17).1).trans r17) rfl) (HS17.out.ext hV) (by have := HLn.out.1; omega) (fun s hs => by have := HLn.out.2.1 s hs; omega) (by have := HLn.out.2.2; omega))
      unfold StrPost at HA1 HA2
      unfold CollPost at HT1 HT2
      have HSa := Lib.hid (show ∀ (x : List RecD) v1 v2 V, Recs V 0 v1 x → Recs V 0 v2 x → Calls Tryz.prog 32 #[v1, v2] V fun e w' => e = .returned (.bool true) ∧ Ext V w' from fun x v1 v2 V a b => by
        have := ref_sameRecords x x v1 v2 0 0 V a b
        rw [decide_eq_true rfl] at this
        exact this)
      generalize resOf (groupR l) q = rs at *
      generalize (groupR l).flatMap recsOf = rr at *
      clear ho2 hR1 hR2 r16 r17 HN2 HXr hl40'
      go_wp2_with fail
      refine HA2.out.mono ?_
      rintro e w8 ⟨rfl, hE8⟩
      go_wp2_with fail
      refine (HA1.out _ hE8).mono ?_
      rintro e w9 ⟨rfl, hE9⟩
      have h79 := hE8.trans hE9
      have HT2' := Lib.hid (HT2.out _ h79)
      go_wp2_with fail
      refine HT2'.out.mono ?_
      rintro e wt ⟨TA, tc, rfl, hot, hEt⟩
      have HOt := Lib.hid (show Recs wt 0 (.slice TA rr.length tc) rr from ⟨TA, tc, rfl, hot.cap.1, hot.cap.2, hot.rd.lower (Nat.zero_le _)⟩)
      have HT1' := Lib.hid (HT1.out _ (h79.trans hEt))
      clear hot
      go_wp2_with fail
      refine HT1'.out.mono ?_
      rintro e wu ⟨UA, uc, rfl, hou, hEu⟩
      have HSc := Lib.hid (HSa.out rr _ _ wu (HOt.out.ext hEu) (show Recs wu 0 (.slice UA rr.length uc) rr from ⟨UA, uc, rfl, hou.cap.1, hou.cap.2, hou.rd.lower (Nat.zero_le _)⟩))
      clear hou
      go_wp2_with fail
      refine HSc.out.mono ?_
      rintro e wv ⟨rfl, hEv⟩
      go_wp2_with fail
      go_ret
      exact ⟨rfl, (((hw7.trans h79).trans hEt).trans hEu).trans hEv⟩
end Go.Proofs.YtbmjfjgfognimaaGreatDoor
namespace Go.Proofs.YtbmjfjgfognimaaGreatDoor
set_option linter.unusedSimpArgs false
set_option linter.unusedVariables false
open Go.ChangeShapes Go.WideShapes Go.RowKit Go.Deep Go.Joins
set_option maxRecDepth 100000

theorem wf_u8c {n : Int} (h : (Lit.int .u8 n).wf = true) : 0 ≤ n ∧ n ≤ 255 := by
  have h1 : IntKind.u8.min = 0 := rfl
  have h2 : IntKind.u8.max = 255 := rfl
  simp [Lit.wf] at h; omega
theorem some_atc {α : Type} {l : List α} {n j : Nat} (h : l.length = n) (hj : j < n) : ∃ x, l[j]? = some x := ⟨l[j]'(by omega), List.getElem?_eq_getElem _⟩
end Go.Proofs.YtbmjfjgfognimaaGreatDoor
namespace Go.Proofs.YtbmjfjgfognimaaGreatDoor
set_option linter.unusedSimpArgs false
set_option linter.unusedVariables false
open Go.ChangeShapes Go.WideShapes Go.RowKit Go.Deep Go.Joins
set_option maxRecDepth 100000

theorem bytes_set7 : Tryz.prog.bytesOf 54 = 48 := by kernel_rfl
theorem weights_row7 {H : Type} {d : DataW H} {elems sp : List (DataW H)} (h : d = .slice elems sp) : (elems.length + sp.length) * 48 ∈ d.weights Tryz.prog 22 := by
  subst h
  simp only [DataW.weights, Tryz.underlying22, bytes_set7, List.mem_cons, true_or]
theorem sets_trod7 {H : Type} {enc : TypeId × Value → H} {W : World} {fuel : Nat} {v : Value} {y : DataW H × List MemPlace}
    (hf : DataW.trod enc Tryz.prog W 0 (fun _ => true) true fuel 22 [v] = some y) :
    ∃ l : List SetD, Sets W 0 v l ∧ (∀ s ∈ l, SetIn s ∧ s.name.length ∈ y.1.weights Tryz.prog 22 ∧ ∀ x ∈ s.data, x.length ∈ y.1.weights Tryz.prog 22) ∧ (l.length = 0 ∨ ∃ m, m ∈ y.1.weights Tryz.prog 22 ∧ l.length ≤ m) := by
  rcases open_slice_fields Tryz.underlying22 Tryz.underlying54 (by kernel_rfl) (by kernel_rfl) hf with ⟨e, _⟩ | ⟨a, len, cap, m, D, Pl, e, _, hl, hm, hmm, hdp, hi⟩
  · simp only [List.cons.injEq, and_true] at e
    rw [e]
    exact ⟨[], ⟨[], none, 0, rfl, rfl, Nat.le_refl _, by unfold maxLen; omega, Rd.nil _ _ _ _, by simp⟩, by simp, .inl rfl⟩
  · simp only [List.cons.injEq, and_true] at e
    rw [e]
    have hmc : len ≤ m := by rw [hmm]; split <;> omega
    have hdd := (Prod.mk.inj hdp).1
    obtain ⟨l, hll, hq⟩ := pick ((SetD.zero, .slice none 0 0) : SetD × Value) len (fun i r => (W.cell? (a.add (i * 5 + 0)) = some (S r.1.name) ∧ W.cell? (a.add (i * 5 + 1)) = some (.int .u16 r.1.typ) ∧ W.cell? (a.add (i * 5 + 2)) = some (.int .u16 r.1.cls) ∧ W.cell? (a.add (i * 5 + 3)) = some (.int .u32 r.1.ttl) ∧ W.cell? (a.add (i * 5 + 4)) = some r.2) ∧ Strs W 0 r.2 r.1.data ∧ SetIn r.1 ∧ r.1.name.length ∈ y.1.weights Tryz.prog 22 ∧ ∀ x ∈ r.1.data, x.length ∈ y.1.weights Tryz.prog 22) (fun i hi' => by
      obtain ⟨ys, n, hD, _, _, hy⟩ := hi i (by omega)
      obtain ⟨v0, y0, c0, g0, t0⟩ := hy 0 _ rfl
      obtain ⟨v1, y1, c1, _, t1⟩ := hy 1 _ rfl
      obtain ⟨v2, y2, c2, _, t2⟩ := hy 2 _ rfl
      obtain ⟨v3, y3, c3, _, t3⟩ := hy 3 _ rfl
      obtain ⟨v4, y4, c4, g4, t4⟩ := hy 4 _ rfl
      obtain ⟨s, e0, z0, hs⟩ := DataW.trod_string Tryz.underlying9 t0
      obtain ⟨x1, e1, _, w1⟩ := DataW.trod_int Tryz.underlying26 t1
      obtain ⟨x2, e2, _, w2⟩ := DataW.trod_int Tryz.underlying26 t2
      obtain ⟨x3, e3, _, w3⟩ := DataW.trod_int Tryz.underlying25 t3
      obtain ⟨sl, hsl, hsw⟩ := open_strs t4
      injection e0 with e0 _
      injection e1 with e1 _
      injection e2 with e2 _
      injection e3 with e3 _
      subst e0 e1 e2 e3
      rw [S_of] at c0
      have hmem : D i ∈ (List.range len).map D := List.mem_map.2 ⟨i, List.mem_range.2 hi', rfl⟩
      refine ⟨(⟨s.data.toList, x1, x2, x3, sl⟩, v4), ⟨c0, c1, c2, c3, c4⟩, hsl, ⟨wf_u16 w1, wf_u16 w2, wf_u32 w3⟩, ?_, fun x hx => ?_⟩
      · rw [hdd]
        refine weights_elem Tryz.underlying22 hmem ?_
        rw [hD]
        refine weights_field (j := 0) (d := y0.1) Tryz.underlying54 rfl (by simp [g0]) ?_
        rw [z0]; exact weights_str _ s
      · rw [hdd]
        refine weights_elem Tryz.underlying22 hmem ?_
        rw [hD]
        exact weights_field (j := 4) (d := y4.1) Tryz.underlying54 rfl (by simp [g4]) (hsw x hx))
    subst hll
    refine ⟨l.map Prod.fst, ⟨l, some a, cap, rfl, rfl, hl, hm, ?_, fun p hp => ?_⟩, fun s hs => ?_, .inr ⟨_, weights_row7 (by rw [hdd]), by simp only [List.length_map, List.length_range]; omega⟩⟩
    · refine ⟨flatS_len l, fun h0 => ?_⟩
      have hz := (hq 0 h0).1.1
      rw [show a.add (0 * 5 + 0) = a from rfl] at hz
      obtain ⟨ea, hb⟩ := spot_of hz
      refine ⟨a.block, a.off, by rw [← ea], Nat.zero_le _, hb, sets_of fun i hi' => ?_⟩
      have := (hq i hi').1
      rw [ea] at this
      simp only [add_none] at this
      exact this
    · obtain ⟨i, hi', rfl⟩ := List.getElem_of_mem hp
      exact (hq i hi').2.1
    · obtain ⟨p, hp, rfl⟩ := List.mem_map.1 hs
      obtain ⟨i, hi', rfl⟩ := List.getElem_of_mem hp
      exact (hq i hi').2.2
/-- What the form's reach says of a text's length. -/
theorem open_verdict7 {H : Type} {enc : TypeId × Value → H} {W : World} {r : Reach} {b0 : Nat} {v : Value} {d : DataW H} {p : List MemPlace}
    (hv : Value.okWide Tryz.prog W r b0 24 v) (h : DataW.Trod enc Tryz.prog W 0 (fun _ => true) true 24 v d p) :
    ∃ (code : Int) (vs vo : Value) (ss oo : List SetD), v = .agg #[.int .u8 code, vs, vo] ∧ Sets W 0 vs ss ∧ Sets W 0 vo oo ∧ (0 ≤ code ∧ code ≤ 255) ∧
      (∀ s ∈ ss ++ oo, SetIn s ∧ s.name.length ∈ d.weights Tryz.prog 24 ∧ ∀ x ∈ s.data, x.length ∈ d.weights Tryz.prog 24) ∧
      (ss.length = 0 ∨ ∃ m, m ∈ d.weights Tryz.prog 24 ∧ ss.length ≤ m) ∧ (oo.length = 0 ∨ ∃ m, m ∈ d.weights Tryz.prog 24 ∧ oo.length ≤ m) := by
  obtain ⟨cs, rfl, hsz⟩ := okWide_struct Tryz.underlying24 hv
  obtain ⟨l⟩ := cs
  have hC : Tryz.prog.cellsOf 24 = 3 := by kernel_rfl
  match l, hsz.trans hC with
  | [c0, c1, c2], _ =>
    obtain ⟨fuel, hf⟩ := h
    obtain ⟨xs, n, _, hd, _, hlen, hg⟩ := DataW.trod_struct Tryz.underlying24 hf
    have hd1 := (Prod.mk.inj hd).1
    obtain ⟨y0, hy0⟩ := some_atc hlen (show 0 < _ by decide)
    obtain ⟨y1, hy1⟩ := some_atc hlen (show 1 < _ by decide)
    obtain ⟨y2, hy2⟩ := some_atc hlen (show 2 < _ by decide)
    have g0 : DataW.trod enc Tryz.prog W 0 (fun _ => true) true n 5 ((([c0, c1, c2] : List Value).drop 0).take (Tryz.prog.cellsOf 5)) = some y0 := (hg 0 _ rfl).trans hy0
    have g1 : DataW.trod enc Tryz.prog W 0 (fun _ => true) true n 22 ((([c0, c1, c2] : List Value).drop 1).take (Tryz.prog.cellsOf 22)) = some y1 := (hg 1 _ rfl).trans hy1
    have g2 : DataW.trod enc Tryz.prog W 0 (fun _ => true) true n 22 ((([c0, c1, c2] : List Value).drop 2).take (Tryz.prog.cellsOf 22)) = some y2 := (hg 2 _ rfl).trans hy2
    rw [show Tryz.prog.cellsOf 5 = 1 by kernel_rfl] at g0
    rw [show Tryz.prog.cellsOf 22 = 1 by kernel_rfl] at g1 g2
    simp only [List.drop_succ_cons, List.drop_zero, List.take_succ_cons, List.take_zero] at g0 g1 g2
    obtain ⟨x, e0, _, w0⟩ := DataW.trod_int Tryz.underlying5 g0
    simp only [List.cons.injEq, and_true] at e0
    subst e0
    obtain ⟨ss, hs, hsw, hsl⟩ := sets_trod7 g1
    obtain ⟨oo, ho, how, hol⟩ := sets_trod7 g2
    have up1 : ∀ {m : Nat}, m ∈ y1.1.weights Tryz.prog 22 → m ∈ d.weights Tryz.prog 24 := fun hm => by
      rw [hd1]; exact weights_field (j := 1) (d := y1.1) Tryz.underlying24 rfl (by simp [hy1]) hm
    have up2 : ∀ {m : Nat}, m ∈ y2.1.weights Tryz.prog 22 → m ∈ d.weights Tryz.prog 24 := fun hm => by
      rw [hd1]; exact weights_field (j := 2) (d := y2.1) Tryz.underlying24 rfl (by simp [hy2]) hm
    refine ⟨x, c1, c2, ss, oo, rfl, hs, ho, wf_u8c w0, fun s hm => ?_, ?_, ?_⟩
    · rcases List.mem_append.1 hm with hm | hm
      · exact ⟨(hsw s hm).1, up1 (hsw s hm).2.1, fun x hx => up1 ((hsw s hm).2.2 x hx)⟩
      · exact ⟨(how s hm).1, up2 (how s hm).2.1, fun x hx => up2 ((how s hm).2.2 x hx)⟩
    · exact hsl.imp id fun ⟨m, h1, h2⟩ => ⟨m, up1 h1, h2⟩
    · exact hol.imp id fun ⟨m, h1, h2⟩ => ⟨m, up2 h1, h2⟩
end Go.Proofs.YtbmjfjgfognimaaGreatDoor
namespace Go.Proofs.YtbmjfjgfognimaaGreatDoor
set_option linter.unusedSimpArgs false
set_option linter.unusedVariables false
open Go.ChangeShapes Go.WideShapes Go.RowKit Go.Deep Go.Joins
set_option maxRecDepth 100000
section
variable {H : Type} {enc : TypeId × Value → H} {P : Program} {w : World} {base : Nat} {spare : Nat → Bool} {held : Bool}
theorem trodAll_five {t0 t1 t2 t3 t4 : TypeId} {args : Array Value} {ds : List (DataW H)} {ps : List MemPlace} (h : DataW.TrodAll enc P w base spare held [t0, t1, t2, t3, t4] args.toList ds ps) :
    ∃ v0 v1 v2 v3 v4 d0 d1 d2 d3 d4 p0 p1 p2 p3 p4, args = #[v0, v1, v2, v3, v4] ∧ ds = [d0, d1, d2, d3, d4] ∧ ps = p0 ++ p1 ++ p2 ++ p3 ++ p4 ∧ DataW.Trod enc P w base spare held t0 v0 d0 p0 ∧ DataW.Trod enc P w base spare held t1 v1 d1 p1 ∧ DataW.Trod enc P w base spare held t2 v2 d2 p2 ∧ DataW.Trod enc P w base spare held t3 v3 d3 p3 ∧ DataW.Trod enc P w base spare held t4 v4 d4 p4 := by
  obtain ⟨v0, vs0, d0, ds0, p0, q0, hargs, rfl, rfl, h0, r0⟩ := trodAll_cons h
  obtain ⟨v1, vs1, d1, ds1, p1, q1, rfl, rfl, rfl, h1, r1⟩ := trodAll_cons r0
  obtain ⟨v2, vs2, d2, ds2, p2, q2, rfl, rfl, rfl, h2, r2⟩ := trodAll_cons r1
  obtain ⟨v3, vs3, d3, ds3, p3, q3, rfl, rfl, rfl, h3, r3⟩ := trodAll_cons r2
  obtain ⟨v4, vs4, d4, ds4, p4, q4, rfl, rfl, rfl, h4, r4⟩ := trodAll_cons r3
  obtain ⟨rfl, rfl, rfl⟩ := trodAll_nil r4
  exact ⟨v0, v1, v2, v3, v4, d0, d1, d2, d3, d4, p0, p1, p2, p3, p4, by cases args; simp_all, rfl, by simp, h0, h1, h2, h3, h4⟩
end
end Go.Proofs.YtbmjfjgfognimaaGreatDoor
namespace Go.Proofs.YtbmjfjgfognimaaGreatDoor
set_option linter.unusedSimpArgs false
set_option linter.unusedVariables false
open Go.ChangeShapes Go.WideShapes Go.RowKit Go.Deep Go.Joins
set_option maxRecDepth 100000

theorem open_u8r {H : Type} {enc : TypeId × Value → H} {W : World} {r : Reach} {b0 : Nat} {v : Value} {d : DataW H} {p : List MemPlace}
    (hv : Value.okWide Tryz.prog W r b0 5 v) (h : DataW.Trod enc Tryz.prog W 0 (fun _ => true) true 5 v d p) : ∃ n : Int, v = .int .u8 n ∧ 0 ≤ n ∧ n ≤ 255 := by
  obtain ⟨n, rfl⟩ := okWide_int Tryz.underlying5 hv
  obtain ⟨fuel, hf⟩ := h
  obtain ⟨x, e, _, wf⟩ := DataW.trod_int Tryz.underlying5 hf
  simp only [Value.cells, List.cons.injEq, and_true] at e
  injection e with _ e
  subst e
  exact ⟨n, rfl, wf_u8c wf⟩
theorem open_strr {H : Type} {enc : TypeId × Value → H} {W : World} {r : Reach} {b0 : Nat} {v : Value} {d : DataW H} {p : List MemPlace}
    (hv : Value.okWide Tryz.prog W r b0 9 v) (h : DataW.Trod enc Tryz.prog W 0 (fun _ => true) true 9 v d p) : ∃ n : List UInt8, v = S n ∧ n.length ≤ maxLen := by
  obtain ⟨s, rfl⟩ := okWide_string Tryz.underlying9 hv
  obtain ⟨fuel, hf⟩ := h
  obtain ⟨s', e, _, hs⟩ := DataW.trod_string Tryz.underlying9 hf
  simp only [Value.cells, List.cons.injEq, and_true] at e
  injection e with e
  subst e
  exact ⟨s.data.toList, S_of s, len_of hs⟩
end Go.Proofs.YtbmjfjgfognimaaGreatDoor
namespace Go.Proofs.YtbmjfjgfognimaaGreatDoor
set_option linter.unusedSimpArgs false
set_option linter.unusedVariables false
open Go.ChangeShapes Go.WideShapes Go.ChangeAt Go.RowKit
set_option maxRecDepth 100000

theorem resolverRows_contract (H : Type) (enc : TypeId × Value → H) (W : World) (base : Nat) (args : Array Value) (ds gs : List (DataW H)) (before : List MemPlace)
    (hval : ∀ (j : Nat) t v, Tryz.f8.params[j]? = some t → args[j]? = some v → Value.okWide Tryz.prog W .any base t v)
    (hW : DataW.Whole enc Tryz.prog Tryz.f8.params.toList Rows.resolverRowsSpec.vars false W args.toList ds gs before)
    (hsz : (DataW.weightsEach Tryz.prog (Tryz.f8.params.toList ++ (OpenSpec.ofChange Rows.resolverRowsSpec).bare.plain.varTypes Tryz.prog) (ds ++ gs)).all (· ≤ reachBytes) = true)
    (hL : laidMetH Tryz.prog laidL W) :
    Calls Tryz.prog 8 args W fun e W' => ∃ v, e = .returned v ∧ Rows.resolverRowsSpec.post enc Tryz.prog Tryz.f8 false true false false W args v W' := by
  have hW' := hW
  have hp : ∀ t ∈ Tryz.f8.params.toList, Tryz.prog.readableRec t = true ∧ t < Tryz.prog.types.size := by
    have h : (Tryz.f8.params.toList.all fun t => Tryz.prog.readableRec t && decide (t < Tryz.prog.types.size)) = true := by kernel_rfl
    simpa only [List.all_eq_true, Bool.and_eq_true, decide_eq_true_eq] using h
  have hg := laid_of hL
  have hb := laidbits_of hL
  obtain ⟨p, q, hA0, hV, rfl, _, _⟩ := hW
  have hA : DataW.TrodAll enc Tryz.prog W 0 (fun _ => true) true Tryz.f8.params.toList args.toList ds p := hA0
  clear hA0
  rw [Tryz.params8] at hA hval hsz
  obtain ⟨rfl, rfl⟩ := trodVars_none hV
  obtain ⟨v0, v1, v2, d0, d1, d2, p0, p1, p2, rfl, rfl, rfl, h0, h1, h2⟩ := trodAll_three hA
  obtain ⟨l, hr0, hlo⟩ := open_recsW (hval 0 _ _ rfl rfl) h0
  obtain ⟨by_, rfl, hi1, hi2⟩ := open_u8r (hval 1 _ _ rfl rfl) h1
  obtain ⟨q, rfl, hq⟩ := open_strr (hval 2 _ _ rfl rfl) h2
  refine (law30_rows v0 l by_ q W hg hb hr0 (fun r hr => (hlo r hr).1.2.2) (fun r hr => ⟨Nat.le_trans (reach_of hsz (j := 0) rfl rfl (hlo r hr).2.1) (by unfold maxLen; decide), Nat.le_trans (reach_of hsz (j := 0) rfl rfl (hlo r hr).2.2) (by unfold maxLen; decide)⟩) ⟨hi1, hi2⟩ hq).mono ?_
  rintro e W' ⟨rfl, hE⟩
  exact ⟨_, rfl, post_true laid_out rfl (by kernel_rfl) Tryz.underlying4 hp hW' rfl hE⟩

theorem resolverRows_reads (os : Os) {H : Type} (enc : TypeId × Value → H) : ∃ places, DataW.whole enc Tryz.prog ((laidWorld os).forCall (fun _ _ => 0) ⟨#[], #[.slice none 0 0, .int .u8 0, .string ⟨#[]⟩], []⟩).memory Tryz.f8.params.toList Rows.resolverRowsSpec.vars false (#[.slice none 0 0, .int .u8 0, .string ⟨#[]⟩] : Array Value).toList 8 = some ([.nil, .lit (.int .u8 0), .lit (.string [])], [], places) :=
  ⟨[], by kernel_rfl⟩
theorem resolverRows_lifted (os : Os) (started : os.Started) (H : Type) (enc : TypeId × Value → H) (F : Stop.Interp) :
    ReturnsInHanded {} Tryz.checked os 8 .any ((OpenSpec.ofChange Rows.resolverRowsSpec).preRow enc Tryz.prog Tryz.f8 Rows.resolverRowsRow.domain false Rows.resolverRowsRow.laid) (((OpenSpec.ofChange Rows.resolverRowsSpec).at F).post enc Tryz.prog Tryz.f8 false true false false) := by
  obtain ⟨places, hx⟩ := resolverRows_reads os enc
  refine returnsInHanded_of_row (C := Tryz.checked) (s := OpenSpec.ofChange Rows.resolverRowsSpec) own_knob started (by kernel_rfl) Tryz.func8
    (witness_row_at (enc := enc) (C := Tryz.checked) false (laidWorld os) #[.slice none 0 0, .int .u8 0, .string ⟨#[]⟩] rfl (by kernel_rfl) (by kernel_rfl) (by kernel_rfl)
      (OpenSpec.preRow_of_cond 8 hx (by kernel_rfl) (fun k hk => by cases hk) (by kernel_rfl) (laid_met os _))) ?_
  intro W base args ds gs before hval hW _ _ hsz hL _ _
  exact resolverRows_contract H enc W base args ds gs before hval hW hsz hL
theorem band_card (a b : Bool) (h1 : a = true) (h2 : b = true) : (a && b) = true := by rw [h1, h2]; rfl
set_option maxHeartbeats 4000000 in
theorem resolverRows_joined : joinedFacts Tryz.prog 8 Tryz.f8 (OpenSpec.ofChange Rows.resolverRowsSpec).bare Rows.resolverRowsRow = true := by
  unfold joinedFacts; repeat' (with_reducible refine band_card _ _ ?_ ?_)
  all_goals (as_aux_lemma => kernel_rfl)
set_option maxHeartbeats 4000000 in
theorem resolverRows_said : Rows.ResolverRowsSaid :=
  OpenClaim.holds_of_cond 8 Tryz.f8 rfl rfl rfl rfl rfl rfl rfl ⟨rfl, rfl, rfl, rfl, rfl⟩ rfl rfl rfl rfl rfl (by kernel_rfl) Tryz.func8 resolverRows_joined
    (of_decide_eq_true (by kernel_rfl)) (by unfold Func.isWrapper; first | (rw [if_pos (by decide +kernel)]; kernel_rfl) | (rw [if_neg (by decide +kernel)]; exact ⟨rfl, rfl⟩))
    (fun os started H enc _ F => by rw [OpenClaim.pre_eq_preRow]; exact resolverRows_lifted os started H enc F)
/-- THE CARD. -/
theorem resolverRows_card : Rows.ResolverRowsCardSaid :=
  Claim7.holds_tied_plain_at .later [] _ _ _ _ resolverRows_said (fun _ h => by cases h) (by as_aux_lemma => kernel_rfl) (fun _ h => by cases h) resolverRows_row_tie rfl ⟨rfl, rfl⟩ (by as_aux_lemma => kernel_rfl) rfl
    (fun f fn hf hfn => by
      obtain rfl : f = 8 := Option.some.inj ((show Tryz.prog.funcNamed Rows.resolverRowsRow.func = some 8 by kernel_rfl).symm.trans hf) |>.symm
      obtain rfl : fn = Tryz.f8 := (Option.some.inj (Tryz.func8.symm.trans hfn)).symm
      refine ⟨by kernel_rfl, fun j t ht => ?_⟩
      have h : (Tryz.f8.params.toList.all fun t => !Tryz.prog.wantsStandIn t) = true := by kernel_rfl
      have h2 := List.all_eq_true.1 h t (by simpa using Array.mem_of_getElem? ht)
      exact (by simpa using h2 : Tryz.prog.wantsStandIn t = false))
    (by as_aux_lemma => kernel_rfl)
#print axioms resolverRows_card
end Go.Proofs.YtbmjfjgfognimaaGreatDoor
