/- hustingslaw24.HeardAsked returns true for every input, and every argument reads behind the call as it read before; the listed variables are tied to the program's text. No condition of ours. -/
import Derived.Test.YtbmjfjgfognimaaGreatDoorCards
import Derived.Test.YtbmjfjgfognimaaGreatDoorTie
import Derived.Test.YtbmjfjgfognimaaGreatDoorHb
import Derived.ProofKit
import Derived.OpenShut
import Derived.LaidHandle
import Derived.LaidLaws
import Derived.Test.YtbmjfjgfognimaaGreatDoorHwy
import Derived.Deep.DeepHandedRow
import Derived.Stop.LaidTwo
import Derived.LaidSub
import Derived.Test.YtbmjfjgfognimaaGreatDoorHhd
import Derived.Test.YtbmjfjgfognimaaGreatDoorHpr
import Derived.Test.YtbmjfjgfognimaaGreatDoorHvp
import Derived.Test.YtbmjfjgfognimaaGreatDoorHhq
import Derived.Test.YtbmjfjgfognimaaGreatDoorHj
import Derived.Test.YtbmjfjgfognimaaGreatDoorHrz
import Derived.Test.YtbmjfjgfognimaaGreatDoorHhx
import Derived.Test.YtbmjfjgfognimaaGreatDoorHg
namespace Go.Proofs.YtbmjfjgfognimaaGreatDoor
set_option linter.unusedSimpArgs false
set_option linter.unusedVariables false
open Go.ChangeShapes Go.WideShapes Go.ChangeAt Go.RowKit
set_option maxRecDepth 100000

theorem own_knob : ownKnob Tryz.prog.godebug = none := by kernel_rfl
theorem et_at : Tryz.prog.globalNamed "errors.errorType" = some 3 := by kernel_rfl
theorem one_row : ((List.range Tryz.prog.types.size).filter fun t => Tryz.prog.rowNamed t [101, 114, 114, 111, 114]) = [160] := by kernel_rfl
def laidL : List (String × DataW Unit) := [("errors.errorType", Rows.laid_errors_errorType), ("hustings/head.bits", Rows.laid_hustings_head_bits), ("hustings/heard.errBad", Rows.laid_hustings_heard_errBad), ("hustings/heard.errPass", Rows.laid_hustings_heard_errPass)]

theorem laid_of {W : World} (h : laidMetH Tryz.prog laidL W) : Laid W := by
  have h' : laidMet Tryz.prog [("hustings/head.bits", Rows.laid_hustings_head_bits), ("hustings/heard.errBad", Rows.laid_hustings_heard_errBad), ("hustings/heard.errPass", Rows.laid_hustings_heard_errPass)] W ∧ handlesMet Tryz.prog [("errors.errorType", Rows.laid_errors_errorType)] W := h
  obtain ⟨name, u, ty, e1, e2, e3, e4, e5⟩ := h'.2 _ (List.mem_singleton.2 rfl)
  have en : name = [101, 114, 114, 111, 114] := (Option.some.inj e1).symm
  subst en
  obtain rfl : u = 322 := Option.some.inj (e2.symm.trans (by kernel_rfl))
  have hm : ty ∈ (List.range Tryz.prog.types.size).filter fun t => Tryz.prog.rowNamed t [101, 114, 114, 111, 114] := List.mem_filter.2 ⟨List.mem_range.2 e3, e4⟩
  rw [one_row] at hm
  obtain rfl := List.mem_singleton.1 hm
  have hh : typeHandle Tryz.prog 160 = hdl 160 := by kernel_rfl
  rw [hh] at e5
  show W.cell? ⟨3, 0, none⟩ = _
  simpa using World.var?_cell et_at e5 0

theorem bits_at : Tryz.prog.globalNamed "hustings/head.bits" = some 2 := by kernel_rfl
theorem one_cell {l : List Value} {i : Nat} {v : Value} (h : (l.drop i).take 1 = [v]) : l[i]? = some v := by
  have h1 := congrArg (fun x : List Value => x[0]?) h
  simpa using h1
def bitsL : List Int := [32768, 1024, 512, 256, 128, 64, 32, 16]
theorem laidbits_of {W : World} (h : laidMetH Tryz.prog laidL W) : BitsAt W := by
  have h' : laidMet Tryz.prog [("hustings/head.bits", Rows.laid_hustings_head_bits), ("hustings/heard.errBad", Rows.laid_hustings_heard_errBad), ("hustings/heard.errPass", Rows.laid_hustings_heard_errPass)] W ∧ handlesMet Tryz.prog [("errors.errorType", Rows.laid_errors_errorType)] W := h
  obtain ⟨ps, hlv, _, _⟩ := h'.1
  obtain ⟨g, t, cs, fuel, p, q, e1, e2, e3, e4, _, _⟩ := hlv
  obtain rfl : 2 = g := Option.some.inj (bits_at.symm.trans e1)
  obtain rfl : 260 = t := Option.some.inj ((show (Tryz.prog.globals[2]?).map (·.type) = some 260 by kernel_rfl).symm.trans e2)
  obtain ⟨xs, n, _, hd, _, hlen, hf⟩ := DataW.trod_array Tryz.underlying260 e4
  have hd1 := (Prod.mk.inj hd).1
  have key : ∀ i, i < 8 → cs.toList[i]? = some (.int .u16 (bitsL.getD i 0)) := fun i hi => by
    have hx : (xs.map (·.1))[i]? = some (.lit (.int .u16 (bitsL.getD i 0))) := by
      have h1 : xs.map (·.1) = bitsL.map fun k => (.lit (.int .u16 k) : DataW Unit) := by
        injection hd1 with h1
        exact h1.symm
      rw [h1, List.getElem?_map, List.getElem?_eq_getElem (show i < bitsL.length from hi)]
      simp [List.getD, List.getElem?_eq_getElem (show i < bitsL.length from hi)]
    rw [List.getElem?_map] at hx
    obtain ⟨y, hy1, hy2⟩ := Option.map_eq_some_iff.1 hx
    have h2 := (hf i hi).trans hy1
    rw [show Tryz.prog.cellsOf 26 = 1 by kernel_rfl, Nat.mul_one] at h2
    obtain ⟨m, g1, g2, _⟩ := DataW.trod_int Tryz.underlying26 h2
    rw [g2] at hy2
    have hm : m = bitsL.getD i 0 := by
      injection hy2 with hy2
      injection hy2
    rw [← hm]
    exact one_cell g1
  have key2 : ∀ i, i < 8 → W.cell? ⟨2, i, none⟩ = some (.int .u16 (bitsL.getD i 0)) := fun i hi => by
    rw [World.var?_cell bits_at e3 i]
    simpa using key i hi
  exact ⟨key2 0 (by omega), key2 1 (by omega), key2 2 (by omega), key2 3 (by omega), key2 4 (by omega), key2 5 (by omega), key2 6 (by omega), key2 7 (by omega)⟩
theorem bad_at : Tryz.prog.globalNamed "hustings/heard.errBad" = some 0 := by kernel_rfl
theorem pass_at : Tryz.prog.globalNamed "hustings/heard.errPass" = some 1 := by kernel_rfl
theorem bad_type : (Tryz.prog.globals[0]?).map (·.type) = some 160 := by kernel_rfl
theorem pass_type : (Tryz.prog.globals[1]?).map (·.type) = some 160 := by kernel_rfl
theorem es_cells : Tryz.prog.cellsOf 397 = 1 := by kernel_rfl
theorem str_cells : Tryz.prog.cellsOf 9 = 1 := by kernel_rfl
theorem es_star : "*" ++ "errors.errorString" = "*errors.errorString" := by decide
theorem es_row (u : TypeId) (h : Tryz.prog.typeName? 3 u = some "*errors.errorString") : u = 378 :=
  typeName_ptr_named (nm := "errors.errorString") (by rw [es_star]; kernel_rfl) (by kernel_rfl) (by decide) u (by rw [es_star]; exact h)
theorem errs_of {W : World} (h : laidMetH Tryz.prog laidL W) : ∃ a b, ErrsAt W a b := by
  have h' : laidMet Tryz.prog [("hustings/head.bits", Rows.laid_hustings_head_bits), ("hustings/heard.errBad", Rows.laid_hustings_heard_errBad), ("hustings/heard.errPass", Rows.laid_hustings_heard_errPass)] W ∧ handlesMet Tryz.prog [("errors.errorType", Rows.laid_errors_errorType)] W := h
  have h2 : laidMet Tryz.prog [("hustings/heard.errBad", Rows.laid_hustings_heard_errBad), ("hustings/heard.errPass", Rows.laid_hustings_heard_errPass)] W := h'.1.filter (fun x => x.1 != "hustings/head.bits")
  obtain ⟨a0, a1, s0, s1, c0, c1, t0, t1, hv0, hv1, _, _, _, _, _, _, hne, hb0, hb1⟩ := laid_sentinels2 h2 bad_at bad_type pass_at pass_type Tryz.underlying160 es_row Tryz.underlying378 Tryz.underlying397 rfl rfl Tryz.underlying9 es_cells str_cells
  exact ⟨a0, a1, by simpa using World.var?_cell bad_at hv0 0, by simpa using World.var?_cell pass_at hv1 0, ⟨_, _, hb0⟩, ⟨_, _, hb1⟩, hne⟩
abbrev badS : ByteArray := { data := #[116, 104, 101, 32, 114, 101, 112, 108, 121, 32, 105, 115, 32, 98, 97, 100] }
abbrev passS : ByteArray := { data := #[116, 104, 101, 32, 114, 101, 112, 108, 121, 32, 105, 115, 32, 97, 32, 112, 97, 115, 115] }
noncomputable def low24 : Nat := (World.holding Tryz.prog default ⟨#[], #[], []⟩).heap.size
noncomputable def laidWorld (os : Os) : World :=
  let w0 := World.holding Tryz.prog os ⟨#[.cells #[.string badS] 397, .cells #[.string passS] 397], #[], []⟩
  { w0 with heap := (((w0.heap.modify 3 fun
      | .cells _ t frozen => .cells #[errTy] t frozen
      | o => o).modify 2 fun
      | .cells _ t frozen => .cells #[.int .u16 32768, .int .u16 1024, .int .u16 512, .int .u16 256, .int .u16 128, .int .u16 64, .int .u16 32, .int .u16 16] t frozen
      | o => o).modify 0 fun
      | .cells _ t frozen => .cells #[.iface 378 (.pointer (some ⟨low24, 0, none⟩))] t frozen
      | o => o).modify 1 fun
      | .cells _ t frozen => .cells #[.iface 378 (.pointer (some ⟨low24 + 1, 0, none⟩))] t frozen
      | o => o }
theorem laid_met (os : Os) (args : Array Value) : laidMetH Tryz.prog laidL ((laidWorld os).forCall (fun _ _ => 0) ⟨#[], args, []⟩).memory :=
  laidMetH_of_parts (laidMet_of_run' 8 (by kernel_rfl) (by kernel_rfl)) (by kernel_rfl)

section
variable {H : Type} {enc : TypeId × Value → H} {P : Program}
theorem trodAll_stays (hl : laidOutB P = true) {W W' : World} (hb : Below W.heap.size W W') {sp : Nat → Bool} : ∀ {ts : List TypeId} {vs : List Value} {ds : List (DataW H)} {ps : List MemPlace},
    (∀ t ∈ ts, P.readableRec t = true ∧ t < P.types.size) → DataW.TrodAll enc P W 0 (fun _ => true) true ts vs ds ps → (∀ x ∈ ps, x.block < W.heap.size) → (∀ x ∈ ps, sp x.block = true) → DataW.TrodAll enc P W' 0 sp true ts vs ds ps
  | [], _, _, _, _, h, _, _ => by obtain ⟨rfl, rfl, rfl⟩ := trodAll_nil h; exact trodAll_mk0
  | t :: ts, _, _, _, ht, h, hlt, hs => by
    obtain ⟨v, vs, d, ds, p, q, rfl, rfl, rfl, h0, h1⟩ := trodAll_cons h
    have h2 := ht t (by simp)
    exact trodAll_cons_mk (WideElems.Trod_stays hl h2.1 h2.2 h0 (fun x hx => hb.same (hlt x (by simp [hx]))) (fun x hx => hs x (by simp [hx])))
      (trodAll_stays hl hb (fun t ht' => ht t (by simp [ht'])) h1 (fun x hx => hlt x (by simp [hx])) (fun x hx => hs x (by simp [hx])))
theorem post_of_below {f : Func} {s : ChangeSpec} {apart fresh handsOn again : Bool} {W W' : World} {args : Array Value} {v : Value} {ds gs : List (DataW H)} {before pa pv : List MemPlace}
    (hW : DataW.Whole enc P f.params.toList s.vars apart W args.toList ds gs before)
    (hres : ∀ (b : Nat) (sp : Nat → Bool) (hd : Bool), DataW.TrodAll enc P W' b sp hd f.resultTypes.toList (v.resultList f.resultTypes.size) (s.fn H (ds ++ gs)).results [])
    (hargs : ∀ sp : Nat → Bool, (∀ p ∈ before, sp p.block = true) → DataW.TrodAll enc P W' 0 sp true f.params.toList args.toList (s.fn H (ds ++ gs)).args pa)
    (hvars : ∀ sp : Nat → Bool, (∀ p ∈ before, sp p.block = true) → DataW.TrodVars enc P W' sp s.vars (s.fn H (ds ++ gs)).vars pv)
    (hps : before = pa ++ pv) (hb : Below W.heap.size W W')
    (hok : ∀ (j : Nat) (t : TypeId) (r : Value), f.resultTypes[j]? = some t → (v.resultList f.resultTypes.size)[j]? = some r → Value.okWide P W' .any 0 t r) :
    s.post enc P f apart fresh handsOn again W args v W' := by
  have hlt : ∀ p ∈ before, p.block < W.heap.size := fun p hp => hW.lt p hp
  have hold : ∀ p ∈ before, (fun b => decide (b < W.heap.size)) p.block = true := fun p hp => by simpa using hlt p hp
  refine ⟨ds, gs, before, [], pa, pv, hW, hres _ _ _, hargs _ hold, hvars _ hold, World.keptBut_mono (fun p hp => ⟨hp, ?_⟩) (hb.frame (· ∈ before)), fun _ => ?_⟩
  · rw [hps, List.mem_append] at hp
    exact Or.inr hp
  · obtain ⟨_, _, _, _, _, hz, hn⟩ := hW
    refine ⟨hok, _, _, ([] ++ pa) ++ pv, ⟨[] ++ pa, pv, trodAll_append (hargs _ (fun _ _ => rfl)) (hres _ _ _), hvars _ (fun _ _ => rfl), rfl, ?_, ?_⟩, ?_⟩
    · intro b off hp
      have hin : MemPlace.cell b off ∈ before := by rw [hps]; simpa using hp
      rw [hb.frozen (hlt _ hin)]
      exact hz b off hin
    · intro ha
      have := hn ha
      rw [hps] at this
      simpa using this
    · intro p hp _
      rw [hps]
      simpa using hp
/-- A law that returns true and only makes memory: its post. -/
theorem post_true {f : Func} {s : ChangeSpec} {apart fresh handsOn again : Bool} {W W' : World} {args : Array Value} {ds gs : List (DataW H)} {before : List MemPlace} {t : TypeId}
    (hl : laidOutB P = true) (hvn : s.vars = []) (hr : f.resultTypes = #[t]) (ht : P.underlying t = some .bool)
    (hp : ∀ t ∈ f.params.toList, P.readableRec t = true ∧ t < P.types.size)
    (hW : DataW.Whole enc P f.params.toList s.vars apart W args.toList ds gs before)
    (hfn : s.fn H ds = { results := [.lit (.bool true)], args := ds }) (hb : Ext W W') :
    s.post enc P f apart fresh handsOn again W args (.bool true) W' := by
  have hW' := hW
  obtain ⟨p, q, hA, hV, rfl, _, _⟩ := hW
  rw [hvn] at hV
  obtain ⟨rfl, rfl⟩ := trodVars_none hV
  have hlt : ∀ x ∈ p, x.block < W.heap.size := fun x hx => by simpa using hW'.lt x (by simp [hx])
  refine post_of_below (pa := p) (pv := []) hW' (fun _ _ _ => ?_) (fun sp hs => ?_) (fun _ _ => ?_) rfl hb (ok_one hr rfl (okWide_bool_mk ht _))
  · rw [List.append_nil, hfn, hr]; exact trodAll_mk1 (shut_bool ht true)
  · rw [List.append_nil, hfn]; exact trodAll_stays hl hb hp hA hlt (fun x hx => hs x (by simp [hx]))
  · rw [List.append_nil, hfn, hvn]; rfl
end
theorem laid_out : laidOutB Tryz.prog = true := by kernel_rfl
end Go.Proofs.YtbmjfjgfognimaaGreatDoor
namespace Go.Proofs.YtbmjfjgfognimaaGreatDoor
set_option linter.unusedSimpArgs false
set_option linter.unusedVariables false
open Go.RowKit

end Go.Proofs.YtbmjfjgfognimaaGreatDoor
namespace Go.Proofs.YtbmjfjgfognimaaGreatDoor
set_option linter.unusedSimpArgs false
set_option linter.unusedVariables false
open Go.RowKit
set_option maxRecDepth 100000

end Go.Proofs.YtbmjfjgfognimaaGreatDoor
namespace Go.Proofs.YtbmjfjgfognimaaGreatDoor
set_option linter.unusedSimpArgs false
set_option linter.unusedVariables false

def dataN30 (l : List SetD) : Nat := (l.map fun s => s.data.length).sum
theorem dataN30_append (l m : List SetD) : dataN30 (l ++ m) = dataN30 l + dataN30 m := by simp [dataN30]
theorem dataN30_modify : ∀ (l : List SetD) (i : Nat) (f : SetD → SetD) (hf : ∀ s, (f s).data.length ≤ s.data.length + 1), dataN30 (l.modify i f) ≤ dataN30 l + 1
  | [], i, f, hf => by simp [dataN30]
  | a :: l, 0, f, hf => by have := hf a; simp [dataN30]; omega
  | a :: l, i + 1, f, hf => by have := dataN30_modify l i f hf; simp [dataN30] at this ⊢; omega
theorem dataN30_add (L : List SetD) (x : RecD) : dataN30 (addR L x) ≤ dataN30 L + 1 := by
  unfold addR
  split
  · split
    · rw [dataN30_append]; simp [dataN30]
    · exact dataN30_modify _ _ _ fun s => by unfold updS; exact putS_len _ _
  · omega
theorem dataN30_to (l : List RecD) : ∀ k, k ≤ l.length → dataN30 (groupTo l k) ≤ k
  | 0, _ => by simp [groupTo, dataN30]
  | k + 1, h => by rw [groupTo_step l k (by omega)]; have := dataN30_to l k (by omega); have := dataN30_add (groupTo l k) l[k]; omega
theorem dataN30_group (l : List RecD) : dataN30 (groupR l) ≤ l.length := by
  have h1 : dataN30 (groupR l) = dataN30 (groupTo l l.length) := by unfold dataN30; exact ((group_perm l).1.map _).sum_nat
  rw [h1]; exact dataN30_to l l.length (Nat.le_refl _)
theorem recsOf_len30 (s : SetD) : (recsOf s).length = s.data.length := by simp [recsOf]
theorem flat_len30 (l : List SetD) : (l.flatMap recsOf).length = dataN30 l := by
  induction l with
  | nil => rfl
  | cons a l ih => simp [dataN30, recsOf_len30] at ih ⊢; (try omega)
theorem in_flat30 {L : List SetD} {s : SetD} (h : s ∈ L) : s.data.length ≤ (L.flatMap recsOf).length := by
  induction L with
  | nil => cases h
  | cons a L ih =>
    rw [List.flatMap_cons, List.length_append]
    rcases List.mem_cons.1 h with rfl | h
    · rw [recsOf_len30]; omega
    · have := ih h; omega
theorem group_lens30 (l : List RecD) : (groupR l).length ≤ l.length ∧ (∀ s ∈ groupR l, s.data.length ≤ l.length) ∧ ((groupR l).flatMap recsOf).length ≤ l.length := by
  have h1 := groupTo_len l l.length (Nat.le_refl _)
  have h2 := (group_perm l).1.length_eq
  have h3 : ((groupR l).flatMap recsOf).length ≤ l.length := by rw [flat_len30]; exact dataN30_group l
  exact ⟨by omega, fun s hs => Nat.le_trans (in_flat30 hs) h3, h3⟩
end Go.Proofs.YtbmjfjgfognimaaGreatDoor
namespace Go.Proofs.YtbmjfjgfognimaaGreatDoor
set_option linter.unusedSimpArgs false
set_option linter.unusedVariables false
open Go.RowKit
set_option maxRecDepth 100000

theorem same_fold {n : List UInt8} (h : may n = true) : sameN (fold n) n = true := by
  have h1 := fold_may h
  unfold sameN
  rw [h1.1, h, h1.2, fold_of_may h]
  simp
end Go.Proofs.YtbmjfjgfognimaaGreatDoor
namespace Go.Proofs.YtbmjfjgfognimaaGreatDoor
set_option linter.unusedSimpArgs false
set_option linter.unusedVariables false
open Go.RowKit
set_option maxRecDepth 100000

def askM (b : Bool) (n : List UInt8) (ty cls id size : Int) : MsgD := ⟨⟨id, b, 0, false, false, true, false, false, false, false, 0⟩, [⟨fold n, ty, cls⟩], [], [], [], true, ⟨size, 0, 0, 0, []⟩⟩
theorem askM_wf (b : Bool) {n : List UInt8} {ty cls id size : Int} (ht : 0 ≤ ty ∧ ty ≤ 65535) (hc : 0 ≤ cls ∧ cls ≤ 65535) (hi : 0 ≤ id ∧ id ≤ 65535) (hs : 0 ≤ size ∧ size ≤ 65535) : (askM b n ty cls id size).wf :=
  have h := queryM_wf (n := n) ht hc hi hs
  ⟨h.id, h.op, h.code, h.qs, h.ans, h.auth, h.extra, h.size, h.ext, h.ver, h.flags, h.opts⟩
theorem askM_may (b : Bool) {n : List UInt8} {ty cls id size : Int} (hn : may n = true) : mayM (askM b n ty cls id size) = true := by
  unfold askM mayM
  simp only [Bool.and_eq_true, decide_eq_true_eq, List.all_eq_true, Bool.or_eq_true]
  refine ⟨⟨⟨⟨⟨⟨?_, ?_⟩, ?_⟩, ?_⟩, by simp⟩, by simp⟩, by simp⟩
  · unfold hdOk; rw [decide_eq_true_eq]; dsimp only; omega
  · simp
  · refine ⟨by simp, by simp, by simp, ?_⟩
    dsimp only [List.length_nil]; split <;> omega
  · intro y hy; rw [List.mem_singleton] at hy; subst hy; exact (fold_may hn).1
theorem askM_len (b : Bool) {n : List UInt8} {ty cls id size : Int} (hn : may n = true) : (bodyW (askM b n ty cls id size)).1.length ≤ 282 := by
  unfold bodyW
  dsimp only
  simp only [List.length_append, head_len]
  have h1 : (seqW quW 12 (askM b n ty cls id size).qs []).1.length ≤ 259 := by
    show (seqW quW 12 [⟨fold n, ty, cls⟩] []).1.length ≤ 259
    simp only [seqW, quW, List.append_nil, List.length_append, two_len]
    have := putN_len true true 12 [] (fold_may hn).1
    omega
  have h2 : ∀ p t, (seqW recW p ((askM b n ty cls id size).ans ++ (askM b n ty cls id size).auth ++ (askM b n ty cls id size).extra) t).1.length = 0 := fun p t => by simp [askM, seqW]
  have h3 : (if (askM b n ty cls id size).he = true then ednsW (askM b n ty cls id size).ed else []).length ≤ 11 := by
    split
    · have : (askM b n ty cls id size).ed.opts = [] := rfl
      simp [ednsW, optW, this, two_len, four_len]
    · simp
  rw [h2]
  omega
theorem askM_enc (b : Bool) {n : List UInt8} {ty cls id size : Int} (hn : may n = true) : encErr (askM b n ty cls id size) = 0 ∧ (encOf (askM b n ty cls id size)).length ≤ 282 := by
  have hm := askM_may b (ty := ty) (cls := cls) (id := id) (size := size) hn
  have hl := askM_len b (ty := ty) (cls := cls) (id := id) (size := size) hn
  have he : encErr (askM b n ty cls id size) = 0 := by unfold encErr; rw [if_pos hm, if_neg (by omega)]
  exact ⟨he, by rw [(enc_may he).2.2]; exact hl⟩
theorem group_nil : groupR [] = [] := by
  have := (group_lens30 []).1
  exact List.eq_nil_of_length_eq_zero (by simpa using this)
theorem ask_bad {n : List UInt8} {ty cls id size : Int} (ht : 0 ≤ ty ∧ ty ≤ 65535) (hc : 0 ≤ cls ∧ cls ≤ 65535) (hi : 0 ≤ id ∧ id ≤ 65535) (hs : 0 ≤ size ∧ size ≤ 65535) (hn : may n = true) : replyOf (encOf (askM false n ty cls id size)) n ty cls = .bad := by
  unfold replyOf
  rw [dec_enc (askM_wf false ht hc hi hs) (askM_enc false hn).1]
  exact replyM_not (fun h => by cases h.1)
theorem ask_vote {n : List UInt8} {ty cls id size : Int} (ht : 0 ≤ ty ∧ ty ≤ 65535) (hc : 0 ≤ cls ∧ cls ≤ 65535) (hi : 0 ≤ id ∧ id ≤ 65535) (hs : 0 ≤ size ∧ size ≤ 65535) (hn : may n = true) : replyOf (encOf (askM true n ty cls id size)) n ty cls = ⟨3, ⟨0, [], [], 0, 0⟩⟩ := by
  have hq : asksB (askM true n ty cls id size) n ty cls = true := by
    show (sameN (fold n) n && (decide (ty = ty) && decide (cls = cls))) = true
    rw [same_fold hn]; simp
  have hf : followOf n ty cls (groupR []) = ⟨[], fold n, [], 0⟩ := by
    rw [group_nil]
    unfold followOf
    rw [if_pos hn]
    unfold followF
    by_cases h5 : ty = 5 <;> simp [h5, findS]
  have hv : verOf n ty cls 0 [] [] = ⟨0, [], [], 0, 0⟩ := by
    unfold verOf
    rw [if_pos ⟨hn, .inl rfl⟩, hf]
    unfold verFol
    rw [if_pos rfl, if_pos rfl, group_nil]
    rfl
  unfold replyOf
  rw [dec_enc (askM_wf true ht hc hi hs) (askM_enc true hn).1]
  show replyM (askM true n ty cls id size) n ty cls = _
  unfold replyM
  rw [if_pos ⟨rfl, rfl, hq⟩, if_neg (by
    rintro (h | h)
    · cases h
    · exact h.1 rfl)]
  show (if (verOf n ty cls 0 [] []).err = 0 then (⟨3, verOf n ty cls 0 [] []⟩ : ReplyD) else .bad) = _
  rw [hv]
  rfl
end Go.Proofs.YtbmjfjgfognimaaGreatDoor
namespace Go.Proofs.YtbmjfjgfognimaaGreatDoor
set_option linter.unusedSimpArgs false
set_option linter.unusedVariables false
open Go.RowKit
set_option maxRecDepth 100000

set_option maxHeartbeats 4000000 in
theorem eq_records (l : List RecD) (v1 v2 : Value) (w : World) (h1 : Recs w 0 v1 l) (h2 : Recs w 0 v2 l) :
    Calls Tryz.prog 96 #[v1, v2] w fun e w' => e = .returned (.bool true) ∧ Ext w w' := by
  obtain ⟨A, c, rfl, a1, a2, ar⟩ := h1
  obtain ⟨B, d, rfl, b1, b2, br⟩ := h2
  unfold maxLen at a2 b2
  go_enter Tryz.func96, Tryz.ntmps96
  go_wp2_with fail
  go_loopw [5, 13] (fun _ s5 wr => ∃ k : Nat, k ≤ l.length ∧ s5 = .int .i64 k ∧ Ext w wr) (fun _ s5 _ => l.length - (intOf s5).toNat)
  case atStart => exact ⟨0, Nat.zero_le _, rfl, Ext.refl _⟩
  case round =>
    obtain ⟨k, hk, rfl, hE⟩ := hrel
    obtain ⟨wo, rfl⟩ : ∃ wo : World, wo = wr := ⟨_, rfl⟩
    by_cases hlt : k < l.length
    · obtain ⟨b, off, rfl, _, hbz, hc⟩ := (ar.ext hE).2 (by omega)
      obtain ⟨b2', off2, rfl, _, hbz2, hc2⟩ := (br.ext hE).2 (by omega)
      obtain ⟨x0, x1, x2, x3, x4⟩ := recs_cells hc k l[k] (List.getElem?_eq_getElem hlt)
      obtain ⟨y0, y1, y2, y3, y4⟩ := recs_cells hc2 k l[k] (List.getElem?_eq_getElem hlt)
      generalize l[k] = r at *
      have hki : (k : Int) < (l.length : Int) := by omega
      have hk0 : (0 : Int) ≤ (k : Int) := by omega
      clear hc hc2
      go_upto_region 6 with fail
      go_region
      go_wp2_with fail
      go_roundw
      case rel => exact ⟨k + 1, by omega, by go_num, hE.drew⟩
      case measure => simp [intOf]; omega
    · obtain rfl : k = l.length := by omega
      go_wp2_with fail
      go_ret
      exact ⟨rfl, hE⟩
set_option maxHeartbeats 4000000 in
theorem eq_questions (l : List QD) (v1 v2 : Value) (w : World) (h1 : Qus w 0 v1 l) (h2 : Qus w 0 v2 l) :
    Calls Tryz.prog 95 #[v1, v2] w fun e w' => e = .returned (.bool true) ∧ Ext w w' := by
  obtain ⟨A, c, rfl, a1, a2, ar⟩ := h1
  obtain ⟨B, d, rfl, b1, b2, br⟩ := h2
  unfold maxLen at a2 b2
  go_enter Tryz.func95, Tryz.ntmps95
  go_wp2_with fail
  go_loopw [5, 13] (fun _ s5 wr => ∃ k : Nat, k ≤ l.length ∧ s5 = .int .i64 k ∧ Ext w wr) (fun _ s5 _ => l.length - (intOf s5).toNat)
  case atStart => exact ⟨0, Nat.zero_le _, rfl, Ext.refl _⟩
  case round =>
    obtain ⟨k, hk, rfl, hE⟩ := hrel
    obtain ⟨wo, rfl⟩ : ∃ wo : World, wo = wr := ⟨_, rfl⟩
    by_cases hlt : k < l.length
    · obtain ⟨b, off, rfl, _, hbz, hc⟩ := (ar.ext hE).2 (by omega)
      obtain ⟨b2', off2, rfl, _, hbz2, hc2⟩ := (br.ext hE).2 (by omega)
      obtain ⟨x0, x1, x2⟩ := qus_cells hc k l[k] (List.getElem?_eq_getElem hlt)
      obtain ⟨y0, y1, y2⟩ := qus_cells hc2 k l[k] (List.getElem?_eq_getElem hlt)
      generalize l[k] = r at *
      have hki : (k : Int) < (l.length : Int) := by omega
      have hk0 : (0 : Int) ≤ (k : Int) := by omega
      clear hc hc2
      go_upto_region 6 with fail
      go_region
      go_wp2_with fail
      go_roundw
      case rel => exact ⟨k + 1, by omega, by go_num, hE.drew⟩
      case measure => simp [intOf]; omega
    · obtain rfl : k = l.length := by omega
      go_wp2_with fail
      go_ret
      exact ⟨rfl, hE⟩
set_option maxHeartbeats 4000000 in
theorem edns_same_eq (es ee ev ef : Int) (v : Value) (l : List OpD) (hl : l = []) (w : World) (hv : Opts w 0 v l) :
    Calls Tryz.prog 97 #[.agg #[.int .u16 es, .int .u8 ee, .int .u8 ev, .int .u16 ef, v], .agg #[.int .u16 es, .int .u8 ee, .int .u8 ev, .int .u16 ef, .slice none 0 0]] w fun x w' => x = .returned (.bool true) ∧ Ext w w' := by
  subst hl
  have HQ := Lib.hid (fun V (hV : Ext w V) => opt_equal0 0 v [] V (hv.ext hV))
  obtain ⟨A, c, rfl, a1, a2, ar⟩ := hv
  unfold maxLen at a2
  obtain ⟨X0, hX0⟩ : ∃ X0, X0 = (w.alloc (.cells #[.int .u16 es, .int .u8 ee, .int .u8 ev, .int .u16 ef, .slice A 0 c] 43)).alloc (.cells #[.int .u16 es, .int .u8 ee, .int .u8 ev, .int .u16 ef, .slice none 0 0] 43) := ⟨_, rfl⟩
  have hw0 : Ext w X0 := by rw [hX0]; exact ((Ext.refl _).alloc _).alloc _
  have r1 : X0.heap[w.heap.size + 1]? = some (.cells #[.int .u16 es, .int .u8 ee, .int .u8 ev, .int .u16 ef, .slice none 0 0] 43) := by rw [hX0]; exact heap_alloc2_new w _ _
  have r0 : X0.heap[w.heap.size]? = some (.cells #[.int .u16 es, .int .u8 ee, .int .u8 ev, .int .u16 ef, .slice A 0 c] 43) := by
    rw [hX0]
    have h1 := heap_alloc_new w (.cells #[.int .u16 es, .int .u8 ee, .int .u8 ev, .int .u16 ef, .slice A 0 c] 43)
    rw [heap_alloc_old _ _ (Array.getElem?_eq_some_iff.1 h1).1]; exact h1
  go_enter Tryz.func97, Tryz.ntmps97
  go_upto_region 1 with fail
  have hzz : (w.alloc (.cells #[.int .u16 es, .int .u8 ee, .int .u8 ev, .int .u16 ef, .slice A 0 c] 43)).alloc (.cells #[.int .u16 es, .int .u8 ee, .int .u8 ev, .int .u16 ef, .slice none 0 0] 43) = X0 := hX0.symm
  (try simp only [List.length_nil])
  rw [hzz]
  clear hzz hX0
  have x0 := box_cell (j := 0) r0 rfl
  have x1 := box_cell (j := 1) r0 rfl
  have x2 := box_cell (j := 2) r0 rfl
  have x3 := box_cell (j := 3) r0 rfl
  have x4 := box_cell (j := 4) r0 rfl
  have y0 := box_cell (j := 0) r1 rfl
  have y1 := box_cell (j := 1) r1 rfl
  have y2 := box_cell (j := 2) r1 rfl
  have y3 := box_cell (j := 3) r1 rfl
  have y4 := box_cell (j := 4) r1 rfl
  go_wp2_with fail
  refine (HQ.out _ hw0).mono ?_
  rintro e w1 ⟨rfl, rfl⟩
  go_wp2_with fail
  go_ret
  exact ⟨rfl, hw0⟩
set_option maxHeartbeats 4000000 in
theorem wire_same (m : MsgD) (q a u x o q' a' u' x' : Value) (w : World) (h1 : Msg7 w m q a u x o) (h2 : Msg7 w m q' a' u' x' (.slice none 0 0)) (hno : m.ed.opts = []) :
    Calls Tryz.prog 46 #[msg7V m.hd q a u x m.he m.ed o, msg7V m.hd q' a' u' x' m.he m.ed (.slice none 0 0)] w fun e w' => e = .returned (.bool true) ∧ Ext w w' := by
  have HNo := Lib.hid hno
  clear hno
  have H1 := Lib.hid h1
  have H2 := Lib.hid h2
  obtain ⟨⟨qA, qAc, rfl, _, _, _⟩, ⟨aA, aAc, rfl, _, _, _⟩, ⟨uA, uAc, rfl, _, _, _⟩, ⟨xA, xAc, rfl, _, _, _⟩, ⟨oA, oAc, rfl, _, _, _⟩, _, _, _, _, _⟩ := h1
  obtain ⟨⟨qB, qBc, rfl, _, _, _⟩, ⟨aB, aBc, rfl, _, _, _⟩, ⟨uB, uBc, rfl, _, _, _⟩, ⟨xB, xBc, rfl, _, _, _⟩, _, _, _, _, _, _⟩ := h2
  obtain ⟨X0, hX0⟩ : ∃ X0, X0 = (w.alloc (.cells #[.int .u16 m.hd.id, .bool m.hd.qr, .int .u8 m.hd.op, .bool m.hd.aa, .bool m.hd.tc, .bool m.hd.rd, .bool m.hd.ra, .bool m.hd.z, .bool m.hd.ad, .bool m.hd.cd, .int .u8 m.hd.code, .slice qA m.qs.length qAc, .slice aA m.ans.length aAc, .slice uA m.auth.length uAc, .slice xA m.extra.length xAc, .bool m.he, .int .u16 m.ed.size, .int .u8 m.ed.ext, .int .u8 m.ed.ver, .int .u16 m.ed.flags, .slice oA m.ed.opts.length oAc] 45)).alloc (.cells #[.int .u16 m.hd.id, .bool m.hd.qr, .int .u8 m.hd.op, .bool m.hd.aa, .bool m.hd.tc, .bool m.hd.rd, .bool m.hd.ra, .bool m.hd.z, .bool m.hd.ad, .bool m.hd.cd, .int .u8 m.hd.code, .slice qB m.qs.length qBc, .slice aB m.ans.length aBc, .slice uB m.auth.length uBc, .slice xB m.extra.length xBc, .bool m.he, .int .u16 m.ed.size, .int .u8 m.ed.ext, .int .u8 m.ed.ver, .int .u16 m.ed.flags, .slice none 0 0] 45) := ⟨_, rfl⟩
  have hw0 : Ext w X0 := by rw [hX0]; exact ((Ext.refl _).alloc _).alloc _
  have r1 : X0.heap[w.heap.size + 1]? = some (.cells #[.int .u16 m.hd.id, .bool m.hd.qr, .int .u8 m.hd.op, .bool m.hd.aa, .bool m.hd.tc, .bool m.hd.rd, .bool m.hd.ra, .bool m.hd.z, .bool m.hd.ad, .bool m.hd.cd, .int .u8 m.hd.code, .slice qB m.qs.length qBc, .slice aB m.ans.length aBc, .slice uB m.auth.length uBc, .slice xB m.extra.length xBc, .bool m.he, .int .u16 m.ed.size, .int .u8 m.ed.ext, .int .u8 m.ed.ver, .int .u16 m.ed.flags, .slice none 0 0] 45) := by rw [hX0]; exact heap_alloc2_new w _ _
  have r0 : X0.heap[w.heap.size]? = some (.cells #[.int .u16 m.hd.id, .bool m.hd.qr, .int .u8 m.hd.op, .bool m.hd.aa, .bool m.hd.tc, .bool m.hd.rd, .bool m.hd.ra, .bool m.hd.z, .bool m.hd.ad, .bool m.hd.cd, .int .u8 m.hd.code, .slice qA m.qs.length qAc, .slice aA m.ans.length aAc, .slice uA m.auth.length uAc, .slice xA m.extra.length xAc, .bool m.he, .int .u16 m.ed.size, .int .u8 m.ed.ext, .int .u8 m.ed.ver, .int .u16 m.ed.flags, .slice oA m.ed.opts.length oAc] 45) := by
    rw [hX0]
    have h1 := heap_alloc_new w (.cells #[.int .u16 m.hd.id, .bool m.hd.qr, .int .u8 m.hd.op, .bool m.hd.aa, .bool m.hd.tc, .bool m.hd.rd, .bool m.hd.ra, .bool m.hd.z, .bool m.hd.ad, .bool m.hd.cd, .int .u8 m.hd.code, .slice qA m.qs.length qAc, .slice aA m.ans.length aAc, .slice uA m.auth.length uAc, .slice xA m.extra.length xAc, .bool m.he, .int .u16 m.ed.size, .int .u8 m.ed.ext, .int .u8 m.ed.ver, .int .u16 m.ed.flags, .slice oA m.ed.opts.length oAc] 45)
    rw [heap_alloc_old _ _ (Array.getElem?_eq_some_iff.1 h1).1]; exact h1
  have HQ := Lib.hid (fun V (hV : Ext w V) => eq_questions m.qs _ _ V (H1.out.qs.ext hV) (H2.out.qs.ext hV))
  have HA := Lib.hid (fun V (hV : Ext w V) => eq_records m.ans _ _ V (H1.out.ans.ext hV) (H2.out.ans.ext hV))
  have HU := Lib.hid (fun V (hV : Ext w V) => eq_records m.auth _ _ V (H1.out.auth.ext hV) (H2.out.auth.ext hV))
  have HX := Lib.hid (fun V (hV : Ext w V) => eq_records m.extra _ _ V (H1.out.extra.ext hV) (H2.out.extra.ext hV))
  have HO := Lib.hid (fun V (hV : Ext w V) => edns_same_eq m.ed.size m.ed.ext m.ed.ver m.ed.flags _ m.ed.opts HNo.out V (H1.out.opts.ext hV))
  have K0 := Lib.hid (fun V (hV : Ext X0 V) => (hV.block _ (Array.getElem?_eq_some_iff.1 r0).1).trans r0)
  have K1 := Lib.hid (fun V (hV : Ext X0 V) => (hV.block _ (Array.getElem?_eq_some_iff.1 r1).1).trans r1)
  go_enter Tryz.func46, Tryz.ntmps46
  go_upto_region 1 with fail
  have hzz : (w.alloc (.cells #[.int .u16 m.hd.id, .bool m.hd.qr, .int .u8 m.hd.op, .bool m.hd.aa, .bool m.hd.tc, .bool m.hd.rd, .bool m.hd.ra, .bool m.hd.z, .bool m.hd.ad, .bool m.hd.cd, .int .u8 m.hd.code, .slice qA m.qs.length qAc, .slice aA m.ans.length aAc, .slice uA m.auth.length uAc, .slice xA m.extra.length xAc, .bool m.he, .int .u16 m.ed.size, .int .u8 m.ed.ext, .int .u8 m.ed.ver, .int .u16 m.ed.flags, .slice oA m.ed.opts.length oAc] 45)).alloc (.cells #[.int .u16 m.hd.id, .bool m.hd.qr, .int .u8 m.hd.op, .bool m.hd.aa, .bool m.hd.tc, .bool m.hd.rd, .bool m.hd.ra, .bool m.hd.z, .bool m.hd.ad, .bool m.hd.cd, .int .u8 m.hd.code, .slice qB m.qs.length qBc, .slice aB m.ans.length aBc, .slice uB m.auth.length uBc, .slice xB m.extra.length xBc, .bool m.he, .int .u16 m.ed.size, .int .u8 m.ed.ext, .int .u8 m.ed.ver, .int .u16 m.ed.flags, .slice none 0 0] 45) = X0 := hX0.symm
  rw [hzz]
  clear hzz hX0
  have a11 := box_cell (j := 11) r0 rfl
  have b11 := box_cell (j := 11) r1 rfl
  go_wp2_with (first
    | (refine wpList_load_part (by rfl) 30 (.tmp 5) rfl w.heap.size 0 rfl [.int .u16 m.hd.id, .bool m.hd.qr, .int .u8 m.hd.op, .bool m.hd.aa, .bool m.hd.tc, .bool m.hd.rd, .bool m.hd.ra, .bool m.hd.z, .bool m.hd.ad, .bool m.hd.cd, .int .u8 m.hd.code] (row_part r0 0 11) _ Tryz.underlying30 rfl (by kernel_rfl) ?_)
    | (refine wpList_load_part (by rfl) 30 (.tmp 7) rfl (w.heap.size + 1) 0 rfl [.int .u16 m.hd.id, .bool m.hd.qr, .int .u8 m.hd.op, .bool m.hd.aa, .bool m.hd.tc, .bool m.hd.rd, .bool m.hd.ra, .bool m.hd.z, .bool m.hd.ad, .bool m.hd.cd, .int .u8 m.hd.code] (row_part r1 0 11) _ Tryz.underlying30 rfl (by kernel_rfl) ?_)
    | fail)
  refine (HQ.out _ hw0).mono ?_
  rintro e w1 ⟨rfl, hE1⟩
  have hX1 : Ext X0 w1 := (Ext.refl X0).trans hE1
  have hw1 : Ext w w1 := hw0.trans hX1
  have p0 := K0.out _ hX1
  have p1 := K1.out _ hX1
  have c0 := box_cell (j := 12) p0 rfl
  have c1 := box_cell (j := 12) p1 rfl
  go_wp2_with fail
  clear c0 c1 p0 p1
  refine (HA.out _ hw1).mono ?_
  rintro e w2 ⟨rfl, hE2⟩
  have hX2 : Ext X0 w2 := hX1.trans hE2
  have hw2 : Ext w w2 := hw0.trans hX2
  have p0 := K0.out _ hX2
  have p1 := K1.out _ hX2
  have c0 := box_cell (j := 13) p0 rfl
  have c1 := box_cell (j := 13) p1 rfl
  go_wp2_with fail
  clear c0 c1 p0 p1
  refine (HU.out _ hw2).mono ?_
  rintro e w3 ⟨rfl, hE3⟩
  have hX3 : Ext X0 w3 := hX2.trans hE3
  have hw3 : Ext w w3 := hw0.trans hX3
  have p0 := K0.out _ hX3
  have p1 := K1.out _ hX3
  have c0 := box_cell (j := 14) p0 rfl
  have c1 := box_cell (j := 14) p1 rfl
  go_wp2_with fail
  clear c0 c1 p0 p1
  refine (HX.out _ hw3).mono ?_
  rintro e w4 ⟨rfl, hE4⟩
  have hX4 : Ext X0 w4 := hX3.trans hE4
  have hw4 : Ext w w4 := hw0.trans hX4
  have p0 := K0.out _ hX4
  have p1 := K1.out _ hX4
  have c0 := box_cell (j := 15) p0 rfl
  have c1 := box_cell (j := 15) p1 rfl
  go_wp2_with (first
    | (refine wpList_load_part (by rfl) 43 (.tmp 46) rfl w.heap.size 16 rfl [.int .u16 m.ed.size, .int .u8 m.ed.ext, .int .u8 m.ed.ver, .int .u16 m.ed.flags, .slice oA m.ed.opts.length oAc] (row_part p0 16 5) _ Tryz.underlying43 rfl (by kernel_rfl) ?_)
    | (refine wpList_load_part (by rfl) 43 (.tmp 48) rfl (w.heap.size + 1) 16 rfl [.int .u16 m.ed.size, .int .u8 m.ed.ext, .int .u8 m.ed.ver, .int .u16 m.ed.flags, .slice none 0 0] (row_part p1 16 5) _ Tryz.underlying43 rfl (by kernel_rfl) ?_)
    | fail)
  refine (HO.out _ hw4).mono ?_
  rintro e w5 ⟨rfl, hE5⟩
  go_wp2_with fail
  go_ret
  exact ⟨rfl, hw4.trans hE5⟩
end Go.Proofs.YtbmjfjgfognimaaGreatDoor
namespace Go.Proofs.YtbmjfjgfognimaaGreatDoor
set_option linter.unusedSimpArgs false
set_option linter.unusedVariables false
open Go.RowKit
set_option maxRecDepth 100000
theorem load_rowK {P : Program} {ops : Array Oper} {Q : Exit → Act → World → Prop} {rest : List Oper} {o : Oper} {a : Act} {w : World} (hwn : Region.wanted o (yielded ops a.tmps) = true) (ty : TypeId) (x : Operand) (ho : o.op = .load ty x)
    (g : Nat) (hx : a.eval x = .pointer (some ⟨g, 0, none⟩)) (t : TypeId) (cs : Array Value) (fr : Nat × Nat) (d : TypeDesc) (hg : w.heap[g]? = some (.cells cs t fr))
    (hu : P.underlying ty = some d) (hd : (match d with | .struct _ | .array _ _ => true | _ => false) = true) (hi : (P.info? ty).map (·.size) = some cs.size)
    (h : wpList P ops Q rest (a.put o.dst (.agg cs)) w) : wpList P ops Q (o :: rest) a w :=
  wpList_step fun K hK => by
    rw [if_pos hwn]
    exact wp_load_row ty x ho g hx t cs fr d hg hu hd hi (hK _ _ h)
theorem query_ask {n : List UInt8} {ty cls id size : Int} (hs : 0 ≤ size ∧ size ≤ 65535) (hn : may n = true) : queryErr n ty cls id size = 0 ∧ queryOf n ty cls id size = encOf (askM false n ty cls id size) := by
  have hm : queryMay n size := ⟨hn, hs.1, hs.2⟩
  unfold queryErr queryOf
  rw [if_pos hm, if_pos hm]
  exact ⟨(askM_enc false hn).1, rfl⟩
theorem query_no {n : List UInt8} {ty cls id size : Int} (hn : may n = false) : queryErr n ty cls id size = 1 ∧ queryOf n ty cls id size = [] := by
  have hm : ¬ queryMay n size := fun h => by have h1 := h.1; rw [hn] at h1; cases h1
  unfold queryErr queryOf
  rw [if_neg hm, if_neg hm]
  exact ⟨rfl, rfl⟩
set_option maxHeartbeats 8000000 in
theorem law24_asked (n : List UInt8) (ty cls id size : Int) (a b : Addr) (w : World) (hg : Laid w) (hb : BitsAt w) (he : ErrsAt w a b) (hn : n.length ≤ maxLen) (ht : 0 ≤ ty ∧ ty ≤ 65535) (hc : 0 ≤ cls ∧ cls ≤ 65535) (hi : 0 ≤ id ∧ id ≤ 65535) (hz : 0 ≤ size ∧ size ≤ 65535) :
    Calls Tryz.prog 12 #[.agg #[S n, .int .u16 ty, .int .u16 cls], .int .u16 id, .int .u16 size] w fun e w' => e = .returned (.bool true) ∧ Ext w w' := by
  unfold maxLen at hn
  have HWz := Lib.hid (show wrap64 size = size by unfold wrap64; omega)
  have HAw := Lib.hid (fun V (hV : Ext w V) => law24_awake a b V (hg.ext hV) (hb.ext hV) (he.ext hV))
  obtain ⟨X0, hX0⟩ : ∃ X0, X0 = w.alloc (.cells #[S n, .int .u16 ty, .int .u16 cls] 32) := ⟨_, rfl⟩
  obtain ⟨g3, hg3⟩ : ∃ g3, g3 = w.heap.size := ⟨_, rfl⟩
  have r0 : X0.heap[g3]? = some (.cells #[S n, .int .u16 ty, .int .u16 cls] 32) := by rw [hX0, hg3]; exact heap_alloc_new _ _
  have hE0 : Ext w X0 := by rw [hX0]; exact (Ext.refl _).alloc _
  have hfk := fieldKind
  go_enter Tryz.func12, Tryz.ntmps12
  go_upto_region 1 with fail
  rw [← hX0, ← hg3]
  clear hX0 hg3
  have k0 := box_cell (j := 0) r0 rfl
  by_cases hn3 : 3000 < n.length
  · have hni : decide ((3000 : Int) < (n.length : Int)) = true := decide_eq_true (by omega)
    go_wp2_with fail
    refine (HAw.out _ hE0).mono ?_
    rintro e w2 ⟨rfl, hE2⟩
    go_wp2_with fail
    go_ret
    exact ⟨rfl, hE0.trans hE2⟩
  have hni : decide ((3000 : Int) < (n.length : Int)) = false := decide_eq_false (by omega)
  have HN3 := Lib.hid hn3
  clear hn3
  go_wp2_with fail
  refine (HAw.out _ hE0).mono ?_
  rintro e w2 ⟨rfl, hE2⟩
  have r2 := (hE2.block _ (Array.getElem?_eq_some_iff.1 r0).1).trans r0
  have hw2 : Ext w w2 := hE0.trans hE2
  clear k0 hni
  have k0 := box_cell (j := 0) r2 rfl
  have k1 := box_cell (j := 1) r2 rfl
  have k2 := box_cell (j := 2) r2 rfl
  have HQ := Lib.hid (heard_query n ty cls id size w2 (hg.ext hw2) (hb.ext hw2) (by have := HN3.out; omega) ht hc hi)
  unfold QueryPost at HQ
  have HMy := Lib.hid (fun W => name_may n W (by unfold maxLen; omega))
  have hwz := HWz.out
  rcases hmay : may n with _ | _
  · have hq := query_no (ty := ty) (cls := cls) (id := id) (size := size) hmay
    rw [hq.1, hq.2] at HQ
    rw [hmay] at HMy
    clear hmay hq
    go_wp2_with fail
    refine HQ.out.mono ?_
    rintro e w9 ⟨rfl, hE9⟩
    have r9 := (hE9.block _ (Array.getElem?_eq_some_iff.1 r2).1).trans r2
    clear k0 k1 k2
    have k0 := box_cell (j := 0) r9 rfl
    go_wp2_with fail
    refine (HMy.out _).mono ?_
    rintro e w10 ⟨rfl, rfl⟩
    go_wp2_with fail
    go_ret
    exact ⟨rfl, hw2.trans hE9⟩
  have hq := query_ask (ty := ty) (cls := cls) (id := id) hz hmay
  rw [hq.1, hq.2] at HQ
  rw [hmay] at HMy
  have HEl := Lib.hid (askM_enc false (ty := ty) (cls := cls) (id := id) (size := size) hmay)
  have HEl2 := Lib.hid (askM_enc true (ty := ty) (cls := cls) (id := id) (size := size) hmay)
  have HDm := Lib.hid (dec_enc (askM_wf false (n := n) ht hc hi hz) HEl.out.1)
  have HWf := Lib.hid (askM_wf true (n := n) ht hc hi hz)
  have HLb := Lib.hid (fun V (hV : Ext w V) => heard_look (encOf (askM false n ty cls id size)) n ty cls a b V (hg.ext hV) (hb.ext hV) (he.ext hV) (by have := HEl.out.2; omega) (by have := HN3.out; omega))
  rw [ask_bad ht hc hi hz hmay] at HLb
  have HLv := Lib.hid (fun V (hV : Ext w V) => heard_look (encOf (askM true n ty cls id size)) n ty cls a b V (hg.ext hV) (hb.ext hV) (he.ext hV) (by have := HEl2.out.2; omega) (by have := HN3.out; omega))
  rw [ask_vote ht hc hi hz hmay] at HLv
  unfold LookH at HLb HLv
  have HDec := Lib.hid (fun V (hV : Ext w V) => wire_decode (encOf (askM false n ty cls id size)) V (hg.ext hV) (hb.ext hV) (by have := HEl.out.2; omega))
  have HEn := Lib.hid (fun V (hV : Ext w V) q1 a1 u1 x1 o1 (h : Msg7 V (askM true n ty cls id size) q1 a1 u1 x1 o1) => wire_encode (askM true n ty cls id size) q1 a1 u1 x1 o1 V (hg.ext hV) (hb.ext hV) HWf.out h)
  unfold EncPost at HEn
  rw [HEl2.out.1] at HEn
  have HFo := Lib.hid (fun V => name_fold n V (by unfold maxLen; have := HN3.out; omega))
  have HFl := Lib.hid (show (fold n).length ≤ 1048576 from Nat.le_trans (fold_le n) (by omega))
  clear hmay hq
  obtain ⟨s1, hs1⟩ : ∃ s, s = encOf (askM false n ty cls id size) := ⟨_, rfl⟩
  rw [← hs1] at HQ HDm HLb HDec
  clear hs1
  generalize encOf (askM true n ty cls id size) = s2 at *
  go_wp2_with fail
  refine HQ.out.mono ?_
  rintro e w9 ⟨rfl, hE9⟩
  have r9 := (hE9.block _ (Array.getElem?_eq_some_iff.1 r2).1).trans r2
  clear k0 k1 k2 hwz
  have k0 := box_cell (j := 0) r9 rfl
  go_wp2_with fail
  refine (HMy.out _).mono ?_
  rintro e w10 ⟨rfl, rfl⟩
  have hw9 : Ext w w9 := hw2.trans hE9
  clear k0
  go_wp2_with fail
  refine (HDec.out _ hw9).mono ?_
  rintro e Y ⟨⟨kk, hk0, hx, rfl⟩ | ⟨m', q', a', u', x', o', hm, rfl, hMO, hBd⟩, hEd⟩
  · exact absurd (HDm.out.symm.trans hx) (by simp)
  obtain rfl : askM false n ty cls id size = m' := by have := HDm.out.symm.trans hm; injection this
  clear hm
  have hm7 := hMO.msg7 hBd
  obtain ⟨⟨qA, qc, rfl, -⟩, ⟨aA, ac, rfl, -⟩, ⟨uA, uc, rfl, -⟩, ⟨xA, xc, rfl, -⟩, ⟨oA, oc, rfl, -⟩⟩ := hMO
  have HM7 := Lib.hid (show Msg7 Y (askM false n ty cls id size) (.slice qA 1 qc) (.slice aA 0 ac) (.slice uA 0 uc) (.slice xA 0 xc) (.slice oA 0 oc) from hm7)
  clear hm7 hBd
  have hY := hw9.trans hEd
  dsimp only
  iterate 10 go_step
  obtain ⟨b9, hb9⟩ : ∃ b9, b9 = Y.heap.size := ⟨_, rfl⟩
  have hz4 : (Y.alloc (.cells msgZ 45)).heap[b9]? = some (.cells msgZ 45) := by rw [hb9]; exact heap_alloc_new _ _
  refine Go.Great.wpList_allocTo rfl (some 9) rfl (.pointer (some ⟨Y.heap.size, 0, none⟩)) (.cells msgZ 45) (by kernel_rfl) ?_
  rw [← hb9]
  refine Go.wpList_store_rowTo rfl 45 (.tmp 9) (.tmp 45) rfl rfl b9 #[.int .u16 id, .bool false, .int .u8 0, .bool false, .bool false, .bool true, .bool false, .bool false, .bool false, .bool false, .int .u8 0, .slice qA 1 qc, .slice aA 0 ac, .slice uA 0 uc, .slice xA 0 xc, .bool true, .int .u16 size, .int .u8 0, .int .u8 0, .int .u16 0, .slice oA 0 oc] rfl rfl 45 _ hz4 (by kernel_rfl) rfl (by kernel_rfl) ?_
  rw [alloc_setRow7 Y msgZ #[.int .u16 id, .bool false, .int .u8 0, .bool false, .bool false, .bool true, .bool false, .bool false, .bool false, .bool false, .int .u8 0, .slice qA 1 qc, .slice aA 0 ac, .slice uA 0 uc, .slice xA 0 xc, .bool true, .int .u16 size, .int .u8 0, .int .u8 0, .int .u16 0, .slice oA 0 oc] 45 b9 hb9]
  iterate 3 go_step
  refine wpList_nil ?_
  (try rw [← hb9])
  have rb9 : (Y.alloc (.cells #[.int .u16 id, .bool false, .int .u8 0, .bool false, .bool false, .bool true, .bool false, .bool false, .bool false, .bool false, .int .u8 0, .slice qA 1 qc, .slice aA 0 ac, .slice uA 0 uc, .slice xA 0 xc, .bool true, .int .u16 size, .int .u8 0, .int .u8 0, .int .u16 0, .slice oA 0 oc] 45)).heap[b9]? = some (.cells #[.int .u16 id, .bool false, .int .u8 0, .bool false, .bool false, .bool true, .bool false, .bool false, .bool false, .bool false, .int .u8 0, .slice qA 1 qc, .slice aA 0 ac, .slice uA 0 uc, .slice xA 0 xc, .bool true, .int .u16 size, .int .u8 0, .int .u8 0, .int .u16 0, .slice oA 0 oc] 45) := by rw [hb9]; exact heap_alloc_new _ _
  have hYX : Ext Y (Y.alloc (.cells #[.int .u16 id, .bool false, .int .u8 0, .bool false, .bool false, .bool true, .bool false, .bool false, .bool false, .bool false, .int .u8 0, .slice qA 1 qc, .slice aA 0 ac, .slice uA 0 uc, .slice xA 0 xc, .bool true, .int .u16 size, .int .u8 0, .int .u8 0, .int .u16 0, .slice oA 0 oc] 45)) := (Ext.refl _).alloc _
  have hb9e := Lib.hid hb9.symm
  have hb9l : w.heap.size ≤ b9 := by rw [hb9]; exact hY.size
  obtain ⟨X9, hX⟩ : ∃ X9, X9 = Y.alloc (.cells #[.int .u16 id, .bool false, .int .u8 0, .bool false, .bool false, .bool true, .bool false, .bool false, .bool false, .bool false, .int .u8 0, .slice qA 1 qc, .slice aA 0 ac, .slice uA 0 uc, .slice xA 0 xc, .bool true, .int .u16 size, .int .u8 0, .int .u8 0, .int .u16 0, .slice oA 0 oc] 45) := ⟨_, rfl⟩
  rw [← hX] at rb9 hYX ⊢
  clear hX hz4 hb9
  have hX9 : Ext w X9 := hY.trans hYX
  have rq9 := ((hEd.trans hYX).block _ (Array.getElem?_eq_some_iff.1 r9).1).trans r9
  have HS7 := Lib.hid (fun V (hV : Ext X9 V) => keepQ hV rq9)
  go_upto_region 7 with fail
  refine wp_region_noPanic ?_
  refine wp_region_tree (S := (fun V => V.cell? ⟨g3, 0, none⟩ = some (S n) ∧ V.cell? ⟨g3, 1, none⟩ = some (.int .u16 ty) ∧ V.cell? ⟨g3, 2, none⟩ = some (.int .u16 cls))) (.take 0 (.take 1 (.take 2 (.take 3 (.take 5 (.take 6 (.take 7 (.take 8 (.take 11 (.take 12 (.run2 4 (.take 9 (.run2 10 (.take 13 (.run 14 (.run 15 (.done)))) 14 (.run 10 (.take 13 (.run 15 (.done)))))) 14 (.run 4 (.take 9 (.run 10 (.take 13 (.run 15 (.done))))))))))))))))) (by kernel_rfl) (by kernel_rfl) (fun _ _ _ _ _ h => h) ((HS7.out _ (Ext.refl X9).drew)) ?_
  repeat ((with_reducible refine treeIs ?_); first
    | (refine treeTakeX (a' := ?_) ⟨_, (HS7.out _ (Ext.refl X9).drew)⟩ (by rfl) rfl (by kernel_rfl) rfl ?_ ?_; rotate_left; (focus (intro V Q' hV hq; obtain ⟨hV1, hV2, hV3⟩ := hV; (repeat (first | go_guarded | go_skip | go_step)); (first | exact hq | exact wpList_nil hq)))))
  refine treeRun2 ?_ ?_
  · refine treeRun (by rfl) (fun K hK => ?_)
    go_simp
    refine (HFo.out _).mono ?_
    rintro e wf ⟨rfl, hEq⟩
    have hEf : Ext X9 wf := ((Ext.refl X9).drew).trans hEq
    clear hEq
    refine hK.out _ _ ?_ ?_
    · exact (HS7.out _ hEf)
    clear hK K
    (try simp only [Act.put, List.setIfInBounds_toArray, List.set_cons_zero, List.set_cons_succ])
    repeat ((with_reducible refine treeIs ?_); first
      | (refine treeTakeX (a' := ?_) ⟨_, (HS7.out _ (Ext.refl X9).drew)⟩ (by rfl) rfl (by kernel_rfl) rfl ?_ ?_; rotate_left; (focus (intro V Q' hV hq; obtain ⟨hV1, hV2, hV3⟩ := hV; (repeat (first | go_guarded | go_skip | go_step)); (first | exact hq | exact wpList_nil hq)))))
    refine treeRun2 ?_ ?_
    · refine treeRun (by rfl) (fun K hK => ?_)
      go_simp
      obtain ⟨gs, hgs⟩ : ∃ gs, gs = (wf).heap.size := ⟨_, rfl⟩
      have rs : ((wf).alloc (.cells #[S (fold n), .int .u16 ty, .int .u16 cls] 32)).heap[gs]? = some (.cells #[S (fold n), .int .u16 ty, .int .u16 cls] 32) := by rw [hgs]; exact heap_alloc_new _ _
      have hEs : Ext (wf) ((wf).alloc (.cells #[S (fold n), .int .u16 ty, .int .u16 cls] 32)) := (Ext.refl _).alloc _
      obtain ⟨ws, hws⟩ : ∃ ws, ws = (wf).alloc (.cells #[S (fold n), .int .u16 ty, .int .u16 cls] 32) := ⟨_, rfl⟩
      try rw [← hws]
      try rw [← hgs]
      rw [← hws] at rs hEs
      have hE10 : Ext X9 ws := (hEf).trans hEs
      clear hws hgs
      clear hEs
      refine hK.out _ _ ?_ ?_
      · exact (HS7.out _ hE10)
      clear hK K
      (try simp only [Act.put, List.setIfInBounds_toArray, List.set_cons_zero, List.set_cons_succ])
      repeat ((with_reducible refine treeIs ?_); first
        | (refine treeTakeX (a' := ?_) ⟨_, (HS7.out _ (Ext.refl X9).drew)⟩ (by rfl) rfl (by kernel_rfl) rfl ?_ ?_; rotate_left; (focus (intro V Q' hV hq; obtain ⟨hV1, hV2, hV3⟩ := hV; (repeat (first | go_guarded | go_skip | go_step)); (first | exact hq | exact wpList_nil hq)))))
      refine treeRunX (by rfl) (fun Q' hQ hP => ?_)
      obtain ⟨g8, hg8⟩ : ∃ g8, g8 = (ws).heap.size := ⟨_, rfl⟩
      have ra : ((ws).alloc (.cells msgZ 45)).heap[g8]? = some (.cells msgZ 45) := by rw [hg8]; exact heap_alloc_new _ _
      have hEa : Ext (ws) ((ws).alloc (.cells msgZ 45)) := (Ext.refl _).alloc _
      refine Go.Great.wpList_allocTo rfl (some 11) rfl (.pointer (some ⟨(ws).heap.size, 0, none⟩)) (.cells msgZ 45) (by kernel_rfl) ?_
      rw [← hg8]
      have hg8l : X9.heap.size ≤ g8 := by rw [hg8]; exact (hE10).size
      obtain ⟨wa, hwa⟩ : ∃ wa, wa = (ws).alloc (.cells msgZ 45) := ⟨_, rfl⟩
      rw [← hwa] at ra hEa ⊢
      have hE15 : Ext X9 wa := (hE10).trans hEa
      clear hwa hg8
      have rs := (hEa.block _ (Array.getElem?_eq_some_iff.1 rs).1).trans rs
      clear hEa
      refine wpList_nil ?_
      refine hQ.out _ _ (HS7.out _ hE15) ?_
      clear hQ hP Q'
      (try simp only [Act.put, List.setIfInBounds_toArray, List.set_cons_zero, List.set_cons_succ])
      refine treeRunX (by rfl) (fun Q' hQ hP => ?_)
      refine Go.wpList_store_rowTo rfl 45 (.tmp 11) (.tmp 60) rfl rfl g8 #[.int .u16 id, .bool false, .int .u8 0, .bool false, .bool false, .bool true, .bool false, .bool false, .bool false, .bool false, .int .u8 0, .slice (some ⟨gs, 0, none⟩) 1 1, .slice none 0 0, .slice none 0 0, .slice none 0 0, .bool true, .int .u16 size, .int .u8 0, .int .u8 0, .int .u16 0, .slice none 0 0] rfl rfl 45 _ ra (by kernel_rfl) rfl (by kernel_rfl) ?_
      have hgne : gs ≠ g8 := by intro e; subst e; rw [rs] at ra; injection ra with ra; injection ra with _ h2 _; exact absurd h2 (by decide)
      have rr := setRow_heap (wa) g8 _ #[.int .u16 id, .bool false, .int .u8 0, .bool false, .bool false, .bool true, .bool false, .bool false, .bool false, .bool false, .int .u8 0, .slice (some ⟨gs, 0, none⟩) 1 1, .slice none 0 0, .slice none 0 0, .slice none 0 0, .bool true, .int .u16 size, .int .u8 0, .int .u8 0, .int .u16 0, .slice none 0 0] _ _ ra
      have rq := (setRow_otherH (wa) g8 #[.int .u16 id, .bool false, .int .u8 0, .bool false, .bool false, .bool true, .bool false, .bool false, .bool false, .bool false, .int .u8 0, .slice (some ⟨gs, 0, none⟩) 1 1, .slice none 0 0, .slice none 0 0, .slice none 0 0, .bool true, .int .u16 size, .int .u8 0, .int .u8 0, .int .u16 0, .slice none 0 0] gs hgne).trans rs
      have hEr : Ext X9 (World.setRow (wa) g8 #[.int .u16 id, .bool false, .int .u8 0, .bool false, .bool false, .bool true, .bool false, .bool false, .bool false, .bool false, .int .u8 0, .slice (some ⟨gs, 0, none⟩) 1 1, .slice none 0 0, .slice none 0 0, .slice none 0 0, .bool true, .int .u16 size, .int .u8 0, .int .u8 0, .int .u16 0, .slice none 0 0]) := ext_setRowH (hE15) hg8l _
      obtain ⟨wr, hwr⟩ : ∃ wr, wr = World.setRow (wa) g8 #[.int .u16 id, .bool false, .int .u8 0, .bool false, .bool false, .bool true, .bool false, .bool false, .bool false, .bool false, .int .u8 0, .slice (some ⟨gs, 0, none⟩) 1 1, .slice none 0 0, .slice none 0 0, .slice none 0 0, .bool true, .int .u16 size, .int .u8 0, .int .u8 0, .int .u16 0, .slice none 0 0] := ⟨_, rfl⟩
      rw [← hwr] at rr rq hEr ⊢
      clear hwr
      refine wpList_nil ?_
      refine hQ.out _ _ (HS7.out _ hEr) ?_
      clear hQ hP Q'
      (try simp only [Act.put, List.setIfInBounds_toArray, List.set_cons_zero, List.set_cons_succ])
      refine treeDone ?_
      refine NoPanic.normal ?_
      have hEX : Ext w wr := hX9.trans hEr
      have r9r := (hEr.block _ (Array.getElem?_eq_some_iff.1 rb9).1).trans rb9
      have rqr := (hEr.block _ (Array.getElem?_eq_some_iff.1 rq9).1).trans rq9
      have hqu : Qus wr 0 (.slice (some ⟨gs, 0, none⟩) 1 1) [⟨fold n, ty, cls⟩] := qus_row7 (q := ⟨fold n, ty, cls⟩) rq
      have hm7b : Msg7 wr (askM false n ty cls id size) (.slice (some ⟨gs, 0, none⟩) 1 1) (.slice none 0 0) (.slice none 0 0) (.slice none 0 0) (.slice none 0 0) := msg7_query hqu HFl.out
      have HSm := Lib.hid (show Calls Tryz.prog 46 #[.agg #[.int .u16 id, .bool false, .int .u8 0, .bool false, .bool false, .bool true, .bool false, .bool false, .bool false, .bool false, .int .u8 0, .slice qA 1 qc, .slice aA 0 ac, .slice uA 0 uc, .slice xA 0 xc, .bool true, .int .u16 size, .int .u8 0, .int .u8 0, .int .u16 0, .slice oA 0 oc], .agg #[.int .u16 id, .bool false, .int .u8 0, .bool false, .bool false, .bool true, .bool false, .bool false, .bool false, .bool false, .int .u8 0, .slice (some ⟨gs, 0, none⟩) 1 1, .slice none 0 0, .slice none 0 0, .slice none 0 0, .bool true, .int .u16 size, .int .u8 0, .int .u8 0, .int .u16 0, .slice none 0 0]] wr fun e w' => e = .returned (.bool true) ∧ Ext wr w' from wire_same (askM false n ty cls id size) _ _ _ _ _ _ _ _ _ wr (HM7.out.ext (hYX.trans hEr)) hm7b rfl)
      have HM8 := Lib.hid (fun V (hV : Ext X9 V) => HM7.out.ext (hYX.trans hV))
      clear hqu hm7b
      go_wp2_with (first | (refine load_rowK (by rfl) 45 (.tmp 9) rfl b9 rfl 45 _ _ _ r9r Tryz.underlying45 rfl (by kernel_rfl) ?_) | (refine load_rowK (by rfl) 45 (.tmp 11) rfl g8 rfl 45 _ _ _ rr Tryz.underlying45 rfl (by kernel_rfl) ?_) | fail)
      refine HSm.out.mono ?_
      rintro e w12 ⟨rfl, hE12⟩
      have h912 : Ext X9 w12 := hEr.trans hE12
      have hw12 : Ext w w12 := hX9.trans h912
      obtain ⟨k0, k1, k2⟩ := HS7.out _ h912
      have HLb1 := Lib.hid (HLb.out _ hw12)
      go_wp2_with fail
      refine HLb1.out.mono ?_
      rintro e w13 ⟨vs, vo, rfl, _, _, _, hE13⟩
      have h913 : Ext X9 w13 := h912.trans hE13
      have r913 := (h913.block _ (Array.getElem?_eq_some_iff.1 rb9).1).trans rb9
      have f1 := box_free (j := 1) r913
      have c1 := box_cell (j := 1) r913 rfl
      clear k0 k1 k2
      dsimp only [ReplyD.bad, VerR.bad]
      go_upto_region 11 with fail
      obtain ⟨W11, hW11⟩ : ∃ W11, W11 = w13.setCell ⟨b9, 1, none⟩ (.bool true) := ⟨_, rfl⟩
      rw [← hW11]
      have r911 : W11.heap[b9]? = some (.cells #[.int .u16 id, .bool true, .int .u8 0, .bool false, .bool false, .bool true, .bool false, .bool false, .bool false, .bool false, .int .u8 0, .slice qA 1 qc, .slice aA 0 ac, .slice uA 0 uc, .slice xA 0 xc, .bool true, .int .u16 size, .int .u8 0, .int .u8 0, .int .u16 0, .slice oA 0 oc] 45) := by rw [hW11]; exact row_set r913 1 _
      have hY11 : Ext Y W11 := by rw [hW11]; exact (hYX.trans h913).setCell (Nat.le_of_eq hb9e.out) _
      have hw11 : Ext w W11 := by rw [hW11]; exact (hX9.trans h913).setCell hb9l _
      have hg3b : g3 ≠ b9 := by
        have h1 := (Array.getElem?_eq_some_iff.1 r9).1
        have h2 := hEd.size
        have h3 := hb9e.out
        omega
      have rq11 : W11.heap[g3]? = some (.cells #[S n, .int .u16 ty, .int .u16 cls] 32) := by
        rw [hW11]
        exact (Below.heap_setCell _ _ _ _ hg3b).trans ((h913.block _ (Array.getElem?_eq_some_iff.1 rq9).1).trans rq9)
      have hm7c : Msg7 W11 (askM true n ty cls id size) (.slice qA 1 qc) (.slice aA 0 ac) (.slice uA 0 uc) (.slice xA 0 xc) (.slice oA 0 oc) := by
        have h := HM7.out.ext hY11
        exact ⟨h.qs, h.ans, h.auth, h.extra, h.opts, h.qok, h.aok, h.uok, h.xok, h.xl⟩
      have HEn1 := Lib.hid (show Calls Tryz.prog 30 #[.agg #[.int .u16 id, .bool true, .int .u8 0, .bool false, .bool false, .bool true, .bool false, .bool false, .bool false, .bool false, .int .u8 0, .slice qA 1 qc, .slice aA 0 ac, .slice uA 0 uc, .slice xA 0 xc, .bool true, .int .u16 size, .int .u8 0, .int .u8 0, .int .u16 0, .slice oA 0 oc]] W11 fun e w' => e = .returned (.tuple #[S s2, .int .i64 ((0 : Nat) : Int)]) ∧ Ext W11 w' from HEn.out W11 hw11 _ _ _ _ _ hm7c)
      clear hW11 f1 c1 hm7c
      go_wp2_with (first | (refine load_rowK (by rfl) 45 (.tmp 9) rfl b9 rfl 45 _ _ _ r911 Tryz.underlying45 rfl (by kernel_rfl) ?_) | fail)
      refine HEn1.out.mono ?_
      rintro e w14 ⟨rfl, hE14⟩
      have hw14 : Ext w w14 := hw11.trans hE14
      have rq14 := (hE14.block _ (Array.getElem?_eq_some_iff.1 rq11).1).trans rq11
      have k0 := box_cell (j := 0) rq14 rfl
      have k1 := box_cell (j := 1) rq14 rfl
      have k2 := box_cell (j := 2) rq14 rfl
      have HLv1 := Lib.hid (HLv.out _ hw14)
      go_upto_region 13 with (first | (go_at_call 43; refine HLv1.out.mono ?_; rintro e w15 ⟨vs5, vo5, rfl, hs5, ho5, _, hE15⟩; obtain ⟨ps5, pA5, pc5, hps5, rfl, _, _⟩ := hs5; obtain ⟨po5, tA5, tc5, hpo5, rfl, _, _⟩ := ho5) | fail)
      (try dsimp only at hps5 hpo5 ⊢)
      have hp5 : ps5.length = 0 := by
        have := congrArg List.length hps5; simpa using this
      have ht5 : po5.length = 0 := by
        have := congrArg List.length hpo5; simpa using this
      go_wp2_with fail
      go_ret
      exact ⟨rfl, (hw14.trans hE15).alloc _⟩
    · refine treeRunX (by rfl) (fun Q' hQ hP => ?_)
      obtain ⟨g8, hg8⟩ : ∃ g8, g8 = (wf).heap.size := ⟨_, rfl⟩
      have ra : ((wf).alloc (.cells msgZ 45)).heap[g8]? = some (.cells msgZ 45) := by rw [hg8]; exact heap_alloc_new _ _
      have hEa : Ext (wf) ((wf).alloc (.cells msgZ 45)) := (Ext.refl _).alloc _
      refine Go.Great.wpList_allocTo rfl (some 11) rfl (.pointer (some ⟨(wf).heap.size, 0, none⟩)) (.cells msgZ 45) (by kernel_rfl) ?_
      rw [← hg8]
      have hg8l : X9.heap.size ≤ g8 := by rw [hg8]; exact (hEf).size
      obtain ⟨wa, hwa⟩ : ∃ wa, wa = (wf).alloc (.cells msgZ 45) := ⟨_, rfl⟩
      rw [← hwa] at ra hEa ⊢
      have hE15 : Ext X9 wa := (hEf).trans hEa
      clear hwa hg8
      clear hEa
      refine wpList_nil ?_
      refine hQ.out _ _ (HS7.out _ hE15) ?_
      clear hQ hP Q'
      (try simp only [Act.put, List.setIfInBounds_toArray, List.set_cons_zero, List.set_cons_succ])
      refine treeRun (by rfl) (fun K hK => ?_)
      go_simp
      obtain ⟨gs, hgs⟩ : ∃ gs, gs = (wa).heap.size := ⟨_, rfl⟩
      have rs : ((wa).alloc (.cells #[S (fold n), .int .u16 ty, .int .u16 cls] 32)).heap[gs]? = some (.cells #[S (fold n), .int .u16 ty, .int .u16 cls] 32) := by rw [hgs]; exact heap_alloc_new _ _
      have hEs : Ext (wa) ((wa).alloc (.cells #[S (fold n), .int .u16 ty, .int .u16 cls] 32)) := (Ext.refl _).alloc _
      obtain ⟨ws, hws⟩ : ∃ ws, ws = (wa).alloc (.cells #[S (fold n), .int .u16 ty, .int .u16 cls] 32) := ⟨_, rfl⟩
      try rw [← hws]
      try rw [← hgs]
      rw [← hws] at rs hEs
      have hE10 : Ext X9 ws := (hE15).trans hEs
      clear hws hgs
      have ra := (hEs.block _ (Array.getElem?_eq_some_iff.1 ra).1).trans ra
      clear hEs
      refine hK.out _ _ ?_ ?_
      · exact (HS7.out _ hE10)
      clear hK K
      (try simp only [Act.put, List.setIfInBounds_toArray, List.set_cons_zero, List.set_cons_succ])
      repeat ((with_reducible refine treeIs ?_); first
        | (refine treeTakeX (a' := ?_) ⟨_, (HS7.out _ (Ext.refl X9).drew)⟩ (by rfl) rfl (by kernel_rfl) rfl ?_ ?_; rotate_left; (focus (intro V Q' hV hq; obtain ⟨hV1, hV2, hV3⟩ := hV; (repeat (first | go_guarded | go_skip | go_step)); (first | exact hq | exact wpList_nil hq)))))
      refine treeRunX (by rfl) (fun Q' hQ hP => ?_)
      refine Go.wpList_store_rowTo rfl 45 (.tmp 11) (.tmp 60) rfl rfl g8 #[.int .u16 id, .bool false, .int .u8 0, .bool false, .bool false, .bool true, .bool false, .bool false, .bool false, .bool false, .int .u8 0, .slice (some ⟨gs, 0, none⟩) 1 1, .slice none 0 0, .slice none 0 0, .slice none 0 0, .bool true, .int .u16 size, .int .u8 0, .int .u8 0, .int .u16 0, .slice none 0 0] rfl rfl 45 _ ra (by kernel_rfl) rfl (by kernel_rfl) ?_
      have hgne : gs ≠ g8 := by intro e; subst e; rw [rs] at ra; injection ra with ra; injection ra with _ h2 _; exact absurd h2 (by decide)
      have rr := setRow_heap (ws) g8 _ #[.int .u16 id, .bool false, .int .u8 0, .bool false, .bool false, .bool true, .bool false, .bool false, .bool false, .bool false, .int .u8 0, .slice (some ⟨gs, 0, none⟩) 1 1, .slice none 0 0, .slice none 0 0, .slice none 0 0, .bool true, .int .u16 size, .int .u8 0, .int .u8 0, .int .u16 0, .slice none 0 0] _ _ ra
      have rq := (setRow_otherH (ws) g8 #[.int .u16 id, .bool false, .int .u8 0, .bool false, .bool false, .bool true, .bool false, .bool false, .bool false, .bool false, .int .u8 0, .slice (some ⟨gs, 0, none⟩) 1 1, .slice none 0 0, .slice none 0 0, .slice none 0 0, .bool true, .int .u16 size, .int .u8 0, .int .u8 0, .int .u16 0, .slice none 0 0] gs hgne).trans rs
      have hEr : Ext X9 (World.setRow (ws) g8 #[.int .u16 id, .bool false, .int .u8 0, .bool false, .bool false, .bool true, .bool false, .bool false, .bool false, .bool false, .int .u8 0, .slice (some ⟨gs, 0, none⟩) 1 1, .slice none 0 0, .slice none 0 0, .slice none 0 0, .bool true, .int .u16 size, .int .u8 0, .int .u8 0, .int .u16 0, .slice none 0 0]) := ext_setRowH (hE10) hg8l _
      obtain ⟨wr, hwr⟩ : ∃ wr, wr = World.setRow (ws) g8 #[.int .u16 id, .bool false, .int .u8 0, .bool false, .bool false, .bool true, .bool false, .bool false, .bool false, .bool false, .int .u8 0, .slice (some ⟨gs, 0, none⟩) 1 1, .slice none 0 0, .slice none 0 0, .slice none 0 0, .bool true, .int .u16 size, .int .u8 0, .int .u8 0, .int .u16 0, .slice none 0 0] := ⟨_, rfl⟩
      rw [← hwr] at rr rq hEr ⊢
      clear hwr
      refine wpList_nil ?_
      refine hQ.out _ _ (HS7.out _ hEr) ?_
      clear hQ hP Q'
      (try simp only [Act.put, List.setIfInBounds_toArray, List.set_cons_zero, List.set_cons_succ])
      refine treeDone ?_
      refine NoPanic.normal ?_
      have hEX : Ext w wr := hX9.trans hEr
      have r9r := (hEr.block _ (Array.getElem?_eq_some_iff.1 rb9).1).trans rb9
      have rqr := (hEr.block _ (Array.getElem?_eq_some_iff.1 rq9).1).trans rq9
      have hqu : Qus wr 0 (.slice (some ⟨gs, 0, none⟩) 1 1) [⟨fold n, ty, cls⟩] := qus_row7 (q := ⟨fold n, ty, cls⟩) rq
      have hm7b : Msg7 wr (askM false n ty cls id size) (.slice (some ⟨gs, 0, none⟩) 1 1) (.slice none 0 0) (.slice none 0 0) (.slice none 0 0) (.slice none 0 0) := msg7_query hqu HFl.out
      have HSm := Lib.hid (show Calls Tryz.prog 46 #[.agg #[.int .u16 id, .bool false, .int .u8 0, .bool false, .bool false, .bool true, .bool false, .bool false, .bool false, .bool false, .int .u8 0, .slice qA 1 qc, .slice aA 0 ac, .slice uA 0 uc, .slice xA 0 xc, .bool true, .int .u16 size, .int .u8 0, .int .u8 0, .int .u16 0, .slice oA 0 oc], .agg #[.int .u16 id, .bool false, .int .u8 0, .bool false, .bool false, .bool true, .bool false, .bool false, .bool false, .bool false, .int .u8 0, .slice (some ⟨gs, 0, none⟩) 1 1, .slice none 0 0, .slice none 0 0, .slice none 0 0, .bool true, .int .u16 size, .int .u8 0, .int .u8 0, .int .u16 0, .slice none 0 0]] wr fun e w' => e = .returned (.bool true) ∧ Ext wr w' from wire_same (askM false n ty cls id size) _ _ _ _ _ _ _ _ _ wr (HM7.out.ext (hYX.trans hEr)) hm7b rfl)
      have HM8 := Lib.hid (fun V (hV : Ext X9 V) => HM7.out.ext (hYX.trans hV))
      clear hqu hm7b
      go_wp2_with (first | (refine load_rowK (by rfl) 45 (.tmp 9) rfl b9 rfl 45 _ _ _ r9r Tryz.underlying45 rfl (by kernel_rfl) ?_) | (refine load_rowK (by rfl) 45 (.tmp 11) rfl g8 rfl 45 _ _ _ rr Tryz.underlying45 rfl (by kernel_rfl) ?_) | fail)
      refine HSm.out.mono ?_
      rintro e w12 ⟨rfl, hE12⟩
      have h912 : Ext X9 w12 := hEr.trans hE12
      have hw12 : Ext w w12 := hX9.trans h912
      obtain ⟨k0, k1, k2⟩ := HS7.out _ h912
      have HLb1 := Lib.hid (HLb.out _ hw12)
      go_wp2_with fail
      refine HLb1.out.mono ?_
      rintro e w13 ⟨vs, vo, rfl, _, _, _, hE13⟩
      have h913 : Ext X9 w13 := h912.trans hE13
      have r913 := (h913.block _ (Array.getElem?_eq_some_iff.1 rb9).1).trans rb9
      have f1 := box_free (j := 1) r913
      have c1 := box_cell (j := 1) r913 rfl
      clear k0 k1 k2
      dsimp only [ReplyD.bad, VerR.bad]
      go_upto_region 11 with fail
      obtain ⟨W11, hW11⟩ : ∃ W11, W11 = w13.setCell ⟨b9, 1, none⟩ (.bool true) := ⟨_, rfl⟩
      rw [← hW11]
      have r911 : W11.heap[b9]? = some (.cells #[.int .u16 id, .bool true, .int .u8 0, .bool false, .bool false, .bool true, .bool false, .bool false, .bool false, .bool false, .int .u8 0, .slice qA 1 qc, .slice aA 0 ac, .slice uA 0 uc, .slice xA 0 xc, .bool true, .int .u16 size, .int .u8 0, .int .u8 0, .int .u16 0, .slice oA 0 oc] 45) := by rw [hW11]; exact row_set r913 1 _
      have hY11 : Ext Y W11 := by rw [hW11]; exact (hYX.trans h913).setCell (Nat.le_of_eq hb9e.out) _
      have hw11 : Ext w W11 := by rw [hW11]; exact (hX9.trans h913).setCell hb9l _
      have hg3b : g3 ≠ b9 := by
        have h1 := (Array.getElem?_eq_some_iff.1 r9).1
        have h2 := hEd.size
        have h3 := hb9e.out
        omega
      have rq11 : W11.heap[g3]? = some (.cells #[S n, .int .u16 ty, .int .u16 cls] 32) := by
        rw [hW11]
        exact (Below.heap_setCell _ _ _ _ hg3b).trans ((h913.block _ (Array.getElem?_eq_some_iff.1 rq9).1).trans rq9)
      have hm7c : Msg7 W11 (askM true n ty cls id size) (.slice qA 1 qc) (.slice aA 0 ac) (.slice uA 0 uc) (.slice xA 0 xc) (.slice oA 0 oc) := by
        have h := HM7.out.ext hY11
        exact ⟨h.qs, h.ans, h.auth, h.extra, h.opts, h.qok, h.aok, h.uok, h.xok, h.xl⟩
      have HEn1 := Lib.hid (show Calls Tryz.prog 30 #[.agg #[.int .u16 id, .bool true, .int .u8 0, .bool false, .bool false, .bool true, .bool false, .bool false, .bool false, .bool false, .int .u8 0, .slice qA 1 qc, .slice aA 0 ac, .slice uA 0 uc, .slice xA 0 xc, .bool true, .int .u16 size, .int .u8 0, .int .u8 0, .int .u16 0, .slice oA 0 oc]] W11 fun e w' => e = .returned (.tuple #[S s2, .int .i64 ((0 : Nat) : Int)]) ∧ Ext W11 w' from HEn.out W11 hw11 _ _ _ _ _ hm7c)
      clear hW11 f1 c1 hm7c
      go_wp2_with (first | (refine load_rowK (by rfl) 45 (.tmp 9) rfl b9 rfl 45 _ _ _ r911 Tryz.underlying45 rfl (by kernel_rfl) ?_) | fail)
      refine HEn1.out.mono ?_
      rintro e w14 ⟨rfl, hE14⟩
      have hw14 : Ext w w14 := hw11.trans hE14
      have rq14 := (hE14.block _ (Array.getElem?_eq_some_iff.1 rq11).1).trans rq11
      have k0 := box_cell (j := 0) rq14 rfl
      have k1 := box_cell (j := 1) rq14 rfl
      have k2 := box_cell (j := 2) rq14 rfl
      have HLv1 := Lib.hid (HLv.out _ hw14)
      go_upto_region 13 with (first | (go_at_call 43; refine HLv1.out.mono ?_; rintro e w15 ⟨vs5, vo5, rfl, hs5, ho5, _, hE15⟩; obtain ⟨ps5, pA5, pc5, hps5, rfl, _, _⟩ := hs5; obtain ⟨po5, tA5, tc5, hpo5, rfl, _, _⟩ := ho5) | fail)
      (try dsimp only at hps5 hpo5 ⊢)
      have hp5 : ps5.length = 0 := by
        have := congrArg List.length hps5; simpa using this
      have ht5 : po5.length = 0 := by
        have := congrArg List.length hpo5; simpa using this
      go_wp2_with fail
      go_ret
      exact ⟨rfl, (hw14.trans hE15).alloc _⟩
  · refine treeRunX (by rfl) (fun Q' hQ hP => ?_)
    obtain ⟨g8, hg8⟩ : ∃ g8, g8 = (X9.drew).heap.size := ⟨_, rfl⟩
    have ra : ((X9.drew).alloc (.cells msgZ 45)).heap[g8]? = some (.cells msgZ 45) := by rw [hg8]; exact heap_alloc_new _ _
    have hEa : Ext (X9.drew) ((X9.drew).alloc (.cells msgZ 45)) := (Ext.refl _).alloc _
    refine Go.Great.wpList_allocTo rfl (some 11) rfl (.pointer (some ⟨(X9.drew).heap.size, 0, none⟩)) (.cells msgZ 45) (by kernel_rfl) ?_
    rw [← hg8]
    have hg8l : X9.heap.size ≤ g8 := by rw [hg8]; exact ((Ext.refl X9).drew).size
    obtain ⟨wa, hwa⟩ : ∃ wa, wa = (X9.drew).alloc (.cells msgZ 45) := ⟨_, rfl⟩
    rw [← hwa] at ra hEa ⊢
    have hE15 : Ext X9 wa := ((Ext.refl X9).drew).trans hEa
    clear hwa hg8
    clear hEa
    refine wpList_nil ?_
    refine hQ.out _ _ (HS7.out _ hE15) ?_
    clear hQ hP Q'
    (try simp only [Act.put, List.setIfInBounds_toArray, List.set_cons_zero, List.set_cons_succ])
    refine treeRun (by rfl) (fun K hK => ?_)
    go_simp
    refine (HFo.out _).mono ?_
    rintro e wf ⟨rfl, hEq⟩
    have hEf : Ext X9 wf := (hE15).trans hEq
    have ra := (hEq.block _ (Array.getElem?_eq_some_iff.1 ra).1).trans ra
    clear hEq
    refine hK.out _ _ ?_ ?_
    · exact (HS7.out _ hEf)
    clear hK K
    (try simp only [Act.put, List.setIfInBounds_toArray, List.set_cons_zero, List.set_cons_succ])
    repeat ((with_reducible refine treeIs ?_); first
      | (refine treeTakeX (a' := ?_) ⟨_, (HS7.out _ (Ext.refl X9).drew)⟩ (by rfl) rfl (by kernel_rfl) rfl ?_ ?_; rotate_left; (focus (intro V Q' hV hq; obtain ⟨hV1, hV2, hV3⟩ := hV; (repeat (first | go_guarded | go_skip | go_step)); (first | exact hq | exact wpList_nil hq)))))
    refine treeRun (by rfl) (fun K hK => ?_)
    go_simp
    obtain ⟨gs, hgs⟩ : ∃ gs, gs = (wf).heap.size := ⟨_, rfl⟩
    have rs : ((wf).alloc (.cells #[S (fold n), .int .u16 ty, .int .u16 cls] 32)).heap[gs]? = some (.cells #[S (fold n), .int .u16 ty, .int .u16 cls] 32) := by rw [hgs]; exact heap_alloc_new _ _
    have hEs : Ext (wf) ((wf).alloc (.cells #[S (fold n), .int .u16 ty, .int .u16 cls] 32)) := (Ext.refl _).alloc _
    obtain ⟨ws, hws⟩ : ∃ ws, ws = (wf).alloc (.cells #[S (fold n), .int .u16 ty, .int .u16 cls] 32) := ⟨_, rfl⟩
    try rw [← hws]
    try rw [← hgs]
    rw [← hws] at rs hEs
    have hE10 : Ext X9 ws := (hEf).trans hEs
    clear hws hgs
    have ra := (hEs.block _ (Array.getElem?_eq_some_iff.1 ra).1).trans ra
    clear hEs
    refine hK.out _ _ ?_ ?_
    · exact (HS7.out _ hE10)
    clear hK K
    (try simp only [Act.put, List.setIfInBounds_toArray, List.set_cons_zero, List.set_cons_succ])
    repeat ((with_reducible refine treeIs ?_); first
      | (refine treeTakeX (a' := ?_) ⟨_, (HS7.out _ (Ext.refl X9).drew)⟩ (by rfl) rfl (by kernel_rfl) rfl ?_ ?_; rotate_left; (focus (intro V Q' hV hq; obtain ⟨hV1, hV2, hV3⟩ := hV; (repeat (first | go_guarded | go_skip | go_step)); (first | exact hq | exact wpList_nil hq)))))
    refine treeRunX (by rfl) (fun Q' hQ hP => ?_)
    refine Go.wpList_store_rowTo rfl 45 (.tmp 11) (.tmp 60) rfl rfl g8 #[.int .u16 id, .bool false, .int .u8 0, .bool false, .bool false, .bool true, .bool false, .bool false, .bool false, .bool false, .int .u8 0, .slice (some ⟨gs, 0, none⟩) 1 1, .slice none 0 0, .slice none 0 0, .slice none 0 0, .bool true, .int .u16 size, .int .u8 0, .int .u8 0, .int .u16 0, .slice none 0 0] rfl rfl 45 _ ra (by kernel_rfl) rfl (by kernel_rfl) ?_
    have hgne : gs ≠ g8 := by intro e; subst e; rw [rs] at ra; injection ra with ra; injection ra with _ h2 _; exact absurd h2 (by decide)
    have rr := setRow_heap (ws) g8 _ #[.int .u16 id, .bool false, .int .u8 0, .bool false, .bool false, .bool true, .bool false, .bool false, .bool false, .bool false, .int .u8 0, .slice (some ⟨gs, 0, none⟩) 1 1, .slice none 0 0, .slice none 0 0, .slice none 0 0, .bool true, .int .u16 size, .int .u8 0, .int .u8 0, .int .u16 0, .slice none 0 0] _ _ ra
    have rq := (setRow_otherH (ws) g8 #[.int .u16 id, .bool false, .int .u8 0, .bool false, .bool false, .bool true, .bool false, .bool false, .bool false, .bool false, .int .u8 0, .slice (some ⟨gs, 0, none⟩) 1 1, .slice none 0 0, .slice none 0 0, .slice none 0 0, .bool true, .int .u16 size, .int .u8 0, .int .u8 0, .int .u16 0, .slice none 0 0] gs hgne).trans rs
    have hEr : Ext X9 (World.setRow (ws) g8 #[.int .u16 id, .bool false, .int .u8 0, .bool false, .bool false, .bool true, .bool false, .bool false, .bool false, .bool false, .int .u8 0, .slice (some ⟨gs, 0, none⟩) 1 1, .slice none 0 0, .slice none 0 0, .slice none 0 0, .bool true, .int .u16 size, .int .u8 0, .int .u8 0, .int .u16 0, .slice none 0 0]) := ext_setRowH (hE10) hg8l _
    obtain ⟨wr, hwr⟩ : ∃ wr, wr = World.setRow (ws) g8 #[.int .u16 id, .bool false, .int .u8 0, .bool false, .bool false, .bool true, .bool false, .bool false, .bool false, .bool false, .int .u8 0, .slice (some ⟨gs, 0, none⟩) 1 1, .slice none 0 0, .slice none 0 0, .slice none 0 0, .bool true, .int .u16 size, .int .u8 0, .int .u8 0, .int .u16 0, .slice none 0 0] := ⟨_, rfl⟩
    rw [← hwr] at rr rq hEr ⊢
    clear hwr
    refine wpList_nil ?_
    refine hQ.out _ _ (HS7.out _ hEr) ?_
    clear hQ hP Q'
    (try simp only [Act.put, List.setIfInBounds_toArray, List.set_cons_zero, List.set_cons_succ])
    refine treeDone ?_
    refine NoPanic.normal ?_
    have hEX : Ext w wr := hX9.trans hEr
    have r9r := (hEr.block _ (Array.getElem?_eq_some_iff.1 rb9).1).trans rb9
    have rqr := (hEr.block _ (Array.getElem?_eq_some_iff.1 rq9).1).trans rq9
    have hqu : Qus wr 0 (.slice (some ⟨gs, 0, none⟩) 1 1) [⟨fold n, ty, cls⟩] := qus_row7 (q := ⟨fold n, ty, cls⟩) rq
    have hm7b : Msg7 wr (askM false n ty cls id size) (.slice (some ⟨gs, 0, none⟩) 1 1) (.slice none 0 0) (.slice none 0 0) (.slice none 0 0) (.slice none 0 0) := msg7_query hqu HFl.out
    have HSm := Lib.hid (show Calls Tryz.prog 46 #[.agg #[.int .u16 id, .bool false, .int .u8 0, .bool false, .bool false, .bool true, .bool false, .bool false, .bool false, .bool false, .int .u8 0, .slice qA 1 qc, .slice aA 0 ac, .slice uA 0 uc, .slice xA 0 xc, .bool true, .int .u16 size, .int .u8 0, .int .u8 0, .int .u16 0, .slice oA 0 oc], .agg #[.int .u16 id, .bool false, .int .u8 0, .bool false, .bool false, .bool true, .bool false, .bool false, .bool false, .bool false, .int .u8 0, .slice (some ⟨gs, 0, none⟩) 1 1, .slice none 0 0, .slice none 0 0, .slice none 0 0, .bool true, .int .u16 size, .int .u8 0, .int .u8 0, .int .u16 0, .slice none 0 0]] wr fun e w' => e = .returned (.bool true) ∧ Ext wr w' from wire_same (askM false n ty cls id size) _ _ _ _ _ _ _ _ _ wr (HM7.out.ext (hYX.trans hEr)) hm7b rfl)
    have HM8 := Lib.hid (fun V (hV : Ext X9 V) => HM7.out.ext (hYX.trans hV))
    clear hqu hm7b
    go_wp2_with (first | (refine load_rowK (by rfl) 45 (.tmp 9) rfl b9 rfl 45 _ _ _ r9r Tryz.underlying45 rfl (by kernel_rfl) ?_) | (refine load_rowK (by rfl) 45 (.tmp 11) rfl g8 rfl 45 _ _ _ rr Tryz.underlying45 rfl (by kernel_rfl) ?_) | fail)
    refine HSm.out.mono ?_
    rintro e w12 ⟨rfl, hE12⟩
    have h912 : Ext X9 w12 := hEr.trans hE12
    have hw12 : Ext w w12 := hX9.trans h912
    obtain ⟨k0, k1, k2⟩ := HS7.out _ h912
    have HLb1 := Lib.hid (HLb.out _ hw12)
    go_wp2_with fail
    refine HLb1.out.mono ?_
    rintro e w13 ⟨vs, vo, rfl, _, _, _, hE13⟩
    have h913 : Ext X9 w13 := h912.trans hE13
    have r913 := (h913.block _ (Array.getElem?_eq_some_iff.1 rb9).1).trans rb9
    have f1 := box_free (j := 1) r913
    have c1 := box_cell (j := 1) r913 rfl
    clear k0 k1 k2
    dsimp only [ReplyD.bad, VerR.bad]
    go_upto_region 11 with fail
    obtain ⟨W11, hW11⟩ : ∃ W11, W11 = w13.setCell ⟨b9, 1, none⟩ (.bool true) := ⟨_, rfl⟩
    rw [← hW11]
    have r911 : W11.heap[b9]? = some (.cells #[.int .u16 id, .bool true, .int .u8 0, .bool false, .bool false, .bool true, .bool false, .bool false, .bool false, .bool false, .int .u8 0, .slice qA 1 qc, .slice aA 0 ac, .slice uA 0 uc, .slice xA 0 xc, .bool true, .int .u16 size, .int .u8 0, .int .u8 0, .int .u16 0, .slice oA 0 oc] 45) := by rw [hW11]; exact row_set r913 1 _
    have hY11 : Ext Y W11 := by rw [hW11]; exact (hYX.trans h913).setCell (Nat.le_of_eq hb9e.out) _
    have hw11 : Ext w W11 := by rw [hW11]; exact (hX9.trans h913).setCell hb9l _
    have hg3b : g3 ≠ b9 := by
      have h1 := (Array.getElem?_eq_some_iff.1 r9).1
      have h2 := hEd.size
      have h3 := hb9e.out
      omega
    have rq11 : W11.heap[g3]? = some (.cells #[S n, .int .u16 ty, .int .u16 cls] 32) := by
      rw [hW11]
      exact (Below.heap_setCell _ _ _ _ hg3b).trans ((h913.block _ (Array.getElem?_eq_some_iff.1 rq9).1).trans rq9)
    have hm7c : Msg7 W11 (askM true n ty cls id size) (.slice qA 1 qc) (.slice aA 0 ac) (.slice uA 0 uc) (.slice xA 0 xc) (.slice oA 0 oc) := by
      have h := HM7.out.ext hY11
      exact ⟨h.qs, h.ans, h.auth, h.extra, h.opts, h.qok, h.aok, h.uok, h.xok, h.xl⟩
    have HEn1 := Lib.hid (show Calls Tryz.prog 30 #[.agg #[.int .u16 id, .bool true, .int .u8 0, .bool false, .bool false, .bool true, .bool false, .bool false, .bool false, .bool false, .int .u8 0, .slice qA 1 qc, .slice aA 0 ac, .slice uA 0 uc, .slice xA 0 xc, .bool true, .int .u16 size, .int .u8 0, .int .u8 0, .int .u16 0, .slice oA 0 oc]] W11 fun e w' => e = .returned (.tuple #[S s2, .int .i64 ((0 : Nat) : Int)]) ∧ Ext W11 w' from HEn.out W11 hw11 _ _ _ _ _ hm7c)
    clear hW11 f1 c1 hm7c
    go_wp2_with (first | (refine load_rowK (by rfl) 45 (.tmp 9) rfl b9 rfl 45 _ _ _ r911 Tryz.underlying45 rfl (by kernel_rfl) ?_) | fail)
    refine HEn1.out.mono ?_
    rintro e w14 ⟨rfl, hE14⟩
    have hw14 : Ext w w14 := hw11.trans hE14
    have rq14 := (hE14.block _ (Array.getElem?_eq_some_iff.1 rq11).1).trans rq11
    have k0 := box_cell (j := 0) rq14 rfl
    have k1 := box_cell (j := 1) rq14 rfl
    have k2 := box_cell (j := 2) rq14 rfl
    have HLv1 := Lib.hid (HLv.out _ hw14)
    go_upto_region 13 with (first | (go_at_call 43; refine HLv1.out.mono ?_; rintro e w15 ⟨vs5, vo5, rfl, hs5, ho5, _, hE15⟩; obtain ⟨ps5, pA5, pc5, hps5, rfl, _, _⟩ := hs5; obtain ⟨po5, tA5, tc5, hpo5, rfl, _, _⟩ := ho5) | fail)
    (try dsimp only at hps5 hpo5 ⊢)
    have hp5 : ps5.length = 0 := by
      have := congrArg List.length hps5; simpa using this
    have ht5 : po5.length = 0 := by
      have := congrArg List.length hpo5; simpa using this
    go_wp2_with fail
    go_ret
    exact ⟨rfl, (hw14.trans hE15).alloc _⟩
end Go.Proofs.YtbmjfjgfognimaaGreatDoor
namespace Go.Proofs.YtbmjfjgfognimaaGreatDoor
set_option linter.unusedSimpArgs false
set_option linter.unusedVariables false
open Go.ChangeShapes Go.WideShapes Go.RowKit Go.Deep Go.Joins
set_option maxRecDepth 100000
end Go.Proofs.YtbmjfjgfognimaaGreatDoor
namespace Go.Proofs.YtbmjfjgfognimaaGreatDoor
set_option linter.unusedSimpArgs false
set_option linter.unusedVariables false
open Go.ChangeShapes Go.WideShapes Go.ChangeAt Go.RowKit
set_option maxRecDepth 100000

theorem heardAsked_contract (H : Type) (enc : TypeId × Value → H) (W : World) (base : Nat) (args : Array Value) (ds gs : List (DataW H)) (before : List MemPlace)
    (hval : ∀ (j : Nat) t v, Tryz.f12.params[j]? = some t → args[j]? = some v → Value.okWide Tryz.prog W .any base t v)
    (hW : DataW.Whole enc Tryz.prog Tryz.f12.params.toList Rows.heardAskedSpec.vars false W args.toList ds gs before)
    (hsz : (DataW.weightsEach Tryz.prog (Tryz.f12.params.toList ++ (OpenSpec.ofChange Rows.heardAskedSpec).bare.plain.varTypes Tryz.prog) (ds ++ gs)).all (· ≤ reachBytes) = true)
    (hL : laidMetH Tryz.prog laidL W) :
    Calls Tryz.prog 12 args W fun e W' => ∃ v, e = .returned v ∧ Rows.heardAskedSpec.post enc Tryz.prog Tryz.f12 false true false false W args v W' := by
  have hW' := hW
  have hp : ∀ t ∈ Tryz.f12.params.toList, Tryz.prog.readableRec t = true ∧ t < Tryz.prog.types.size := by
    have h : (Tryz.f12.params.toList.all fun t => Tryz.prog.readableRec t && decide (t < Tryz.prog.types.size)) = true := by kernel_rfl
    simpa only [List.all_eq_true, Bool.and_eq_true, decide_eq_true_eq] using h
  have hg := laid_of hL
  have hb := laidbits_of hL
  obtain ⟨p, q, hA0, hV, rfl, _, _⟩ := hW
  have hA : DataW.TrodAll enc Tryz.prog W 0 (fun _ => true) true Tryz.f12.params.toList args.toList ds p := hA0
  clear hA0
  rw [Tryz.params12] at hA hval hsz
  obtain ⟨rfl, rfl⟩ := trodVars_none hV
  obtain ⟨ea, eb, he⟩ := errs_of hL
  obtain ⟨v0, v1, v2, d0, d1, d2, p0, p1, p2, rfl, rfl, rfl, h0, h1, h2⟩ := trodAll_three hA
  obtain ⟨n, ty, cl, rfl, hn, hq1, hq2⟩ := open_question (hval 0 _ _ rfl rfl) h0
  obtain ⟨id, rfl, hi1, hi2⟩ := open_u16 (hval 1 _ _ rfl rfl) h1
  obtain ⟨sz, rfl, hs1, hs2⟩ := open_u16 (hval 2 _ _ rfl rfl) h2
  refine (law24_asked n ty cl id sz ea eb W hg hb he hn hq1 hq2 ⟨hi1, hi2⟩ ⟨hs1, hs2⟩).mono ?_
  rintro e W' ⟨rfl, hE⟩
  exact ⟨_, rfl, post_true laid_out rfl (by kernel_rfl) Tryz.underlying4 hp hW' rfl hE⟩

theorem heardAsked_reads (os : Os) {H : Type} (enc : TypeId × Value → H) : ∃ places, DataW.whole enc Tryz.prog ((laidWorld os).forCall (fun _ _ => 0) ⟨#[], #[.agg #[.string ⟨#[]⟩, .int .u16 0, .int .u16 0], .int .u16 0, .int .u16 0], []⟩).memory Tryz.f12.params.toList Rows.heardAskedSpec.vars false (#[.agg #[.string ⟨#[]⟩, .int .u16 0, .int .u16 0], .int .u16 0, .int .u16 0] : Array Value).toList 8 = some ([.agg [.lit (.string []), .lit (.int .u16 0), .lit (.int .u16 0)], .lit (.int .u16 0), .lit (.int .u16 0)], [], places) :=
  ⟨[], by kernel_rfl⟩
theorem heardAsked_lifted (os : Os) (started : os.Started) (H : Type) (enc : TypeId × Value → H) (F : Stop.Interp) :
    ReturnsInHanded {} Tryz.checked os 12 .any ((OpenSpec.ofChange Rows.heardAskedSpec).preRow enc Tryz.prog Tryz.f12 Rows.heardAskedRow.domain false Rows.heardAskedRow.laid) (((OpenSpec.ofChange Rows.heardAskedSpec).at F).post enc Tryz.prog Tryz.f12 false true false false) := by
  obtain ⟨places, hx⟩ := heardAsked_reads os enc
  refine returnsInHanded_of_row (C := Tryz.checked) (s := OpenSpec.ofChange Rows.heardAskedSpec) own_knob started (by kernel_rfl) Tryz.func12
    (witness_row_at (enc := enc) (C := Tryz.checked) false (laidWorld os) #[.agg #[.string ⟨#[]⟩, .int .u16 0, .int .u16 0], .int .u16 0, .int .u16 0] rfl (by kernel_rfl) (by kernel_rfl) (by kernel_rfl)
      (OpenSpec.preRow_of_cond 8 hx (by kernel_rfl) (fun k hk => by cases hk) (by kernel_rfl) (laid_met os _))) ?_
  intro W base args ds gs before hval hW _ _ hsz hL _ _
  exact heardAsked_contract H enc W base args ds gs before hval hW hsz hL
theorem band_card (a b : Bool) (h1 : a = true) (h2 : b = true) : (a && b) = true := by rw [h1, h2]; rfl
set_option maxHeartbeats 4000000 in
theorem heardAsked_joined : joinedFacts Tryz.prog 12 Tryz.f12 (OpenSpec.ofChange Rows.heardAskedSpec).bare Rows.heardAskedRow = true := by
  unfold joinedFacts; repeat' (with_reducible refine band_card _ _ ?_ ?_)
  all_goals (as_aux_lemma => kernel_rfl)
set_option maxHeartbeats 4000000 in
theorem heardAsked_said : Rows.HeardAskedSaid :=
  OpenClaim.holds_of_cond 12 Tryz.f12 rfl rfl rfl rfl rfl rfl rfl ⟨rfl, rfl, rfl, rfl, rfl⟩ rfl rfl rfl rfl rfl (by kernel_rfl) Tryz.func12 heardAsked_joined
    (of_decide_eq_true (by kernel_rfl)) (by unfold Func.isWrapper; first | (rw [if_pos (by decide +kernel)]; kernel_rfl) | (rw [if_neg (by decide +kernel)]; exact ⟨rfl, rfl⟩))
    (fun os started H enc _ F => by rw [OpenClaim.pre_eq_preRow]; exact heardAsked_lifted os started H enc F)
/-- THE CARD. -/
theorem heardAsked_card : Rows.HeardAskedCardSaid :=
  Claim7.holds_tied_plain_at .later [] _ _ _ _ heardAsked_said (fun _ h => by cases h) (by as_aux_lemma => kernel_rfl) (fun _ h => by cases h) heardAsked_row_tie rfl ⟨rfl, rfl⟩ (by as_aux_lemma => kernel_rfl) rfl
    (fun f fn hf hfn => by
      obtain rfl : f = 12 := Option.some.inj ((show Tryz.prog.funcNamed Rows.heardAskedRow.func = some 12 by kernel_rfl).symm.trans hf) |>.symm
      obtain rfl : fn = Tryz.f12 := (Option.some.inj (Tryz.func12.symm.trans hfn)).symm
      refine ⟨by kernel_rfl, fun j t ht => ?_⟩
      have h : (Tryz.f12.params.toList.all fun t => !Tryz.prog.wantsStandIn t) = true := by kernel_rfl
      have h2 := List.all_eq_true.1 h t (by simpa using Array.mem_of_getElem? ht)
      exact (by simpa using h2 : Tryz.prog.wantsStandIn t = false))
    (by as_aux_lemma => kernel_rfl)
#print axioms heardAsked_card
end Go.Proofs.YtbmjfjgfognimaaGreatDoor
