/- hustingslaw28.AnswerRead returns true for every input, and every argument reads behind the call as it read before; the listed variables are tied to the program's text. No condition of ours. -/
import Derived.Test.YtbmjfjgfognimaaGreatDoorCards
import Derived.Test.YtbmjfjgfognimaaGreatDoorTie
import Derived.Test.YtbmjfjgfognimaaGreatDoorMb
import Derived.ProofKit
import Derived.OpenShut
import Derived.LaidHandle
import Derived.LaidLaws
import Derived.Test.YtbmjfjgfognimaaGreatDoorMwy
import Derived.Deep.DeepHandedRow
import Derived.Stop.LaidTwo
import Derived.LaidSub
import Derived.Test.YtbmjfjgfognimaaGreatDoorMhd
import Derived.Test.YtbmjfjgfognimaaGreatDoorMvp
import Derived.Test.YtbmjfjgfognimaaGreatDoorMrz
import Derived.Test.YtbmjfjgfognimaaGreatDoorMpr
import Derived.Test.YtbmjfjgfognimaaGreatDoorMj
import Derived.Test.YtbmjfjgfognimaaGreatDoorMv
import Derived.Test.YtbmjfjgfognimaaGreatDoorMu
import Derived.Test.YtbmjfjgfognimaaGreatDoorMhx
import Derived.Test.YtbmjfjgfognimaaGreatDoorMg
namespace Go.Proofs.YtbmjfjgfognimaaGreatDoor
set_option linter.unusedSimpArgs false
set_option linter.unusedVariables false
open Go.ChangeShapes Go.WideShapes Go.ChangeAt Go.RowKit
set_option maxRecDepth 100000
theorem own_knob : ownKnob Tryz.prog.godebug = none := by kernel_rfl
theorem et_at : Tryz.prog.globalNamed "errors.errorType" = some 3 := by kernel_rfl
theorem one_row : ((List.range Tryz.prog.types.size).filter fun t => Tryz.prog.rowNamed t [101, 114, 114, 111, 114]) = [160] := by kernel_rfl
def laidL : List (String × DataW Unit) := [("errors.errorType", Rows.laid_errors_errorType), ("hustings/head.bits", Rows.laid_hustings_head_bits), ("hustings/heard.errBad", Rows.laid_hustings_heard_errBad), ("hustings/heard.errPass", Rows.laid_hustings_heard_errPass)]

theorem laid_of {W : World} (h : laidMetH Tryz.prog laidL W) : Laid W := by
  have h' : laidMet Tryz.prog [("hustings/head.bits", Rows.laid_hustings_head_bits), ("hustings/heard.errBad", Rows.laid_hustings_heard_errBad), ("hustings/heard.errPass", Rows.laid_hustings_heard_errPass)] W ∧ handlesMet Tryz.prog [("errors.errorType", Rows.laid_errors_errorType)] W := h
  obtain ⟨name, u, ty, e1, e2, e3, e4, e5⟩ := h'.2 _ (List.mem_singleton.2 rfl)
  have en : name = [101, 114, 114, 111, 114] := (Option.some.inj e1).symm
  subst en
  obtain rfl : u = 322 := Option.some.inj (e2.symm.trans (by kernel_rfl))
  have hm : ty ∈ (List.range Tryz.prog.types.size).filter fun t => Tryz.prog.rowNamed t [101, 114, 114, 111, 114] := List.mem_filter.2 ⟨List.mem_range.2 e3, e4⟩
  rw [one_row] at hm
  obtain rfl := List.mem_singleton.1 hm
  have hh : typeHandle Tryz.prog 160 = hdl 160 := by kernel_rfl
  rw [hh] at e5
  show W.cell? ⟨3, 0, none⟩ = _
  simpa using World.var?_cell et_at e5 0

theorem bits_at : Tryz.prog.globalNamed "hustings/head.bits" = some 2 := by kernel_rfl
theorem one_cell {l : List Value} {i : Nat} {v : Value} (h : (l.drop i).take 1 = [v]) : l[i]? = some v := by
  have h1 := congrArg (fun x : List Value => x[0]?) h
  simpa using h1
def bitsL : List Int := [32768, 1024, 512, 256, 128, 64, 32, 16]
theorem laidbits_of {W : World} (h : laidMetH Tryz.prog laidL W) : BitsAt W := by
  have h' : laidMet Tryz.prog [("hustings/head.bits", Rows.laid_hustings_head_bits), ("hustings/heard.errBad", Rows.laid_hustings_heard_errBad), ("hustings/heard.errPass", Rows.laid_hustings_heard_errPass)] W ∧ handlesMet Tryz.prog [("errors.errorType", Rows.laid_errors_errorType)] W := h
  obtain ⟨ps, hlv, _, _⟩ := h'.1
  obtain ⟨g, t, cs, fuel, p, q, e1, e2, e3, e4, _, _⟩ := hlv
  obtain rfl : 2 = g := Option.some.inj (bits_at.symm.trans e1)
  obtain rfl : 260 = t := Option.some.inj ((show (Tryz.prog.globals[2]?).map (·.type) = some 260 by kernel_rfl).symm.trans e2)
  obtain ⟨xs, n, _, hd, _, hlen, hf⟩ := DataW.trod_array Tryz.underlying260 e4
  have hd1 := (Prod.mk.inj hd).1
  have key : ∀ i, i < 8 → cs.toList[i]? = some (.int .u16 (bitsL.getD i 0)) := fun i hi => by
    have hx : (xs.map (·.1))[i]? = some (.lit (.int .u16 (bitsL.getD i 0))) := by
      have h1 : xs.map (·.1) = bitsL.map fun k => (.lit (.int .u16 k) : DataW Unit) := by
        injection hd1 with h1
        exact h1.symm
      rw [h1, List.getElem?_map, List.getElem?_eq_getElem (show i < bitsL.length from hi)]
      simp [List.getD, List.getElem?_eq_getElem (show i < bitsL.length from hi)]
    rw [List.getElem?_map] at hx
    obtain ⟨y, hy1, hy2⟩ := Option.map_eq_some_iff.1 hx
    have h2 := (hf i hi).trans hy1
    rw [show Tryz.prog.cellsOf 26 = 1 by kernel_rfl, Nat.mul_one] at h2
    obtain ⟨m, g1, g2, _⟩ := DataW.trod_int Tryz.underlying26 h2
    rw [g2] at hy2
    have hm : m = bitsL.getD i 0 := by
      injection hy2 with hy2
      injection hy2
    rw [← hm]
    exact one_cell g1
  have key2 : ∀ i, i < 8 → W.cell? ⟨2, i, none⟩ = some (.int .u16 (bitsL.getD i 0)) := fun i hi => by
    rw [World.var?_cell bits_at e3 i]
    simpa using key i hi
  exact ⟨key2 0 (by omega), key2 1 (by omega), key2 2 (by omega), key2 3 (by omega), key2 4 (by omega), key2 5 (by omega), key2 6 (by omega), key2 7 (by omega)⟩
theorem bad_at : Tryz.prog.globalNamed "hustings/heard.errBad" = some 0 := by kernel_rfl
theorem pass_at : Tryz.prog.globalNamed "hustings/heard.errPass" = some 1 := by kernel_rfl
theorem bad_type : (Tryz.prog.globals[0]?).map (·.type) = some 160 := by kernel_rfl
theorem pass_type : (Tryz.prog.globals[1]?).map (·.type) = some 160 := by kernel_rfl
theorem es_cells : Tryz.prog.cellsOf 397 = 1 := by kernel_rfl
theorem str_cells : Tryz.prog.cellsOf 9 = 1 := by kernel_rfl
theorem es_star : "*" ++ "errors.errorString" = "*errors.errorString" := by decide
theorem es_row (u : TypeId) (h : Tryz.prog.typeName? 3 u = some "*errors.errorString") : u = 378 :=
  typeName_ptr_named (nm := "errors.errorString") (by rw [es_star]; kernel_rfl) (by kernel_rfl) (by decide) u (by rw [es_star]; exact h)
theorem errs_of {W : World} (h : laidMetH Tryz.prog laidL W) : ∃ a b, ErrsAt W a b := by
  have h' : laidMet Tryz.prog [("hustings/head.bits", Rows.laid_hustings_head_bits), ("hustings/heard.errBad", Rows.laid_hustings_heard_errBad), ("hustings/heard.errPass", Rows.laid_hustings_heard_errPass)] W ∧ handlesMet Tryz.prog [("errors.errorType", Rows.laid_errors_errorType)] W := h
  have h2 : laidMet Tryz.prog [("hustings/heard.errBad", Rows.laid_hustings_heard_errBad), ("hustings/heard.errPass", Rows.laid_hustings_heard_errPass)] W := h'.1.filter (fun x => x.1 != "hustings/head.bits")
  obtain ⟨a0, a1, s0, s1, c0, c1, t0, t1, hv0, hv1, _, _, _, _, _, _, hne, hb0, hb1⟩ := laid_sentinels2 h2 bad_at bad_type pass_at pass_type Tryz.underlying160 es_row Tryz.underlying378 Tryz.underlying397 rfl rfl Tryz.underlying9 es_cells str_cells
  exact ⟨a0, a1, by simpa using World.var?_cell bad_at hv0 0, by simpa using World.var?_cell pass_at hv1 0, ⟨_, _, hb0⟩, ⟨_, _, hb1⟩, hne⟩
abbrev badS : ByteArray := { data := #[116, 104, 101, 32, 114, 101, 112, 108, 121, 32, 105, 115, 32, 98, 97, 100] }
abbrev passS : ByteArray := { data := #[116, 104, 101, 32, 114, 101, 112, 108, 121, 32, 105, 115, 32, 97, 32, 112, 97, 115, 115] }
noncomputable def low24 : Nat := (World.holding Tryz.prog default ⟨#[], #[], []⟩).heap.size
noncomputable def laidWorld (os : Os) : World :=
  let w0 := World.holding Tryz.prog os ⟨#[.cells #[.string badS] 397, .cells #[.string passS] 397], #[], []⟩
  { w0 with heap := (((w0.heap.modify 3 fun
      | .cells _ t frozen => .cells #[errTy] t frozen
      | o => o).modify 2 fun
      | .cells _ t frozen => .cells #[.int .u16 32768, .int .u16 1024, .int .u16 512, .int .u16 256, .int .u16 128, .int .u16 64, .int .u16 32, .int .u16 16] t frozen
      | o => o).modify 0 fun
      | .cells _ t frozen => .cells #[.iface 378 (.pointer (some ⟨low24, 0, none⟩))] t frozen
      | o => o).modify 1 fun
      | .cells _ t frozen => .cells #[.iface 378 (.pointer (some ⟨low24 + 1, 0, none⟩))] t frozen
      | o => o }
theorem laid_met (os : Os) (args : Array Value) : laidMetH Tryz.prog laidL ((laidWorld os).forCall (fun _ _ => 0) ⟨#[], args, []⟩).memory :=
  laidMetH_of_parts (laidMet_of_run' 8 (by kernel_rfl) (by kernel_rfl)) (by kernel_rfl)

section
variable {H : Type} {enc : TypeId × Value → H} {P : Program}
theorem trodAll_stays (hl : laidOutB P = true) {W W' : World} (hb : Below W.heap.size W W') {sp : Nat → Bool} : ∀ {ts : List TypeId} {vs : List Value} {ds : List (DataW H)} {ps : List MemPlace},
    (∀ t ∈ ts, P.readableRec t = true ∧ t < P.types.size) → DataW.TrodAll enc P W 0 (fun _ => true) true ts vs ds ps → (∀ x ∈ ps, x.block < W.heap.size) → (∀ x ∈ ps, sp x.block = true) → DataW.TrodAll enc P W' 0 sp true ts vs ds ps
  | [], _, _, _, _, h, _, _ => by obtain ⟨rfl, rfl, rfl⟩ := trodAll_nil h; exact trodAll_mk0
  | t :: ts, _, _, _, ht, h, hlt, hs => by
    obtain ⟨v, vs, d, ds, p, q, rfl, rfl, rfl, h0, h1⟩ := trodAll_cons h
    have h2 := ht t (by simp)
    exact trodAll_cons_mk (WideElems.Trod_stays hl h2.1 h2.2 h0 (fun x hx => hb.same (hlt x (by simp [hx]))) (fun x hx => hs x (by simp [hx])))
      (trodAll_stays hl hb (fun t ht' => ht t (by simp [ht'])) h1 (fun x hx => hlt x (by simp [hx])) (fun x hx => hs x (by simp [hx])))
theorem post_of_below {f : Func} {s : ChangeSpec} {apart fresh handsOn again : Bool} {W W' : World} {args : Array Value} {v : Value} {ds gs : List (DataW H)} {before pa pv : List MemPlace}
    (hW : DataW.Whole enc P f.params.toList s.vars apart W args.toList ds gs before)
    (hres : ∀ (b : Nat) (sp : Nat → Bool) (hd : Bool), DataW.TrodAll enc P W' b sp hd f.resultTypes.toList (v.resultList f.resultTypes.size) (s.fn H (ds ++ gs)).results [])
    (hargs : ∀ sp : Nat → Bool, (∀ p ∈ before, sp p.block = true) → DataW.TrodAll enc P W' 0 sp true f.params.toList args.toList (s.fn H (ds ++ gs)).args pa)
    (hvars : ∀ sp : Nat → Bool, (∀ p ∈ before, sp p.block = true) → DataW.TrodVars enc P W' sp s.vars (s.fn H (ds ++ gs)).vars pv)
    (hps : before = pa ++ pv) (hb : Below W.heap.size W W')
    (hok : ∀ (j : Nat) (t : TypeId) (r : Value), f.resultTypes[j]? = some t → (v.resultList f.resultTypes.size)[j]? = some r → Value.okWide P W' .any 0 t r) :
    s.post enc P f apart fresh handsOn again W args v W' := by
  have hlt : ∀ p ∈ before, p.block < W.heap.size := fun p hp => hW.lt p hp
  have hold : ∀ p ∈ before, (fun b => decide (b < W.heap.size)) p.block = true := fun p hp => by simpa using hlt p hp
  refine ⟨ds, gs, before, [], pa, pv, hW, hres _ _ _, hargs _ hold, hvars _ hold, World.keptBut_mono (fun p hp => ⟨hp, ?_⟩) (hb.frame (· ∈ before)), fun _ => ?_⟩
  · rw [hps, List.mem_append] at hp
    exact Or.inr hp
  · obtain ⟨_, _, _, _, _, hz, hn⟩ := hW
    refine ⟨hok, _, _, ([] ++ pa) ++ pv, ⟨[] ++ pa, pv, trodAll_append (hargs _ (fun _ _ => rfl)) (hres _ _ _), hvars _ (fun _ _ => rfl), rfl, ?_, ?_⟩, ?_⟩
    · intro b off hp
      have hin : MemPlace.cell b off ∈ before := by rw [hps]; simpa using hp
      rw [hb.frozen (hlt _ hin)]
      exact hz b off hin
    · intro ha
      have := hn ha
      rw [hps] at this
      simpa using this
    · intro p hp _
      rw [hps]
      simpa using hp
theorem post_true {f : Func} {s : ChangeSpec} {apart fresh handsOn again : Bool} {W W' : World} {args : Array Value} {ds gs : List (DataW H)} {before : List MemPlace} {t : TypeId}
    (hl : laidOutB P = true) (hvn : s.vars = []) (hr : f.resultTypes = #[t]) (ht : P.underlying t = some .bool)
    (hp : ∀ t ∈ f.params.toList, P.readableRec t = true ∧ t < P.types.size)
    (hW : DataW.Whole enc P f.params.toList s.vars apart W args.toList ds gs before)
    (hfn : s.fn H ds = { results := [.lit (.bool true)], args := ds }) (hb : Ext W W') :
    s.post enc P f apart fresh handsOn again W args (.bool true) W' := by
  have hW' := hW
  obtain ⟨p, q, hA, hV, rfl, _, _⟩ := hW
  rw [hvn] at hV
  obtain ⟨rfl, rfl⟩ := trodVars_none hV
  have hlt : ∀ x ∈ p, x.block < W.heap.size := fun x hx => by simpa using hW'.lt x (by simp [hx])
  refine post_of_below (pa := p) (pv := []) hW' (fun _ _ _ => ?_) (fun sp hs => ?_) (fun _ _ => ?_) rfl hb (ok_one hr rfl (okWide_bool_mk ht _))
  · rw [List.append_nil, hfn, hr]; exact trodAll_mk1 (shut_bool ht true)
  · rw [List.append_nil, hfn]; exact trodAll_stays hl hb hp hA hlt (fun x hx => hs x (by simp [hx]))
  · rw [List.append_nil, hfn, hvn]; rfl
end
theorem laid_out : laidOutB Tryz.prog = true := by kernel_rfl
end Go.Proofs.YtbmjfjgfognimaaGreatDoor
namespace Go.Proofs.YtbmjfjgfognimaaGreatDoor
set_option linter.unusedSimpArgs false
set_option linter.unusedVariables false
theorem TtlF.fits {f : SetD → SetD} (h : TtlF f) (n : List UInt8) (cls : Int) (s : SetD) : fitsB n cls (f s) = fitsB n cls s := by unfold fitsB; rw [h.typ, h.cls, h.name]
theorem TtlF.best {f : SetD → SetD} (h : TtlF f) (l : List SetD) (n : List UInt8) (cls : Int) : ∀ k, bestTo (l.map f) n cls k = (bestTo l n cls k).map fun p => (p.1, f p.2)
  | 0 => rfl
  | k + 1 => by
    unfold bestTo
    rw [List.getElem?_map]
    rcases l[k]? with _ | s
    · exact TtlF.best h l n cls k
    · dsimp only [Option.map_some]
      rw [TtlF.best h l n cls k, h.fits]
      rcases bestTo l n cls k with _ | b
      · dsimp only [Option.map_none]; split <;> rfl
      · dsimp only [Option.map_some]; rw [h.name, h.name]; split <;> rfl
theorem TtlF.soaF {f : SetD → SetD} (h : TtlF f) (l : List SetD) (n : List UInt8) (cls : Int) : soaFind (l.map f) n cls = ⟨(soaFind l n cls).set.map f, (soaFind l n cls).err⟩ := by
  unfold soaFind
  rw [List.length_map, h.best]
  rcases bestTo l n cls l.length with _ | b
  · rfl
  · dsimp only [Option.map_some, soaOf]
    rw [h.data]
    split <;> rfl
theorem verFol_auth {f : SetD → SetD} (h : TtlF f) (code cls : Int) (a b : List RecD) (hab : groupR b = (groupR a).map f) (R : FolR) : (verFol code cls b R).same (verFol code cls a R) := by
  unfold verFol
  by_cases he : R.err = 0
  · rw [if_pos he, if_pos he]
    by_cases hf : R.fin = []
    · rw [if_pos hf, if_pos hf, hab, h.soaF]
      unfold verSoa
      dsimp only
      by_cases hs : (soaFind (groupR a) R.here cls).err = 0
      · rw [if_pos hs, if_pos hs]
        rcases (soaFind (groupR a) R.here cls).set with _ | s
        · exact ⟨rfl, rfl, rfl, rfl⟩
        · exact ⟨rfl, rfl, by dsimp only [Option.map_some]; rw [h.ttl0], rfl⟩
      · rw [if_neg hs, if_neg hs]; exact VerR.same_bad _
    · rw [if_neg hf, if_neg hf]
      exact ⟨rfl, rfl, rfl, rfl⟩
  · rw [if_neg he, if_neg he]; exact VerR.same_bad _
theorem ver_auth {a b : List RecD} (h : a.map strip = b.map strip) (n : List UInt8) (ty cls code : Int) (ans : List RecD) : (verOf n ty cls code ans b).same (verOf n ty cls code ans a) := by
  unfold verOf
  by_cases hc : may n = true ∧ (code = 0 ∨ code = 3)
  · rw [if_pos hc, if_pos hc]
    exact verFol_auth (ttlF_timeS b) code cls a b (group_other h) _
  · rw [if_neg hc, if_neg hc]; exact VerR.same_bad _
theorem VerR.same.trans {R S T : VerR} (h : R.same S) (k : S.same T) : R.same T := ⟨h.1.trans k.1, h.2.1.trans k.2.1, h.2.2.1.trans k.2.2.1, h.2.2.2.trans k.2.2.2⟩
theorem recsT_strip (l : List SetD) (t : Int) : (l.flatMap recsOf).map strip = (recsT l t).map strip := by
  unfold recsT
  rw [List.map_flatMap, List.map_flatMap]
  congr 1
  funext s
  unfold recsOf
  rw [List.map_map, List.map_map]
  rfl
theorem recsT_at {l : List SetD} {t : Int} : ∀ r ∈ recsT l t, r.ttl = t := fun r hr => by
  unfold recsT at hr
  obtain ⟨s, hs, hr⟩ := List.mem_flatMap.1 hr
  obtain ⟨d, hd, rfl⟩ := List.mem_map.1 hr
  rfl
theorem group_at {l : List RecD} {t : Int} (ht : 0 ≤ t ∧ t ≤ 2147483647) (h : ∀ r ∈ l, r.ttl = t) {s : SetD} (hs : s ∈ groupR l) : s.ttl = t := by
  obtain ⟨d, hd⟩ : ∃ d, d ∈ s.data := List.exists_mem_of_ne_nil _ (group_some hs)
  obtain ⟨x, hx, h1, h2, h3⟩ := (group_in hs).1 hd
  have hx' : x ∈ ofK l (keyT s) := mem_ofK.2 ⟨hx, h1, h2⟩
  rw [(group_ttl hs).1]
  have e : ∀ y ∈ ofK l (keyT s), timeT y.ttl = t := fun y hy => by
    rw [h y (mem_ofK.1 hy).1]; unfold timeT; rw [if_neg (by omega)]
  have hle := (minT_le (ofK l (keyT s))).2 x hx'
  rw [e x hx'] at hle
  rcases minT_in (ofK l (keyT s)) with k | ⟨y, hy, k⟩
  · omega
  · rw [e y hy] at k; omega
theorem soaTime_le (s : SetD) (h : 0 ≤ s.ttl ∧ s.ttl ≤ 2147483647) : soaTime s ≤ s.ttl := by
  unfold soaTime
  split
  · split
    · unfold soaTimeD
      have : timeT s.ttl = s.ttl := by unfold timeT; rw [if_neg (by omega)]
      split <;> omega
    · omega
  · omega
theorem ans_back {n : List UInt8} {ty cls code : Int} {ans auth : List RecD} {R : VerR} (hR : R = verOf n ty cls code ans auth) (he : R.err = 0) {t : Int} (ht : 0 ≤ t ∧ t ≤ 2147483647) :
    (verOf n ty cls R.code (recsT R.sets t) (recsT R.soa t)).same R ∧ (verOf n ty cls R.code (recsT R.sets t) (recsT R.soa t)).time ≤ t ∧
    ((endV ty R.sets).isSome = true → (verOf n ty cls R.code (recsT R.sets t) (recsT R.soa t)).time = t) := by
  subst hR
  have hp := ver_parts he
  generalize verOf n ty cls code ans auth = R at *
  have hs : (verOf n ty cls R.code (recsT R.sets t) (recsT R.soa t)).same R :=
    ((ver_ttl (recsT_strip R.sets t) n ty cls R.code (recsT R.soa t)).1.trans (ver_auth (recsT_strip R.soa t) n ty cls R.code (R.sets.flatMap recsOf))).trans hp.back
  have hTe : (verOf n ty cls R.code (recsT R.sets t) (recsT R.soa t)).err = 0 := hs.2.2.2.trans he
  have hq := ver_parts hTe
  have hends := hq.ends
  rw [hs.2.1] at hends
  refine ⟨hs, ?_⟩
  have hfol := hq.fol
  have hi := follow_in (groupR (recsT R.sets t)) n ty cls
  have hin : ∀ s ∈ (followOf n ty cls (groupR (recsT R.sets t))).path ++ (followOf n ty cls (groupR (recsT R.sets t))).fin, s.ttl = t := fun s hs' => by
    refine group_at (l := recsT R.sets t) ht recsT_at ?_
    rcases List.mem_append.1 hs' with h | h
    · exact hi.path s h
    · exact hi.fin s h
  rw [hends]
  clear hq hs hp hends hi
  unfold verOf at hTe ⊢
  by_cases hc : may n = true ∧ (R.code = 0 ∨ R.code = 3)
  · rw [if_pos hc] at hTe ⊢
    generalize followOf n ty cls (groupR (recsT R.sets t)) = F at *
    unfold verFol at hTe ⊢
    rw [if_pos hfol] at hTe ⊢
    by_cases hf : F.fin = []
    · rw [if_pos hf] at hTe ⊢
      unfold verSoa at hTe ⊢
      by_cases hse : (soaFind (groupR (recsT R.soa t)) F.here cls).err = 0
      · rw [if_pos hse] at hTe ⊢
        refine ⟨?_, fun h => by rw [hf] at h; simp at h⟩
        rcases hset : (soaFind (groupR (recsT R.soa t)) F.here cls).set with _ | s
        · exact ht.1
        · have h1 := (leastT_le F.path (soaTime s)).1
          have h2 := group_at ht recsT_at (soa_mem hset).1
          have h3 := soaTime_le s (by omega)
          show leastT F.path (soaTime s) ≤ t
          omega
      · rw [if_neg hse] at hTe; exact absurd hTe hse
    · rw [if_neg hf] at hTe ⊢
      unfold verEnd at hTe ⊢
      by_cases h3 : R.code = 3
      · rw [if_pos h3] at hTe; cases hTe
      · rw [if_neg h3]
        obtain ⟨x, hx⟩ := List.exists_mem_of_ne_nil _ hf
        have hx' : x ∈ F.path ++ F.fin := List.mem_append.2 (.inr hx)
        have h1 := (leastT_le (F.path ++ F.fin) 2147483647).2 x hx'
        have h2 := leastT_ge (F.path ++ F.fin) 2147483647 t ht.2 (fun s hs => by rw [hin s hs]; omega)
        rw [hin x hx'] at h1
        exact ⟨h1, fun _ => by show leastT _ _ = t; omega⟩
  · rw [if_neg hc] at hTe; cases hTe
def dataN30 (l : List SetD) : Nat := (l.map fun s => s.data.length).sum
theorem dataN30_append (l m : List SetD) : dataN30 (l ++ m) = dataN30 l + dataN30 m := by simp [dataN30]
theorem dataN30_modify : ∀ (l : List SetD) (i : Nat) (f : SetD → SetD) (hf : ∀ s, (f s).data.length ≤ s.data.length + 1), dataN30 (l.modify i f) ≤ dataN30 l + 1
  | [], i, f, hf => by simp [dataN30]
  | a :: l, 0, f, hf => by have := hf a; simp [dataN30]; omega
  | a :: l, i + 1, f, hf => by have := dataN30_modify l i f hf; simp [dataN30] at this ⊢; omega
theorem dataN30_add (L : List SetD) (x : RecD) : dataN30 (addR L x) ≤ dataN30 L + 1 := by
  unfold addR
  split
  · split
    · rw [dataN30_append]; simp [dataN30]
    · exact dataN30_modify _ _ _ fun s => by unfold updS; exact putS_len _ _
  · omega
theorem dataN30_to (l : List RecD) : ∀ k, k ≤ l.length → dataN30 (groupTo l k) ≤ k
  | 0, _ => by simp [groupTo, dataN30]
  | k + 1, h => by rw [groupTo_step l k (by omega)]; have := dataN30_to l k (by omega); have := dataN30_add (groupTo l k) l[k]; omega
theorem dataN30_group (l : List RecD) : dataN30 (groupR l) ≤ l.length := by
  have h1 : dataN30 (groupR l) = dataN30 (groupTo l l.length) := by unfold dataN30; exact ((group_perm l).1.map _).sum_nat
  rw [h1]; exact dataN30_to l l.length (Nat.le_refl _)
theorem recsOf_len30 (s : SetD) : (recsOf s).length = s.data.length := by simp [recsOf]
theorem flat_len30 (l : List SetD) : (l.flatMap recsOf).length = dataN30 l := by
  induction l with
  | nil => rfl
  | cons a l ih => simp [dataN30, recsOf_len30] at ih ⊢; (try omega)
theorem in_flat30 {L : List SetD} {s : SetD} (h : s ∈ L) : s.data.length ≤ (L.flatMap recsOf).length := by
  induction L with
  | nil => cases h
  | cons a L ih =>
    rw [List.flatMap_cons, List.length_append]
    rcases List.mem_cons.1 h with rfl | h
    · rw [recsOf_len30]; omega
    · have := ih h; omega
theorem group_lens30 (l : List RecD) : (groupR l).length ≤ l.length ∧ (∀ s ∈ groupR l, s.data.length ≤ l.length) ∧ ((groupR l).flatMap recsOf).length ≤ l.length := by
  have h1 := groupTo_len l l.length (Nat.le_refl _)
  have h2 := (group_perm l).1.length_eq
  have h3 : ((groupR l).flatMap recsOf).length ≤ l.length := by rw [flat_len30]; exact dataN30_group l
  exact ⟨by omega, fun s hs => Nat.le_trans (in_flat30 hs) h3, h3⟩
end Go.Proofs.YtbmjfjgfognimaaGreatDoor
namespace Go.Proofs.YtbmjfjgfognimaaGreatDoor
set_option linter.unusedSimpArgs false
set_option linter.unusedVariables false
open Go.RowKit
set_option maxRecDepth 100000
theorem vote_dec {d n : List UInt8} {ty cls : Int} (hk : (replyOf d n ty cls).kind = 3) :
    ∃ m, decR d = .ok m ∧ (replyOf d n ty cls).ver = verOf n ty cls m.hd.code m.ans m.auth ∧ (verOf n ty cls m.hd.code m.ans m.auth).err = 0 := by
  unfold replyOf at hk ⊢
  rcases hd : decR d with e | m
  · rw [hd] at hk; cases hk
  · rw [hd] at hk
    dsimp only at hk ⊢
    refine ⟨m, rfl, ?_⟩
    unfold replyM at hk ⊢
    split at hk
    · rename_i h1
      rw [if_pos h1]
      split at hk
      · cases hk
      · rename_i h2
        rw [if_neg h2]
        split at hk
        · rename_i h3
          rw [if_pos h3]; exact ⟨rfl, h3⟩
        · cases hk
    · cases hk
theorem ver_in {n : List UInt8} {ty cls code : Int} {ans auth : List RecD} (he : (verOf n ty cls code ans auth).err = 0) :
    (∀ s ∈ (verOf n ty cls code ans auth).sets, ∃ u ∈ groupR ans, s = ttl0 u) ∧ (∀ s ∈ (verOf n ty cls code ans auth).soa, ∃ u ∈ groupR auth, s = ttl0 u) ∧ (verOf n ty cls code ans auth).sets.length ≤ 9 ∧ (verOf n ty cls code ans auth).soa.length ≤ 1 ∧
    (code = 0 ∨ code = 3) ∧ (verOf n ty cls code ans auth).code = code := by
  have hp := ver_parts he
  have hi := follow_in (groupR ans) n ty cls
  have hc : may n = true ∧ (code = 0 ∨ code = 3) := by
    unfold verOf at he
    split at he
    · assumption
    · cases he
  refine ⟨fun s hs => ?_, fun s hs => ?_, ?_, hp.one, hc.2, hp.code⟩
  · rw [hp.sets] at hs
    obtain ⟨u, hu, rfl⟩ := List.mem_map.1 hs
    rcases List.mem_append.1 hu with h | h
    · exact ⟨u, hi.path u h, rfl⟩
    · exact ⟨u, hi.fin u h, rfl⟩
  · unfold verOf at hs
    rw [if_pos hc] at hs
    unfold verFol at hs
    split at hs
    · split at hs
      · unfold verSoa at hs
        split at hs
        · rcases hset : (soaFind (groupR auth) (followOf n ty cls (groupR ans)).here cls).set with _ | u
          · rw [hset] at hs; cases hs
          · rw [hset] at hs
            dsimp only at hs
            rw [List.mem_singleton] at hs
            exact ⟨u, (soa_mem hset).1, hs⟩
        · cases hs
      · unfold verEnd at hs
        split at hs
        · cases hs
        · cases hs
    · cases hs
  · rw [hp.sets, List.length_map, List.length_append]
    have h1 := hi.len; have h2 := hi.one
    omega
theorem group_dlen {l : List RecD} {s : SetD} (hs : s ∈ groupR l) {N : Nat} (h : ∀ r ∈ l, r.name.length ≤ N ∧ r.data.length ≤ N) : ∀ d ∈ s.data, d.length ≤ N := fun d hd => by
  obtain ⟨x, h1, h2, h3, rfl⟩ := (group_in hs).1 hd
  exact Nat.le_trans (rfold_len _ _) (h x h1).2
structure BackOk (L : List SetD) : Prop where
  ok7 : SetsOk7 L
  few : L.length ≤ 9
  data : ∀ s ∈ L, s.data.length ≤ 300 ∧ (∀ d ∈ s.data, d.length ≤ 300000 ∧ rmay s.typ d = true) ∧ may s.name = true
theorem back_ok {l : List RecD} (hw : ∀ r ∈ l, r.wf) (hl : l.length ≤ 300) (hd : ∀ r ∈ l, r.name.length ≤ 300000 ∧ r.data.length ≤ 300000) {L : List SetD} (h9 : L.length ≤ 9) (hL : ∀ s ∈ L, ∃ u ∈ groupR l, s = ttl0 u) : BackOk L := by
  have hb : ∀ s ∈ L, s.data.length ≤ 300 ∧ (∀ d ∈ s.data, d.length ≤ 300000 ∧ rmay s.typ d = true) ∧ may s.name = true := fun s hs => by
    obtain ⟨u, hu, rfl⟩ := hL s hs
    have h1 := (group_lens30 l).2.1 u hu
    exact ⟨Nat.le_trans h1 hl, fun d hd' => ⟨group_dlen hu hd d hd', (group_folded hu hd').1⟩, (group_name hu).1⟩
  refine ⟨⟨by omega, fun s hs => ?_, fun s hs => ?_⟩, h9, hb⟩
  · have h := hb s hs
    exact ⟨Nat.le_trans (may_le h.2.2) (by omega), by omega, fun d hd' => by have := (h.2.1 d hd').1; omega⟩
  · obtain ⟨u, hu, rfl⟩ := hL s hs
    exact (group_wf hw hu).1
theorem backT_len {L : List SetD} (h : BackOk L) (t : Int) : (recsT L t).length ≤ 2700 := by
  have : ∀ M : List SetD, (∀ s ∈ M, s.data.length ≤ 300) → (recsT M t).length ≤ M.length * 300 := fun M => by
    induction M with
    | nil => intro _; simp [recsT]
    | cons a M ih =>
      intro hM
      have h1 := ih fun s hs => hM s (List.mem_cons_of_mem _ hs)
      have h2 := hM a List.mem_cons_self
      unfold recsT at h1 ⊢
      rw [List.flatMap_cons, List.length_append, List.length_map, List.length_cons, Nat.succ_mul]
      omega
  have h1 := this L fun s hs => (h.data s hs).1
  have h2 := h.few
  have h3 : L.length * 300 ≤ 9 * 300 := Nat.mul_le_mul_right _ h2
  omega
theorem recsT_in {L : List SetD} {t : Int} {r : RecD} (hr : r ∈ recsT L t) : ∃ s ∈ L, ∃ d ∈ s.data, r = ⟨s.name, s.typ, s.cls, t, d⟩ := by
  unfold recsT at hr
  obtain ⟨s, hs, hr⟩ := List.mem_flatMap.1 hr
  obtain ⟨d, hd, rfl⟩ := List.mem_map.1 hr
  exact ⟨s, hs, d, hd, rfl⟩
theorem recsT_bd {L : List SetD} (h : BackOk L) (t : Int) : RecsBd (recsT L t) := ⟨by have := backT_len h t; omega, fun r hr => by
  obtain ⟨s, hs, d, hd, rfl⟩ := recsT_in hr
  have h1 := h.data s hs
  exact ⟨Nat.le_trans (may_le h1.2.2) (by omega), (h1.2.1 d hd).1⟩⟩
theorem recsT_all {L : List SetD} (h : BackOk L) (t : Int) : (recsT L t).all (fun r => may r.name && rmay r.typ r.data) = true := by
  rw [List.all_eq_true]
  intro r hr
  obtain ⟨s, hs, d, hd, rfl⟩ := recsT_in hr
  have h1 := h.data s hs
  dsimp only
  rw [h1.2.2, (h1.2.1 d hd).2]; rfl
theorem read_back {rp d : List UInt8} (hl : rp.length ≤ 3000) {c : CameD} (hc : LookOk d c) {R : VerR} (hR : R = (replyOf rp c.q.name c.q.typ c.q.cls).ver) (hk : (replyOf rp c.q.name c.q.typ c.q.cls).kind = 3) :
    BackOk R.sets ∧ BackOk R.soa ∧ R.err = 0 ∧ (R.code = 0 ∨ R.code = 3) ∧
    ∀ t size : Int, c.kind = 3 → 0 ≤ t → t ≤ 2147483647 → 512 ≤ size → size ≤ 4096 →
      ∃ m : MsgD, decR (ansOf c R.code R.sets R.soa t size) = .ok m ∧ (ansOf c R.code R.sets R.soa t size).length ≤ 65535 ∧ m.qs = [c.q] ∧ m.hd.qr = true ∧ m.hd.code = R.code ∧ m.extra = [] ∧
        ((m.hd.tc = true ∧ m.ans = [] ∧ m.auth = []) ∨
         (m.hd.tc = false ∧ m.ans = recsT R.sets t ∧ m.auth = recsT R.soa t ∧ (verOf c.q.name c.q.typ c.q.cls R.code (recsT R.sets t) (recsT R.soa t)).same R ∧ (verOf c.q.name c.q.typ c.q.cls R.code (recsT R.sets t) (recsT R.soa t)).time ≤ t ∧
           ((endV c.q.typ R.sets).isSome = true → (verOf c.q.name c.q.typ c.q.cls R.code (recsT R.sets t) (recsT R.soa t)).time = t))) := by
  obtain ⟨m0, hd0, hv, he⟩ := vote_dec hk
  rw [← hR] at hv
  have hin := ver_in he
  rw [← hv] at hin he
  have hfew := dec_few hd0
  have hsh := dec_short hd0
  have hwf := (decR_ok hd0).1
  have hb1 : BackOk R.sets := back_ok hwf.ans (by omega) hsh.1 hin.2.2.1 hin.1
  have hb2 : BackOk R.soa := back_ok hwf.auth (by omega) hsh.2 (by have := hin.2.2.2.1; omega) hin.2.1
  have hcode : R.code = 0 ∨ R.code = 3 := by rw [hin.2.2.2.2.2]; exact hin.2.2.2.2.1
  refine ⟨hb1, hb2, he, hcode, fun t size hk3 ht0 ht1 hz0 hz1 => ?_⟩
  have hM : ansMay c R.code R.sets R.soa t size := ⟨hk3, ⟨hz0, hz1⟩, hcode, ht1⟩
  have hmay : mayM (fullOf c R.code R.sets R.soa t size) = true := by
    rw [full_may hc R.code t size hk3 (by have := backT_len hb1 t; omega) (by have := backT_len hb2 t; omega), recsT_all hb1, recsT_all hb2]; rfl
  have hq := hc.asks hk3
  have hbk := ans_back hv he (t := t) ⟨ht0, ht1⟩
  have hcd : R.code % 4096 % 16 = R.code := by rcases hcode with h | h <;> rw [h] <;> rfl
  have hne : ansOf c R.code R.sets R.soa t size ≠ [] := by
    unfold ansOf
    rw [if_pos ⟨hM, hmay⟩]
    split
    · rename_i hr; exact enc_ne hr.1
    · exact enc_ne (m := cutOf c R.code size) (blank_enc R.code size (c := c) (by have := hq.2.2; omega) hc.q true).1
  obtain ⟨_, hor⟩ := ans_read hc hb1.ok7.wf hb2.ok7.wf ⟨ht0, by omega⟩ hne
  rcases hor with ⟨hr, e, hdd, hlen⟩ | ⟨hr, e, hdd, hlen⟩
  · refine ⟨_, hdd, ?_, ?_, rfl, hcd, rfl, .inr ⟨rfl, rfl, rfl, hbk.1, hbk.2.1, hbk.2.2⟩⟩
    · have h1 : roomOf c size ≤ 65535 := by unfold roomOf; split <;> omega
      omega
    · show (if c.hasQ = true then [c.q] else []) = [c.q]
      rw [if_pos hq.1]
  · refine ⟨_, hdd, by omega, ?_, rfl, hcd, rfl, .inl ⟨rfl, rfl, rfl⟩⟩
    show (if c.hasQ = true then [c.q] else []) = [c.q]
    rw [if_pos hq.1]
theorem load_rowB {P : Program} {ops : Array Oper} {Q : Exit → Act → World → Prop} {rest : List Oper} {o : Oper} {a : Act} {w : World} (hwn : Region.wanted o (yielded ops a.tmps) = true) (ty : TypeId) (x : Operand) (ho : o.op = .load ty x)
    (g : Nat) (hx : a.eval x = .pointer (some ⟨g, 0, none⟩)) (t : TypeId) (cs : Array Value) (fr : Nat × Nat) (d : TypeDesc) (hg : w.heap[g]? = some (.cells cs t fr))
    (hu : P.underlying ty = some d) (hd : (match d with | .struct _ | .array _ _ => true | _ => false) = true) (hi : (P.info? ty).map (·.size) = some cs.size)
    (h : wpList P ops Q rest (a.put o.dst (.agg cs)) w) : wpList P ops Q (o :: rest) a w :=
  wpList_step fun K hK => by
    rw [if_pos hwn]
    exact wp_load_row ty x ho g hx t cs fr d hg hu hd hi (hK _ _ h)
set_option maxHeartbeats 8000000 in
theorem law28_read (d rp : List UInt8) (ttl n : Int) (a b : Addr) (w : World) (hg : Laid w) (hb : BitsAt w) (he : ErrsAt w a b) (hdl : d.length ≤ maxLen) (hrl : rp.length ≤ maxLen) (ht : 0 ≤ ttl ∧ ttl ≤ 4294967295) (hn : 0 ≤ n ∧ n ≤ 65535) :
    Calls Tryz.prog 14 #[S d, S rp, .int .u32 ttl, .int .u16 n] w fun e w' => e = .returned (.bool true) ∧ Ext w w' := by
  have HAw := Lib.hid (fun V (hV : Ext w V) => law28_awake V (hg.ext hV) (hb.ext hV))
  unfold AwPost at HAw
  unfold maxLen at hdl hrl
  have hwz : wrap64 n = n := by unfold wrap64; omega
  have HWz := Lib.hid hwz
  clear hwz
  go_enter Tryz.func14, Tryz.ntmps14
  go_upto_region 1 with fail
  by_cases hl1 : 3000 < d.length
  · have hli : (3000 : Int) < (d.length : Int) := by omega
    have hli2 : decide ((3000 : Int) < (d.length : Int)) = true := decide_eq_true hli
    go_wp2_with fail
    refine (HAw.out _ (Ext.refl _)).mono ?_
    rintro e w1 ⟨rfl, hE1⟩
    go_wp2_with fail
    go_ret
    exact ⟨rfl, hE1⟩
  have hli : ¬ (3000 : Int) < (d.length : Int) := by omega
  have hli2 : decide ((3000 : Int) < (d.length : Int)) = false := decide_eq_false hli
  by_cases hl2 : 3000 < rp.length
  · have hlj : (3000 : Int) < (rp.length : Int) := by omega
    have hlj2 : decide ((3000 : Int) < (rp.length : Int)) = true := decide_eq_true hlj
    go_wp2_with fail
    refine (HAw.out _ (Ext.refl _)).mono ?_
    rintro e w1 ⟨rfl, hE1⟩
    go_wp2_with fail
    go_ret
    exact ⟨rfl, hE1⟩
  have hlj : ¬ (3000 : Int) < (rp.length : Int) := by omega
  have hlj2 : decide ((3000 : Int) < (rp.length : Int)) = false := decide_eq_false hlj
  have HL1 := Lib.hid hl1
  have HL2 := Lib.hid hl2
  clear hl1 hl2
  go_wp2_with fail
  refine (HAw.out _ (Ext.refl _)).mono ?_
  rintro e w2 ⟨rfl, hw2⟩
  have HLk := Lib.hid (int_look d w2 (hg.ext hw2) (hb.ext hw2) (by have := HL1.out; omega))
  have HLo := Lib.hid (look_ok d)
  have hcn : (lookOf d).q.name.length ≤ 1048576 := by
    rcases hq : (lookOf d).hasQ with _ | _
    · rw [look_noq hq]; simp [qNone]
    · exact Nat.le_trans (may_le (HLo.out.q hq)) (by omega)
  obtain ⟨c, hc⟩ : ∃ c, c = lookOf d := ⟨_, rfl⟩
  rw [← hc] at HLk HLo hcn
  clear hc hli hli2 hlj hlj2
  have HCn := Lib.hid hcn
  clear hcn
  go_wp2_with fail
  refine HLk.out.mono ?_
  rintro e w3 ⟨rfl, hE3⟩
  dsimp only
  iterate 1 go_step
  obtain ⟨b9, hb9⟩ : ∃ b9, b9 = w3.heap.size := ⟨_, rfl⟩
  have hz9 : (w3.alloc (.cells cameZ 34)).heap[b9]? = some (.cells cameZ 34) := by rw [hb9]; exact heap_alloc_new _ _
  refine Go.Great.wpList_allocTo rfl (some 9) rfl (.pointer (some ⟨w3.heap.size, 0, none⟩)) (.cells cameZ 34) (by kernel_rfl) ?_
  rw [← hb9]
  refine Go.wpList_store_rowTo rfl 34 (.tmp 9) (.tmp 33) rfl rfl b9 (caRow c.kind c.code c.hd c.hasQ c.q c.hasE c.size) rfl rfl 34 _ hz9 (by kernel_rfl) rfl (by kernel_rfl) ?_
  rw [alloc_setRow7 w3 cameZ (caRow c.kind c.code c.hd c.hasQ c.q c.hasE c.size) 34 b9 hb9]
  refine wpList_nil ?_
  have r9 : (w3.alloc (.cells (caRow c.kind c.code c.hd c.hasQ c.q c.hasE c.size) 34)).heap[b9]? = some (.cells (caRow c.kind c.code c.hd c.hasQ c.q c.hasE c.size) 34) := by rw [hb9]; exact heap_alloc_new _ _
  have hw4 : Ext w (w3.alloc (.cells (caRow c.kind c.code c.hd c.hasQ c.q c.hasE c.size) 34)) := (hw2.trans hE3).alloc _
  obtain ⟨X4, hX⟩ : ∃ X4, X4 = w3.alloc (.cells (caRow c.kind c.code c.hd c.hasQ c.q c.hasE c.size) 34) := ⟨_, rfl⟩
  rw [← hX] at r9 hw4 ⊢
  clear hX hz9 hb9 hE3 HLk hw2
  have q0 : X4.cell? ⟨b9, 14, none⟩ = some (S c.q.name) := box_cell r9 rfl
  have q1 : X4.cell? ⟨b9, 15, none⟩ = some (.int .u16 c.q.typ) := box_cell r9 rfl
  have q2 : X4.cell? ⟨b9, 16, none⟩ = some (.int .u16 c.q.cls) := box_cell r9 rfl
  have HLr := Lib.hid (heard_look rp c.q.name c.q.typ c.q.cls a b X4 (hg.ext hw4) (hb.ext hw4) (he.ext hw4) (by have := HL2.out; omega) HCn.out)
  have HBk := Lib.hid (fun hk => read_back (by have := HL2.out; omega) HLo.out (R := (replyOf rp c.q.name c.q.typ c.q.cls).ver) rfl hk)
  unfold LookH at HLr
  generalize replyOf rp c.q.name c.q.typ c.q.cls = RP at *
  obtain ⟨xk, R⟩ := RP
  dsimp only at HLr HBk
  go_upto_region 5 with (first | (go_at_call 43; refine HLr.out.mono ?_; rintro e w5 ⟨vs, vo, rfl, hs, ho, _, hE5⟩; have Hs := Lib.hid hs; have Ho := Lib.hid ho; obtain ⟨ps, pA, pc, hps, rfl, _, _⟩ := hs; obtain ⟨po, tA, tc, hpo, rfl, _, _⟩ := ho) | fail)
  (try dsimp only at Hs Ho ⊢)
  obtain ⟨X5, hX5⟩ : ∃ X5, X5 = w5.alloc (.cells #[.int .u8 xk, .int .u8 R.code, .slice pA ps.length pc, .slice tA po.length tc, .int .u32 R.time] 91) := ⟨_, rfl⟩
  obtain ⟨b10, hb10⟩ : ∃ b10, b10 = w5.heap.size := ⟨_, rfl⟩
  have r10 : X5.heap[b10]? = some (.cells #[.int .u8 xk, .int .u8 R.code, .slice pA ps.length pc, .slice tA po.length tc, .int .u32 R.time] 91) := by rw [hX5, hb10]; exact heap_alloc_new _ _
  have hE55 : Ext w5 X5 := by rw [hX5]; exact (Ext.refl _).alloc _
  rw [← hX5, ← hb10]
  have HSs := Lib.hid ((Hs.out.sets.lower (Nat.zero_le _)).ext hE55)
  have HSo := Lib.hid ((Ho.out.sets.lower (Nat.zero_le _)).ext hE55)
  have hps' : ps.length = R.sets.length := by rw [← hps, List.length_map]
  have hpo' : po.length = R.soa.length := by rw [← hpo, List.length_map]
  have HPs := Lib.hid hps'
  have HPo := Lib.hid hpo'
  clear hX5 hb10 hps hpo hps' hpo' q0 q1 q2 Hs Ho
  have hw5 : Ext w X5 := (hw4.trans hE5).trans hE55
  have r95 := ((hE5.trans hE55).block _ (Array.getElem?_eq_some_iff.1 r9).1).trans r9
  have x0 : X5.cell? ⟨b10, 0, none⟩ = some (.int .u8 xk) := box_cell r10 rfl
  have x1 : X5.cell? ⟨b10, 1, none⟩ = some (.int .u8 R.code) := box_cell r10 rfl
  have x2 : X5.cell? ⟨b10, 2, none⟩ = some (.slice pA ps.length pc) := box_cell r10 rfl
  have x3 : X5.cell? ⟨b10, 3, none⟩ = some (.slice tA po.length tc) := box_cell r10 rfl
  have y0 : X5.cell? ⟨b9, 0, none⟩ = some (.int .u8 c.kind) := box_cell r95 rfl
  by_cases hk3 : c.kind = 3
  rotate_left
  · have g1 : (c.kind != 3) = true := by simpa using hk3
    clear hk3
    go_wp2_with fail
    go_ret
    exact ⟨rfl, hw5⟩
  have g1 : (c.kind != 3) = false := by rw [hk3]; rfl
  by_cases hx3 : xk = 3
  rotate_left
  · have g2 : (xk != 3) = true := by simpa using hx3
    clear hx3 hk3
    go_wp2_with fail
    go_ret
    exact ⟨rfl, hw5⟩
  have g2 : (xk != 3) = false := by rw [hx3]; rfl
  have HK3 := Lib.hid hk3
  obtain ⟨hb1, hb2, herr, hcode, hread⟩ := HBk.out hx3
  have HB1 := Lib.hid hb1
  have HB2 := Lib.hid hb2
  have HCode := Lib.hid hcode
  have HRead := Lib.hid hread
  have HErr := Lib.hid herr
  clear hb1 hb2 herr hcode hread hk3 HBk
  have HX3 := Lib.hid hx3
  clear hx3
  obtain ⟨s, hs⟩ : ∃ s, s = ansOf c R.code R.sets R.soa ttl n := ⟨_, rfl⟩
  have HOf := Lib.hid (ans_of c R.code (.slice pA ps.length pc) (.slice tA po.length tc) R.sets R.soa ttl n X5 (hg.ext hw5) (hb.ext hw5) HLo.out.wf HCn.out HSs.out HSo.out HB1.out.ok7 HB2.out.ok7 ht)
  unfold StrPost at HOf
  rw [← hs] at HOf
  have HSa := Lib.hid hs
  clear hs
  have hwz := HWz.out
  go_wp2_with (first | (refine load_rowB (by rfl) 34 (.tmp 9) rfl b9 rfl 34 _ _ _ r95 Tryz.underlying34 rfl (by kernel_rfl) ?_) | fail)
  refine HOf.out.mono ?_
  rintro e w7 ⟨rfl, hE7⟩
  have hw7 : Ext w w7 := hw5.trans hE7
  have r97 := (hE7.block _ (Array.getElem?_eq_some_iff.1 r95).1).trans r95
  have r107 := (hE7.block _ (Array.getElem?_eq_some_iff.1 r10).1).trans r10
  clear x0 x1 x2 x3 y0 g1 g2 hwz
  by_cases hbd : ttl ≤ 2147483647 ∧ 512 ≤ n ∧ n ≤ 4096
  rotate_left
  · have hse : s = [] := by
      rw [HSa.out]; unfold ansOf
      rw [if_neg (fun h => hbd ⟨h.1.2.2.2, h.1.2.1.1, h.1.2.1.2⟩)]
    subst hse
    by_cases h1 : 2147483647 < ttl
    · go_wp2_with fail
      go_ret
      exact ⟨rfl, hw7⟩
    have h1d : decide (2147483647 < ttl) = false := decide_eq_false h1
    by_cases h2 : n < 512
    · have h2d : decide (n < 512) = true := decide_eq_true h2
      go_wp2_with fail
      go_ret
      exact ⟨rfl, hw7⟩
    have h2d : decide (n < 512) = false := decide_eq_false h2
    have h3 : 4096 < n := by omega
    have h3d : decide (4096 < n) = true := decide_eq_true h3
    go_wp2_with fail
    go_ret
    exact ⟨rfl, hw7⟩
  obtain ⟨hb1, hb2, hb3⟩ := hbd
  have h1 : ¬ 2147483647 < ttl := by omega
  have h2 : ¬ n < 512 := by omega
  have h3 : ¬ 4096 < n := by omega
  have h1d : decide (2147483647 < ttl) = false := decide_eq_false h1
  have h2d : decide (n < 512) = false := decide_eq_false h2
  have h3d : decide (4096 < n) = false := decide_eq_false h3
  obtain ⟨m, hmd, hml, hmq, hmr, hmc, hmx, hmt⟩ := HRead.out ttl n HK3.out ht.1 hb1 hb2 hb3
  rw [← HSa.out] at hmd hml
  have HMd := Lib.hid hmd
  have HMq := Lib.hid hmq
  have HMr := Lib.hid hmr
  have HMc := Lib.hid hmc
  have HMx := Lib.hid hmx
  have HMt := Lib.hid hmt
  have HDec := Lib.hid (wire_decode s w7 (hg.ext hw7) (hb.ext hw7) (by omega))
  clear hmd hml hmq hmr hmc hmx hmt hb1 hb2 hb3
  go_wp2_with fail
  refine HDec.out.mono ?_
  rintro e Y ⟨⟨kk, hk0, hx, rfl⟩ | ⟨m', q', a', u', x', o', hm, rfl, hMO, hBd⟩, hEd⟩
  · exact absurd (HMd.out.symm.trans hx) (by simp)
  obtain rfl : m = m' := by have := HMd.out.symm.trans hm; injection this
  have HWf := Lib.hid (decR_ok hm).1
  clear hm h1 h2 h3 h1d h2d h3d
  have HMO := Lib.hid hMO
  obtain ⟨⟨qA, qc, rfl, hqo⟩, ⟨aA, ac, rfl, -⟩, ⟨uA, uc, rfl, -⟩, ⟨xA, xc, rfl, -⟩, ⟨oA, oc, rfl, -⟩⟩ := hMO
  have HQo := Lib.hid hqo
  clear hqo
  have hY := hw7.trans hEd
  dsimp only
  iterate 10 go_step
  obtain ⟨b12, hb12⟩ : ∃ b12, b12 = Y.heap.size := ⟨_, rfl⟩
  have hz4 : (Y.alloc (.cells msgZ 45)).heap[b12]? = some (.cells msgZ 45) := by rw [hb12]; exact heap_alloc_new _ _
  refine Go.Great.wpList_allocTo rfl (some 12) rfl (.pointer (some ⟨Y.heap.size, 0, none⟩)) (.cells msgZ 45) (by kernel_rfl) ?_
  rw [← hb12]
  refine Go.wpList_store_rowTo rfl 45 (.tmp 12) (.tmp 68) rfl rfl b12 #[.int .u16 m.hd.id, .bool m.hd.qr, .int .u8 m.hd.op, .bool m.hd.aa, .bool m.hd.tc, .bool m.hd.rd, .bool m.hd.ra, .bool m.hd.z, .bool m.hd.ad, .bool m.hd.cd, .int .u8 m.hd.code, .slice qA m.qs.length qc, .slice aA m.ans.length ac, .slice uA m.auth.length uc, .slice xA m.extra.length xc, .bool m.he, .int .u16 m.ed.size, .int .u8 m.ed.ext, .int .u8 m.ed.ver, .int .u16 m.ed.flags, .slice oA m.ed.opts.length oc] rfl rfl 45 _ hz4 (by kernel_rfl) rfl (by kernel_rfl) ?_
  rw [alloc_setRow7 Y msgZ #[.int .u16 m.hd.id, .bool m.hd.qr, .int .u8 m.hd.op, .bool m.hd.aa, .bool m.hd.tc, .bool m.hd.rd, .bool m.hd.ra, .bool m.hd.z, .bool m.hd.ad, .bool m.hd.cd, .int .u8 m.hd.code, .slice qA m.qs.length qc, .slice aA m.ans.length ac, .slice uA m.auth.length uc, .slice xA m.extra.length xc, .bool m.he, .int .u16 m.ed.size, .int .u8 m.ed.ext, .int .u8 m.ed.ver, .int .u16 m.ed.flags, .slice oA m.ed.opts.length oc] 45 b12 hb12]
  iterate 3 go_step
  refine wpList_nil ?_
  (try rw [← hb12])
  have r12 : (Y.alloc (.cells #[.int .u16 m.hd.id, .bool m.hd.qr, .int .u8 m.hd.op, .bool m.hd.aa, .bool m.hd.tc, .bool m.hd.rd, .bool m.hd.ra, .bool m.hd.z, .bool m.hd.ad, .bool m.hd.cd, .int .u8 m.hd.code, .slice qA m.qs.length qc, .slice aA m.ans.length ac, .slice uA m.auth.length uc, .slice xA m.extra.length xc, .bool m.he, .int .u16 m.ed.size, .int .u8 m.ed.ext, .int .u8 m.ed.ver, .int .u16 m.ed.flags, .slice oA m.ed.opts.length oc] 45)).heap[b12]? = some (.cells #[.int .u16 m.hd.id, .bool m.hd.qr, .int .u8 m.hd.op, .bool m.hd.aa, .bool m.hd.tc, .bool m.hd.rd, .bool m.hd.ra, .bool m.hd.z, .bool m.hd.ad, .bool m.hd.cd, .int .u8 m.hd.code, .slice qA m.qs.length qc, .slice aA m.ans.length ac, .slice uA m.auth.length uc, .slice xA m.extra.length xc, .bool m.he, .int .u16 m.ed.size, .int .u8 m.ed.ext, .int .u8 m.ed.ver, .int .u16 m.ed.flags, .slice oA m.ed.opts.length oc] 45) := by rw [hb12]; exact heap_alloc_new _ _
  have hYX : Ext Y (Y.alloc (.cells #[.int .u16 m.hd.id, .bool m.hd.qr, .int .u8 m.hd.op, .bool m.hd.aa, .bool m.hd.tc, .bool m.hd.rd, .bool m.hd.ra, .bool m.hd.z, .bool m.hd.ad, .bool m.hd.cd, .int .u8 m.hd.code, .slice qA m.qs.length qc, .slice aA m.ans.length ac, .slice uA m.auth.length uc, .slice xA m.extra.length xc, .bool m.he, .int .u16 m.ed.size, .int .u8 m.ed.ext, .int .u8 m.ed.ver, .int .u16 m.ed.flags, .slice oA m.ed.opts.length oc] 45)) := (Ext.refl _).alloc _
  obtain ⟨X12, hX⟩ : ∃ X12, X12 = Y.alloc (.cells #[.int .u16 m.hd.id, .bool m.hd.qr, .int .u8 m.hd.op, .bool m.hd.aa, .bool m.hd.tc, .bool m.hd.rd, .bool m.hd.ra, .bool m.hd.z, .bool m.hd.ad, .bool m.hd.cd, .int .u8 m.hd.code, .slice qA m.qs.length qc, .slice aA m.ans.length ac, .slice uA m.auth.length uc, .slice xA m.extra.length xc, .bool m.he, .int .u16 m.ed.size, .int .u8 m.ed.ext, .int .u8 m.ed.ver, .int .u16 m.ed.flags, .slice oA m.ed.opts.length oc] 45) := ⟨_, rfl⟩
  rw [← hX] at r12 hYX ⊢
  clear hX hz4 hb12
  have hX12 : Ext w X12 := hY.trans hYX
  have h712 : Ext w7 X12 := hEd.trans hYX
  have r912 := (h712.block _ (Array.getElem?_eq_some_iff.1 r97).1).trans r97
  have r1012 := (h712.block _ (Array.getElem?_eq_some_iff.1 r107).1).trans r107
  have hql : m.qs.length = 1 := by rw [HMq.out]; rfl
  have HQl := Lib.hid hql
  have hrd5 := (HQo.out.rd.lower (Nat.zero_le _)).ext hYX
  obtain ⟨qb, qo, rfl, _, hbz, hbc⟩ := hrd5.2 (by omega)
  obtain ⟨u0, u1, u2⟩ := qus_cells hbc 0 c.q (by rw [HMq.out]; rfl)
  rw [Nat.zero_mul, Nat.add_zero] at u0 u1 u2
  have c11 : X12.cell? ⟨b12, 11, none⟩ = some (.slice (some ⟨qb, qo, none⟩) 1 qc) := by rw [← hql]; exact box_cell r12 rfl
  have c1 : X12.cell? ⟨b12, 1, none⟩ = some (.bool true) := by rw [← HMr.out]; exact box_cell r12 rfl
  have c10 : X12.cell? ⟨b12, 10, none⟩ = some (.int .u8 R.code) := by rw [← HMc.out]; exact box_cell r12 rfl
  have p14 : X12.cell? ⟨b9, 14, none⟩ = some (S c.q.name) := box_cell r912 rfl
  have p15 : X12.cell? ⟨b9, 15, none⟩ = some (.int .u16 c.q.typ) := box_cell r912 rfl
  have p16 : X12.cell? ⟨b9, 16, none⟩ = some (.int .u16 c.q.cls) := box_cell r912 rfl
  have x1 : X12.cell? ⟨b10, 1, none⟩ = some (.int .u8 R.code) := box_cell r1012 rfl
  have HS11 := Lib.hid (show ∀ V, Ext X12 V → V.cell? ⟨b12, 11, none⟩ = some (.slice (some ⟨qb, qo, none⟩) 1 qc) ∧ V.cell? ⟨b12, 1, none⟩ = some (.bool true) ∧ V.cell? ⟨b12, 10, none⟩ = some (.int .u8 R.code) ∧ (V.cell? ⟨qb, qo, none⟩ = some (S c.q.name) ∧ V.cell? ⟨qb, qo + 1, none⟩ = some (.int .u16 c.q.typ) ∧ V.cell? ⟨qb, qo + 2, none⟩ = some (.int .u16 c.q.cls)) ∧ (V.cell? ⟨b9, 14, none⟩ = some (S c.q.name) ∧ V.cell? ⟨b9, 15, none⟩ = some (.int .u16 c.q.typ) ∧ V.cell? ⟨b9, 16, none⟩ = some (.int .u16 c.q.cls)) ∧ V.cell? ⟨b10, 1, none⟩ = some (.int .u8 R.code) from fun V hV => ⟨(hV.cell (cell_lt c11)).trans c11, (hV.cell (cell_lt c1)).trans c1, (hV.cell (cell_lt c10)).trans c10, ⟨(hV.cell (cell_lt u0)).trans u0, (hV.cell (cell_lt u1)).trans u1, (hV.cell (cell_lt u2)).trans u2⟩, ⟨(hV.cell (cell_lt p14)).trans p14, (hV.cell (cell_lt p15)).trans p15, (hV.cell (cell_lt p16)).trans p16⟩, (hV.cell (cell_lt x1)).trans x1⟩)
  clear c11 c1 c10 u0 u1 u2 p14 p15 p16 x1 hbc hbz hrd5 hql
  go_upto_region 11 with fail
  go_cut [101] (fun s101 wx => s101 = .bool false ∧ Ext X12 wx)
  case first =>
    refine wp_region_noPanic ?_
    refine wp_region_tree (S := (fun V => V.cell? ⟨b12, 11, none⟩ = some (.slice (some ⟨qb, qo, none⟩) 1 qc) ∧ V.cell? ⟨b12, 1, none⟩ = some (.bool true) ∧ V.cell? ⟨b12, 10, none⟩ = some (.int .u8 R.code) ∧ (V.cell? ⟨qb, qo, none⟩ = some (S c.q.name) ∧ V.cell? ⟨qb, qo + 1, none⟩ = some (.int .u16 c.q.typ) ∧ V.cell? ⟨qb, qo + 2, none⟩ = some (.int .u16 c.q.cls)) ∧ (V.cell? ⟨b9, 14, none⟩ = some (S c.q.name) ∧ V.cell? ⟨b9, 15, none⟩ = some (.int .u16 c.q.typ) ∧ V.cell? ⟨b9, 16, none⟩ = some (.int .u16 c.q.cls)) ∧ V.cell? ⟨b10, 1, none⟩ = some (.int .u8 R.code))) (.take 0 (.take 1 (.take 2 (.take 3 (.take 4 (.take 5 (.take 6 (.take 7 (.take 8 (.take 9 (.take 10 (.take 11 (.take 12 (.take 13 (.take 14 (.take 15 (.take 16 (.take 17 (.take 18 (.take 19 (.take 20 (.take 21 (.take 22 (.take 23 (.take 24 (.take 25 (.take 26 (.take 27 (.take 28 (.take 29 (.take 30 (.take 31 (.done))))))))))))))))))))))))))))))))) (by kernel_rfl) (by kernel_rfl) (fun _ _ _ _ _ h => h) ((HS11.out _ (Ext.refl X12).drew)) ?_
    repeat ((with_reducible refine treeIs ?_); first
      | (refine treeTakeX (a' := ?_) ⟨_, (HS11.out _ (Ext.refl X12).drew)⟩ (by rfl) rfl (by kernel_rfl) rfl ?_ ?_; rotate_left; (focus (intro V Q' hV hq; obtain ⟨hV1, hV2, hV3, ⟨hV4, hV5, hV6⟩, ⟨hV7, hV8, hV9⟩, hV10⟩ := hV; (repeat (first | go_guarded | go_skip | go_step)); (first | exact hq | exact wpList_nil hq)))))
    refine treeDone ?_
    refine NoPanic.normal ?_
    go_wp2_with fail
    go_meet
    exact ⟨rfl, (Ext.refl X12).drew⟩
  case rest =>
    obtain ⟨rfl, hE13⟩ := hcut
    obtain ⟨X13, rfl⟩ : ∃ X13 : World, X13 = wc := ⟨_, rfl⟩
    have hX13 : Ext w X13 := hX12.trans hE13
    have r1213 := (hE13.block _ (Array.getElem?_eq_some_iff.1 r12).1).trans r12
    have r913 := (hE13.block _ (Array.getElem?_eq_some_iff.1 r912).1).trans r912
    have r1013 := (hE13.block _ (Array.getElem?_eq_some_iff.1 r1012).1).trans r1012
    have c4 : X13.cell? ⟨b12, 4, none⟩ = some (.bool m.hd.tc) := box_cell r1213 rfl
    rcases HMt.out with ⟨htc, hma, hmu⟩ | ⟨htc, hma, hmu, hsame, htime, hends⟩
    · rw [htc] at c4
      have la : m.ans.length = 0 := by rw [hma]; rfl
      have lu : m.auth.length = 0 := by rw [hmu]; rfl
      have lx : m.extra.length = 0 := by rw [HMx.out]; rfl
      have d12 : X13.cell? ⟨b12, 12, none⟩ = some (.slice aA 0 ac) := by rw [← la]; exact box_cell r1213 rfl
      have d13 : X13.cell? ⟨b12, 13, none⟩ = some (.slice uA 0 uc) := by rw [← lu]; exact box_cell r1213 rfl
      have d14 : X13.cell? ⟨b12, 14, none⟩ = some (.slice xA 0 xc) := by rw [← lx]; exact box_cell r1213 rfl
      clear la lu lx hma hmu htc
      go_wp2_with fail
      go_ret
      exact ⟨rfl, hX13⟩
    rw [htc] at c4
    have HVo := Lib.hid (ver_of (xOf m (some ⟨qb, qo, none⟩) xA oA qc xc oc) c.q.name c.q.typ c.q.cls m.hd.code 0 aA ac uA uc m.ans m.auth X13 (hg.ext hX13) ((HMO.out.ans.recs.lower (Nat.zero_le _)).ext (hYX.trans hE13)) ((HMO.out.auth.recs.lower (Nat.zero_le _)).ext (hYX.trans hE13)) (by rw [hma]; exact recsT_bd HB1.out ttl) (by rw [hmu]; exact recsT_bd HB2.out ttl) (fun r hr => ⟨(HWf.out.ans r hr).1, (HWf.out.ans r hr).2.1⟩) (fun r hr => ⟨(HWf.out.auth r hr).1, (HWf.out.auth r hr).2.1⟩) HCn.out)
    rw [← hma, ← hmu, ← HMc.out] at hsame htime hends
    unfold VerPost at HVo
    obtain ⟨V2, hV2⟩ : ∃ V2, V2 = verOf c.q.name c.q.typ c.q.cls m.hd.code m.ans m.auth := ⟨_, rfl⟩
    rw [← hV2] at HVo hsame htime hends
    have HErr2 := Lib.hid (show V2.err = 0 from hsame.2.2.2.trans HErr.out)
    rw [HErr2.out] at HVo
    have HSame := Lib.hid hsame
    have HTime := Lib.hid htime
    have HEnds := Lib.hid hends
    have lx : m.extra.length = 0 := by rw [HMx.out]; rfl
    have HLx := Lib.hid lx
    clear hsame htime hends hV2 hma hmu htc lx
    have p14 : X13.cell? ⟨b9, 14, none⟩ = some (S c.q.name) := box_cell r913 rfl
    have p15 : X13.cell? ⟨b9, 15, none⟩ = some (.int .u16 c.q.typ) := box_cell r913 rfl
    have p16 : X13.cell? ⟨b9, 16, none⟩ = some (.int .u16 c.q.cls) := box_cell r913 rfl
    go_upto_region 16 with (first
      | (refine load_rowB (by rfl) 45 (.tmp 12) rfl b12 rfl 45 _ _ _ r1213 Tryz.underlying45 rfl (by kernel_rfl) ?_)
      | (go_at_call 48; refine HVo.out.mono ?_; rintro e w15 ⟨vs5, vo5, rfl, hs5, ho5, _, hE15⟩; have Hs5 := Lib.hid hs5; have Ho5 := Lib.hid ho5; obtain ⟨ps5, pA5, pc5, hps5, rfl, _, _⟩ := hs5; obtain ⟨po5, tA5, tc5, hpo5, rfl, _, _⟩ := ho5) | fail)
    (try dsimp only at Hs5 Ho5 ⊢)
    obtain ⟨X15, hX15⟩ : ∃ X15, X15 = w15.alloc (.cells #[.int .u8 V2.code, .slice pA5 ps5.length pc5, .slice tA5 po5.length tc5] 24) := ⟨_, rfl⟩
    obtain ⟨b14, hb14⟩ : ∃ b14, b14 = w15.heap.size := ⟨_, rfl⟩
    have rV : X15.heap[b14]? = some (.cells #[.int .u8 V2.code, .slice pA5 ps5.length pc5, .slice tA5 po5.length tc5] 24) := by rw [hX15, hb14]; exact heap_alloc_new _ _
    have hE155 : Ext w15 X15 := by rw [hX15]; exact (Ext.refl _).alloc _
    rw [← hX15, ← hb14]
    have HS5s := Lib.hid ((Hs5.out.sets.lower (Nat.zero_le _)).ext hE155)
    have HS5o := Lib.hid ((Ho5.out.sets.lower (Nat.zero_le _)).ext hE155)
    have h1315 : Ext X13 X15 := hE15.trans hE155
    have h515 : Ext X5 X15 := (((hE7.trans h712).trans hE13).trans h1315)
    have hX15w : Ext w X15 := hX13.trans h1315
    have r1215 := (h1315.block _ (Array.getElem?_eq_some_iff.1 r1213).1).trans r1213
    have r915 := (h1315.block _ (Array.getElem?_eq_some_iff.1 r913).1).trans r913
    have r1015 := (h1315.block _ (Array.getElem?_eq_some_iff.1 r1013).1).trans r1013
    have HEn := Lib.hid (ver_end c.q.name c.q.typ c.q.cls R.code 0 (.slice pA ps.length pc) R.sets tA po.length tc X15 (HSs.out.ext h515) HB1.out.ok7.bd)
    unfold FindPost at HEn
    have HHas := Lib.hid (HEnds.out)
    generalize (endV c.q.typ R.sets).getD SetD.zero = es at HEn
    clear hX15 hb14 p14 p15 p16 c4 Hs5 Ho5 hps5 hpo5
    have p14 : X15.cell? ⟨b9, 14, none⟩ = some (S c.q.name) := box_cell r915 rfl
    have p15 : X15.cell? ⟨b9, 15, none⟩ = some (.int .u16 c.q.typ) := box_cell r915 rfl
    have p16 : X15.cell? ⟨b9, 16, none⟩ = some (.int .u16 c.q.cls) := box_cell r915 rfl
    have x1 : X15.cell? ⟨b10, 1, none⟩ = some (.int .u8 R.code) := box_cell r1015 rfl
    have x2 : X15.cell? ⟨b10, 2, none⟩ = some (.slice pA ps.length pc) := box_cell r1015 rfl
    have x3 : X15.cell? ⟨b10, 3, none⟩ = some (.slice tA po.length tc) := box_cell r1015 rfl
    go_upto_region 17 with (first | (go_at_call 50; refine HEn.out.mono ?_; rintro e w16 ⟨dv, rfl, hdv, hE16⟩; obtain ⟨dA, dc, rfl, -⟩ := hdv; dsimp only [setVal]) | fail)
    obtain ⟨X16, hX16⟩ : ∃ X16, X16 = w16.alloc (.cells #[S es.name, .int .u16 es.typ, .int .u16 es.cls, .int .u32 es.ttl, .slice dA es.data.length dc] 54) := ⟨_, rfl⟩
    have hE166 : Ext X15 X16 := by rw [hX16]; exact hE16.alloc _
    (try dsimp only [setVal])
    rw [← hX16]
    have r1216 := (hE166.block _ (Array.getElem?_eq_some_iff.1 r1215).1).trans r1215
    have r1016 := (hE166.block _ (Array.getElem?_eq_some_iff.1 r1015).1).trans r1015
    have rV6 := (hE166.block _ (Array.getElem?_eq_some_iff.1 rV).1).trans rV
    have HSm := Lib.hid (ver_same 0 0 V2.code R.code _ _ _ _ V2.sets V2.soa R.sets R.soa X16 (HS5s.out.ext hE166) (HS5o.out.ext hE166) (HSs.out.ext (h515.trans hE166)) (HSo.out.ext (h515.trans hE166)))
    rw [show verSame V2.code V2.sets V2.soa R.code R.sets R.soa = true from by unfold verSame; rw [HSame.out.1, HSame.out.2.1, HSame.out.2.2.1]; simp] at HSm
    clear hX16 p14 p15 p16 x1 x2 x3
    have x1 : X16.cell? ⟨b10, 1, none⟩ = some (.int .u8 R.code) := box_cell r1016 rfl
    have x2 : X16.cell? ⟨b10, 2, none⟩ = some (.slice pA ps.length pc) := box_cell r1016 rfl
    have x3 : X16.cell? ⟨b10, 3, none⟩ = some (.slice tA po.length tc) := box_cell r1016 rfl
    have y0 := box_cell (j := 0) rV6 rfl
    have y1 := box_cell (j := 1) rV6 rfl
    have y2 := box_cell (j := 2) rV6 rfl
    have hX16w : Ext w X16 := hX15w.trans hE166
    go_wp2_with fail
    refine HSm.out.mono ?_
    rintro e w17 ⟨rfl, hE17⟩
    have d14 : w17.cell? ⟨b12, 14, none⟩ = some (.slice xA 0 xc) := by
      have h := (hE17.block _ (Array.getElem?_eq_some_iff.1 r1216).1).trans r1216
      rw [← HLx.out]; exact box_cell h rfl
    clear x1 x2 x3 y0 y1 y2
    have hle : V2.time ≤ ttl := HTime.out
    have hled : decide (V2.time ≤ ttl) = true := decide_eq_true hle
    have HHa := Lib.hid HHas.out
    rcases hh : (endV c.q.typ R.sets).isSome with _ | _
    · go_wp2_with fail
      go_ret
      exact ⟨rfl, hX16w.trans hE17⟩
    · have hte : (V2.time == ttl) = true := by rw [HHa.out hh]; simp
      go_wp2_with fail
      go_ret
      exact ⟨rfl, hX16w.trans hE17⟩
end Go.Proofs.YtbmjfjgfognimaaGreatDoor
namespace Go.Proofs.YtbmjfjgfognimaaGreatDoor
set_option linter.unusedSimpArgs false
set_option linter.unusedVariables false
open Go.ChangeShapes Go.WideShapes Go.ChangeAt Go.RowKit
set_option maxRecDepth 100000
theorem answerRead_contract (H : Type) (enc : TypeId × Value → H) (W : World) (base : Nat) (args : Array Value) (ds gs : List (DataW H)) (before : List MemPlace)
    (hval : ∀ (j : Nat) t v, Tryz.f14.params[j]? = some t → args[j]? = some v → Value.okWide Tryz.prog W .any base t v)
    (hW : DataW.Whole enc Tryz.prog Tryz.f14.params.toList Rows.answerReadSpec.vars false W args.toList ds gs before)
    (hsz : (DataW.weightsEach Tryz.prog (Tryz.f14.params.toList ++ (OpenSpec.ofChange Rows.answerReadSpec).bare.plain.varTypes Tryz.prog) (ds ++ gs)).all (· ≤ reachBytes) = true)
    (hL : laidMetH Tryz.prog laidL W) :
    Calls Tryz.prog 14 args W fun e W' => ∃ v, e = .returned v ∧ Rows.answerReadSpec.post enc Tryz.prog Tryz.f14 false true false false W args v W' := by
  have hW' := hW
  have hp : ∀ t ∈ Tryz.f14.params.toList, Tryz.prog.readableRec t = true ∧ t < Tryz.prog.types.size := by
    have h : (Tryz.f14.params.toList.all fun t => Tryz.prog.readableRec t && decide (t < Tryz.prog.types.size)) = true := by kernel_rfl
    simpa only [List.all_eq_true, Bool.and_eq_true, decide_eq_true_eq] using h
  have hg := laid_of hL
  have hb := laidbits_of hL
  obtain ⟨p, q, hA0, hV, rfl, _, _⟩ := hW
  have hA : DataW.TrodAll enc Tryz.prog W 0 (fun _ => true) true Tryz.f14.params.toList args.toList ds p := hA0
  clear hA0
  rw [Tryz.params14] at hA hval hsz
  obtain ⟨rfl, rfl⟩ := trodVars_none hV
  obtain ⟨ea, eb, he⟩ := errs_of hL
  obtain ⟨v0, v1, v2, v3, d0, d1, d2, d3, p0, p1, p2, p3, rfl, rfl, rfl, h0, h1, h2, h3⟩ := trodAll_four hA
  obtain ⟨da, rfl, hd⟩ := open_str (hval 0 _ _ rfl rfl) h0
  obtain ⟨rp, rfl, hr⟩ := open_str (hval 1 _ _ rfl rfl) h1
  obtain ⟨tt, rfl, ht1, ht2⟩ := open_u32 (hval 2 _ _ rfl rfl) h2
  obtain ⟨sz, rfl, hs1, hs2⟩ := open_u16 (hval 3 _ _ rfl rfl) h3
  refine (law28_read da rp tt sz ea eb W hg hb he hd hr ⟨ht1, ht2⟩ ⟨hs1, hs2⟩).mono ?_
  rintro e W' ⟨rfl, hE⟩
  exact ⟨_, rfl, post_true laid_out rfl (by kernel_rfl) Tryz.underlying4 hp hW' rfl hE⟩

theorem answerRead_reads (os : Os) {H : Type} (enc : TypeId × Value → H) : ∃ places, DataW.whole enc Tryz.prog ((laidWorld os).forCall (fun _ _ => 0) ⟨#[], #[.string ⟨#[]⟩, .string ⟨#[]⟩, .int .u32 0, .int .u16 0], []⟩).memory Tryz.f14.params.toList Rows.answerReadSpec.vars false (#[.string ⟨#[]⟩, .string ⟨#[]⟩, .int .u32 0, .int .u16 0] : Array Value).toList 8 = some ([.lit (.string []), .lit (.string []), .lit (.int .u32 0), .lit (.int .u16 0)], [], places) :=
  ⟨[], by kernel_rfl⟩
theorem answerRead_lifted (os : Os) (started : os.Started) (H : Type) (enc : TypeId × Value → H) (F : Stop.Interp) :
    ReturnsInHanded {} Tryz.checked os 14 .any ((OpenSpec.ofChange Rows.answerReadSpec).preRow enc Tryz.prog Tryz.f14 Rows.answerReadRow.domain false Rows.answerReadRow.laid) (((OpenSpec.ofChange Rows.answerReadSpec).at F).post enc Tryz.prog Tryz.f14 false true false false) := by
  obtain ⟨places, hx⟩ := answerRead_reads os enc
  refine returnsInHanded_of_row (C := Tryz.checked) (s := OpenSpec.ofChange Rows.answerReadSpec) own_knob started (by kernel_rfl) Tryz.func14
    (witness_row_at (enc := enc) (C := Tryz.checked) false (laidWorld os) #[.string ⟨#[]⟩, .string ⟨#[]⟩, .int .u32 0, .int .u16 0] rfl (by kernel_rfl) (by kernel_rfl) (by kernel_rfl)
      (OpenSpec.preRow_of_cond 8 hx (by kernel_rfl) (fun k hk => by cases hk) (by kernel_rfl) (laid_met os _))) ?_
  intro W base args ds gs before hval hW _ _ hsz hL _ _
  exact answerRead_contract H enc W base args ds gs before hval hW hsz hL
theorem band_card (a b : Bool) (h1 : a = true) (h2 : b = true) : (a && b) = true := by rw [h1, h2]; rfl
set_option maxHeartbeats 4000000 in
theorem answerRead_joined : joinedFacts Tryz.prog 14 Tryz.f14 (OpenSpec.ofChange Rows.answerReadSpec).bare Rows.answerReadRow = true := by
  unfold joinedFacts; repeat' (with_reducible refine band_card _ _ ?_ ?_)
  all_goals (as_aux_lemma => kernel_rfl)
set_option maxHeartbeats 4000000 in
theorem answerRead_said : Rows.AnswerReadSaid :=
  OpenClaim.holds_of_cond 14 Tryz.f14 rfl rfl rfl rfl rfl rfl rfl ⟨rfl, rfl, rfl, rfl, rfl⟩ rfl rfl rfl rfl rfl (by kernel_rfl) Tryz.func14 answerRead_joined
    (of_decide_eq_true (by kernel_rfl)) (by unfold Func.isWrapper; first | (rw [if_pos (by decide +kernel)]; kernel_rfl) | (rw [if_neg (by decide +kernel)]; exact ⟨rfl, rfl⟩))
    (fun os started H enc _ F => by rw [OpenClaim.pre_eq_preRow]; exact answerRead_lifted os started H enc F)
theorem answerRead_card : Rows.AnswerReadCardSaid :=
  Claim7.holds_tied_plain_at .later [] _ _ _ _ answerRead_said (fun _ h => by cases h) (by as_aux_lemma => kernel_rfl) (fun _ h => by cases h) answerRead_row_tie rfl ⟨rfl, rfl⟩ (by as_aux_lemma => kernel_rfl) rfl
    (fun f fn hf hfn => by
      obtain rfl : f = 14 := Option.some.inj ((show Tryz.prog.funcNamed Rows.answerReadRow.func = some 14 by kernel_rfl).symm.trans hf) |>.symm
      obtain rfl : fn = Tryz.f14 := (Option.some.inj (Tryz.func14.symm.trans hfn)).symm
      refine ⟨by kernel_rfl, fun j t ht => ?_⟩
      have h : (Tryz.f14.params.toList.all fun t => !Tryz.prog.wantsStandIn t) = true := by kernel_rfl
      have h2 := List.all_eq_true.1 h t (by simpa using Array.mem_of_getElem? ht)
      exact (by simpa using h2 : Tryz.prog.wantsStandIn t = false))
    (by as_aux_lemma => kernel_rfl)
#print axioms answerRead_card
end Go.Proofs.YtbmjfjgfognimaaGreatDoor
