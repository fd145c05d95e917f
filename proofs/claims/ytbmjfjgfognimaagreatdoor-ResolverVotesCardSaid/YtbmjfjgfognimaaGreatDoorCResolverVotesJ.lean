/- hustingslaw30.ResolverVotes returns true for every input, and every argument reads behind the call as it read before; the listed variables are tied to the program's text. No condition of ours. -/
import Derived.Test.YtbmjfjgfognimaaGreatDoorCards
import Derived.Test.YtbmjfjgfognimaaGreatDoorTie
import Derived.Test.YtbmjfjgfognimaaGreatDoorJb
import Derived.ProofKit
import Derived.OpenShut
import Derived.LaidHandle
import Derived.LaidLaws
import Derived.Test.YtbmjfjgfognimaaGreatDoorJwy
import Derived.Deep.DeepHandedRow
import Derived.Stop.LaidTwo
import Derived.LaidSub
import Derived.Test.YtbmjfjgfognimaaGreatDoorJhd
import Derived.Test.YtbmjfjgfognimaaGreatDoorJpr
import Derived.Test.YtbmjfjgfognimaaGreatDoorJvp
import Derived.Test.YtbmjfjgfognimaaGreatDoorJhq
import Derived.Test.YtbmjfjgfognimaaGreatDoorJj
import Derived.Test.YtbmjfjgfognimaaGreatDoorJe
import Derived.Test.YtbmjfjgfognimaaGreatDoorJf
import Derived.Test.YtbmjfjgfognimaaGreatDoorJl3
import Derived.Test.YtbmjfjgfognimaaGreatDoorJu0
import Derived.Test.YtbmjfjgfognimaaGreatDoorJv
import Derived.Test.YtbmjfjgfognimaaGreatDoorJu
import Derived.Test.YtbmjfjgfognimaaGreatDoorJhx
import Derived.Test.YtbmjfjgfognimaaGreatDoorJg
namespace Go.Proofs.YtbmjfjgfognimaaGreatDoor
set_option linter.unusedSimpArgs false
set_option linter.unusedVariables false
open Go.ChangeShapes Go.WideShapes Go.ChangeAt Go.RowKit
set_option maxRecDepth 100000

theorem own_knob : ownKnob Tryz.prog.godebug = none := by kernel_rfl
theorem et_at : Tryz.prog.globalNamed "errors.errorType" = some 3 := by kernel_rfl
theorem one_row : ((List.range Tryz.prog.types.size).filter fun t => Tryz.prog.rowNamed t [101, 114, 114, 111, 114]) = [160] := by kernel_rfl
def laidL : List (String × DataW Unit) := [("errors.errorType", Rows.laid_errors_errorType), ("hustings/head.bits", Rows.laid_hustings_head_bits), ("hustings/heard.errBad", Rows.laid_hustings_heard_errBad), ("hustings/heard.errPass", Rows.laid_hustings_heard_errPass)]

theorem laid_of {W : World} (h : laidMetH Tryz.prog laidL W) : Laid W := by
  have h' : laidMet Tryz.prog [("hustings/head.bits", Rows.laid_hustings_head_bits), ("hustings/heard.errBad", Rows.laid_hustings_heard_errBad), ("hustings/heard.errPass", Rows.laid_hustings_heard_errPass)] W ∧ handlesMet Tryz.prog [("errors.errorType", Rows.laid_errors_errorType)] W := h
  obtain ⟨name, u, ty, e1, e2, e3, e4, e5⟩ := h'.2 _ (List.mem_singleton.2 rfl)
  have en : name = [101, 114, 114, 111, 114] := (Option.some.inj e1).symm
  subst en
  obtain rfl : u = 322 := Option.some.inj (e2.symm.trans (by kernel_rfl))
  have hm : ty ∈ (List.range Tryz.prog.types.size).filter fun t => Tryz.prog.rowNamed t [101, 114, 114, 111, 114] := List.mem_filter.2 ⟨List.mem_range.2 e3, e4⟩
  rw [one_row] at hm
  obtain rfl := List.mem_singleton.1 hm
  have hh : typeHandle Tryz.prog 160 = hdl 160 := by kernel_rfl
  rw [hh] at e5
  show W.cell? ⟨3, 0, none⟩ = _
  simpa using World.var?_cell et_at e5 0

theorem bits_at : Tryz.prog.globalNamed "hustings/head.bits" = some 2 := by kernel_rfl
theorem one_cell {l : List Value} {i : Nat} {v : Value} (h : (l.drop i).take 1 = [v]) : l[i]? = some v := by
  have h1 := congrArg (fun x : List Value => x[0]?) h
  simpa using h1
def bitsL : List Int := [32768, 1024, 512, 256, 128, 64, 32, 16]
theorem laidbits_of {W : World} (h : laidMetH Tryz.prog laidL W) : BitsAt W := by
  have h' : laidMet Tryz.prog [("hustings/head.bits", Rows.laid_hustings_head_bits), ("hustings/heard.errBad", Rows.laid_hustings_heard_errBad), ("hustings/heard.errPass", Rows.laid_hustings_heard_errPass)] W ∧ handlesMet Tryz.prog [("errors.errorType", Rows.laid_errors_errorType)] W := h
  obtain ⟨ps, hlv, _, _⟩ := h'.1
  obtain ⟨g, t, cs, fuel, p, q, e1, e2, e3, e4, _, _⟩ := hlv
  obtain rfl : 2 = g := Option.some.inj (bits_at.symm.trans e1)
  obtain rfl : 260 = t := Option.some.inj ((show (Tryz.prog.globals[2]?).map (·.type) = some 260 by kernel_rfl).symm.trans e2)
  obtain ⟨xs, n, _, hd, _, hlen, hf⟩ := DataW.trod_array Tryz.underlying260 e4
  have hd1 := (Prod.mk.inj hd).1
  have key : ∀ i, i < 8 → cs.toList[i]? = some (.int .u16 (bitsL.getD i 0)) := fun i hi => by
    have hx : (xs.map (·.1))[i]? = some (.lit (.int .u16 (bitsL.getD i 0))) := by
      have h1 : xs.map (·.1) = bitsL.map fun k => (.lit (.int .u16 k) : DataW Unit) := by
        injection hd1 with h1
        exact h1.symm
      rw [h1, List.getElem?_map, List.getElem?_eq_getElem (show i < bitsL.length from hi)]
      simp [List.getD, List.getElem?_eq_getElem (show i < bitsL.length from hi)]
    rw [List.getElem?_map] at hx
    obtain ⟨y, hy1, hy2⟩ := Option.map_eq_some_iff.1 hx
    have h2 := (hf i hi).trans hy1
    rw [show Tryz.prog.cellsOf 26 = 1 by kernel_rfl, Nat.mul_one] at h2
    obtain ⟨m, g1, g2, _⟩ := DataW.trod_int Tryz.underlying26 h2
    rw [g2] at hy2
    have hm : m = bitsL.getD i 0 := by
      injection hy2 with hy2
      injection hy2
    rw [← hm]
    exact one_cell g1
  have key2 : ∀ i, i < 8 → W.cell? ⟨2, i, none⟩ = some (.int .u16 (bitsL.getD i 0)) := fun i hi => by
    rw [World.var?_cell bits_at e3 i]
    simpa using key i hi
  exact ⟨key2 0 (by omega), key2 1 (by omega), key2 2 (by omega), key2 3 (by omega), key2 4 (by omega), key2 5 (by omega), key2 6 (by omega), key2 7 (by omega)⟩
theorem bad_at : Tryz.prog.globalNamed "hustings/heard.errBad" = some 0 := by kernel_rfl
theorem pass_at : Tryz.prog.globalNamed "hustings/heard.errPass" = some 1 := by kernel_rfl
theorem bad_type : (Tryz.prog.globals[0]?).map (·.type) = some 160 := by kernel_rfl
theorem pass_type : (Tryz.prog.globals[1]?).map (·.type) = some 160 := by kernel_rfl
theorem es_cells : Tryz.prog.cellsOf 397 = 1 := by kernel_rfl
theorem str_cells : Tryz.prog.cellsOf 9 = 1 := by kernel_rfl
theorem es_star : "*" ++ "errors.errorString" = "*errors.errorString" := by decide
theorem es_row (u : TypeId) (h : Tryz.prog.typeName? 3 u = some "*errors.errorString") : u = 378 :=
  typeName_ptr_named (nm := "errors.errorString") (by rw [es_star]; kernel_rfl) (by kernel_rfl) (by decide) u (by rw [es_star]; exact h)
theorem errs_of {W : World} (h : laidMetH Tryz.prog laidL W) : ∃ a b, ErrsAt W a b := by
  have h' : laidMet Tryz.prog [("hustings/head.bits", Rows.laid_hustings_head_bits), ("hustings/heard.errBad", Rows.laid_hustings_heard_errBad), ("hustings/heard.errPass", Rows.laid_hustings_heard_errPass)] W ∧ handlesMet Tryz.prog [("errors.errorType", Rows.laid_errors_errorType)] W := h
  have h2 : laidMet Tryz.prog [("hustings/heard.errBad", Rows.laid_hustings_heard_errBad), ("hustings/heard.errPass", Rows.laid_hustings_heard_errPass)] W := h'.1.filter (fun x => x.1 != "hustings/head.bits")
  obtain ⟨a0, a1, s0, s1, c0, c1, t0, t1, hv0, hv1, _, _, _, _, _, _, hne, hb0, hb1⟩ := laid_sentinels2 h2 bad_at bad_type pass_at pass_type Tryz.underlying160 es_row Tryz.underlying378 Tryz.underlying397 rfl rfl Tryz.underlying9 es_cells str_cells
  exact ⟨a0, a1, by simpa using World.var?_cell bad_at hv0 0, by simpa using World.var?_cell pass_at hv1 0, ⟨_, _, hb0⟩, ⟨_, _, hb1⟩, hne⟩
abbrev badS : ByteArray := { data := #[116, 104, 101, 32, 114, 101, 112, 108, 121, 32, 105, 115, 32, 98, 97, 100] }
abbrev passS : ByteArray := { data := #[116, 104, 101, 32, 114, 101, 112, 108, 121, 32, 105, 115, 32, 97, 32, 112, 97, 115, 115] }
noncomputable def low24 : Nat := (World.holding Tryz.prog default ⟨#[], #[], []⟩).heap.size
noncomputable def laidWorld (os : Os) : World :=
  let w0 := World.holding Tryz.prog os ⟨#[.cells #[.string badS] 397, .cells #[.string passS] 397], #[], []⟩
  { w0 with heap := (((w0.heap.modify 3 fun
      | .cells _ t frozen => .cells #[errTy] t frozen
      | o => o).modify 2 fun
      | .cells _ t frozen => .cells #[.int .u16 32768, .int .u16 1024, .int .u16 512, .int .u16 256, .int .u16 128, .int .u16 64, .int .u16 32, .int .u16 16] t frozen
      | o => o).modify 0 fun
      | .cells _ t frozen => .cells #[.iface 378 (.pointer (some ⟨low24, 0, none⟩))] t frozen
      | o => o).modify 1 fun
      | .cells _ t frozen => .cells #[.iface 378 (.pointer (some ⟨low24 + 1, 0, none⟩))] t frozen
      | o => o }
theorem laid_met (os : Os) (args : Array Value) : laidMetH Tryz.prog laidL ((laidWorld os).forCall (fun _ _ => 0) ⟨#[], args, []⟩).memory :=
  laidMetH_of_parts (laidMet_of_run' 8 (by kernel_rfl) (by kernel_rfl)) (by kernel_rfl)

section
variable {H : Type} {enc : TypeId × Value → H} {P : Program}
theorem trodAll_stays (hl : laidOutB P = true) {W W' : World} (hb : Below W.heap.size W W') {sp : Nat → Bool} : ∀ {ts : List TypeId} {vs : List Value} {ds : List (DataW H)} {ps : List MemPlace},
    (∀ t ∈ ts, P.readableRec t = true ∧ t < P.types.size) → DataW.TrodAll enc P W 0 (fun _ => true) true ts vs ds ps → (∀ x ∈ ps, x.block < W.heap.size) → (∀ x ∈ ps, sp x.block = true) → DataW.TrodAll enc P W' 0 sp true ts vs ds ps
  | [], _, _, _, _, h, _, _ => by obtain ⟨rfl, rfl, rfl⟩ := trodAll_nil h; exact trodAll_mk0
  | t :: ts, _, _, _, ht, h, hlt, hs => by
    obtain ⟨v, vs, d, ds, p, q, rfl, rfl, rfl, h0, h1⟩ := trodAll_cons h
    have h2 := ht t (by simp)
    exact trodAll_cons_mk (WideElems.Trod_stays hl h2.1 h2.2 h0 (fun x hx => hb.same (hlt x (by simp [hx]))) (fun x hx => hs x (by simp [hx])))
      (trodAll_stays hl hb (fun t ht' => ht t (by simp [ht'])) h1 (fun x hx => hlt x (by simp [hx])) (fun x hx => hs x (by simp [hx])))
theorem post_of_below {f : Func} {s : ChangeSpec} {apart fresh handsOn again : Bool} {W W' : World} {args : Array Value} {v : Value} {ds gs : List (DataW H)} {before pa pv : List MemPlace}
    (hW : DataW.Whole enc P f.params.toList s.vars apart W args.toList ds gs before)
    (hres : ∀ (b : Nat) (sp : Nat → Bool) (hd : Bool), DataW.TrodAll enc P W' b sp hd f.resultTypes.toList (v.resultList f.resultTypes.size) (s.fn H (ds ++ gs)).results [])
    (hargs : ∀ sp : Nat → Bool, (∀ p ∈ before, sp p.block = true) → DataW.TrodAll enc P W' 0 sp true f.params.toList args.toList (s.fn H (ds ++ gs)).args pa)
    (hvars : ∀ sp : Nat → Bool, (∀ p ∈ before, sp p.block = true) → DataW.TrodVars enc P W' sp s.vars (s.fn H (ds ++ gs)).vars pv)
    (hps : before = pa ++ pv) (hb : Below W.heap.size W W')
    (hok : ∀ (j : Nat) (t : TypeId) (r : Value), f.resultTypes[j]? = some t → (v.resultList f.resultTypes.size)[j]? = some r → Value.okWide P W' .any 0 t r) :
    s.post enc P f apart fresh handsOn again W args v W' := by
  have hlt : ∀ p ∈ before, p.block < W.heap.size := fun p hp => hW.lt p hp
  have hold : ∀ p ∈ before, (fun b => decide (b < W.heap.size)) p.block = true := fun p hp => by simpa using hlt p hp
  refine ⟨ds, gs, before, [], pa, pv, hW, hres _ _ _, hargs _ hold, hvars _ hold, World.keptBut_mono (fun p hp => ⟨hp, ?_⟩) (hb.frame (· ∈ before)), fun _ => ?_⟩
  · rw [hps, List.mem_append] at hp
    exact Or.inr hp
  · obtain ⟨_, _, _, _, _, hz, hn⟩ := hW
    refine ⟨hok, _, _, ([] ++ pa) ++ pv, ⟨[] ++ pa, pv, trodAll_append (hargs _ (fun _ _ => rfl)) (hres _ _ _), hvars _ (fun _ _ => rfl), rfl, ?_, ?_⟩, ?_⟩
    · intro b off hp
      have hin : MemPlace.cell b off ∈ before := by rw [hps]; simpa using hp
      rw [hb.frozen (hlt _ hin)]
      exact hz b off hin
    · intro ha
      have := hn ha
      rw [hps] at this
      simpa using this
    · intro p hp _
      rw [hps]
      simpa using hp
/-- A law that returns true and only makes memory: its post. -/
theorem post_true {f : Func} {s : ChangeSpec} {apart fresh handsOn again : Bool} {W W' : World} {args : Array Value} {ds gs : List (DataW H)} {before : List MemPlace} {t : TypeId}
    (hl : laidOutB P = true) (hvn : s.vars = []) (hr : f.resultTypes = #[t]) (ht : P.underlying t = some .bool)
    (hp : ∀ t ∈ f.params.toList, P.readableRec t = true ∧ t < P.types.size)
    (hW : DataW.Whole enc P f.params.toList s.vars apart W args.toList ds gs before)
    (hfn : s.fn H ds = { results := [.lit (.bool true)], args := ds }) (hb : Ext W W') :
    s.post enc P f apart fresh handsOn again W args (.bool true) W' := by
  have hW' := hW
  obtain ⟨p, q, hA, hV, rfl, _, _⟩ := hW
  rw [hvn] at hV
  obtain ⟨rfl, rfl⟩ := trodVars_none hV
  have hlt : ∀ x ∈ p, x.block < W.heap.size := fun x hx => by simpa using hW'.lt x (by simp [hx])
  refine post_of_below (pa := p) (pv := []) hW' (fun _ _ _ => ?_) (fun sp hs => ?_) (fun _ _ => ?_) rfl hb (ok_one hr rfl (okWide_bool_mk ht _))
  · rw [List.append_nil, hfn, hr]; exact trodAll_mk1 (shut_bool ht true)
  · rw [List.append_nil, hfn]; exact trodAll_stays hl hb hp hA hlt (fun x hx => hs x (by simp [hx]))
  · rw [List.append_nil, hfn, hvn]; rfl
end
theorem laid_out : laidOutB Tryz.prog = true := by kernel_rfl
end Go.Proofs.YtbmjfjgfognimaaGreatDoor
namespace Go.Proofs.YtbmjfjgfognimaaGreatDoor
set_option linter.unusedSimpArgs false
set_option linter.unusedVariables false
open Go.RowKit

def subL (L : List SetD) : List RecD := L.flatMap recsOf
theorem mem_subL {L : List SetD} {x : RecD} : x ∈ subL L ↔ ∃ s ∈ L, ∃ d ∈ s.data, x = ⟨s.name, s.typ, s.cls, s.ttl, d⟩ := by
  unfold subL recsOf
  rw [List.mem_flatMap]
  constructor
  · rintro ⟨s, hs, hx⟩
    obtain ⟨d, hd, rfl⟩ := List.mem_map.1 hx
    exact ⟨s, hs, d, hd, rfl⟩
  · rintro ⟨s, hs, d, hd, rfl⟩
    exact ⟨s, hs, List.mem_map.2 ⟨d, hd, rfl⟩⟩
theorem sub_key {l : List RecD} {s : SetD} (hs : s ∈ groupR l) {d : List UInt8} (hd : d ∈ s.data) : okRec ⟨s.name, s.typ, s.cls, s.ttl, d⟩ = true ∧ recK ⟨s.name, s.typ, s.cls, s.ttl, d⟩ = keyT s := by
  have hn := group_name hs
  have hd' := group_folded hs hd
  refine ⟨by unfold okRec; dsimp only; rw [hn.1, hd'.1]; rfl, ?_⟩
  unfold recK keyT fold
  dsimp only
  rw [if_pos hn.1, hn.2]
theorem sub_ofK {l : List RecD} {L : List SetD} (hL : ∀ s ∈ L, s ∈ groupR l) {s : SetD} (hs : s ∈ L) (x : RecD) : x ∈ ofK (subL L) (keyT s) ↔ ∃ d ∈ s.data, x = ⟨s.name, s.typ, s.cls, s.ttl, d⟩ := by
  rw [mem_ofK]
  constructor
  · rintro ⟨h1, _, h3⟩
    obtain ⟨t, ht, d, hd, rfl⟩ := mem_subL.1 h1
    have e := group_uniq (hL t ht) (hL s hs) ((sub_key (hL t ht) hd).2.symm.trans h3)
    subst e
    exact ⟨d, hd, rfl⟩
  · rintro ⟨d, hd, rfl⟩
    exact ⟨mem_subL.2 ⟨s, hs, d, hd, rfl⟩, sub_key (hL s hs) hd⟩
theorem sub_set {l : List RecD} {L : List SetD} (hL : ∀ s ∈ L, s ∈ groupR l) {s : SetD} (hs : s ∈ L) : ofK (subL L) (keyT s) ≠ [] ∧ setK (subL L) (keyT s) = s := by
  have hof := sub_ofK hL hs
  obtain ⟨d0, hd0⟩ := List.exists_mem_of_ne_nil _ (group_some (hL s hs))
  refine ⟨List.ne_nil_of_mem ((hof _).2 ⟨d0, hd0, rfl⟩), ?_⟩
  have h1 : minT (ofK (subL L) (keyT s)) = s.ttl := by
    have h2 := (minT_le (ofK (subL L) (keyT s))).2 _ ((hof _).2 ⟨d0, hd0, rfl⟩)
    have hle := (group_ttl (hL s hs)).2
    have ht : timeT s.ttl = s.ttl := by unfold timeT; rw [if_neg (by omega)]
    dsimp only at h2
    rcases minT_in (ofK (subL L) (keyT s)) with h3 | ⟨x, hx, h3⟩
    · omega
    · obtain ⟨d', _, rfl⟩ := (hof x).1 hx
      dsimp only at h3
      omega
  have h2 : datT (ofK (subL L) (keyT s)) = s.data := by
    refine asc_ext (canon_asc _) (group_asc (hL s hs)) (fun d => ?_)
    unfold datT
    rw [mem_canon, List.mem_map]
    constructor
    · rintro ⟨x, hx, rfl⟩
      obtain ⟨d', hd', rfl⟩ := (hof x).1 hx
      dsimp only
      rw [(group_folded (hL s hs) hd').2]; exact hd'
    · intro hd
      exact ⟨_, (hof _).2 ⟨d, hd, rfl⟩, (group_folded (hL s hs) hd).2⟩
  unfold setK
  rw [h1, h2]
  rfl
theorem sub_mem {l : List RecD} {L : List SetD} (hL : ∀ s ∈ L, s ∈ groupR l) (x : SetD) : x ∈ groupR (subL L) ↔ x ∈ L := by
  rw [group_mem]
  constructor
  · rintro ⟨h1, h2⟩
    obtain ⟨y, hy⟩ := List.exists_mem_of_ne_nil _ h1
    obtain ⟨hym, _, hk⟩ := mem_ofK.1 hy
    obtain ⟨t, ht, d, hd, rfl⟩ := mem_subL.1 hym
    rw [← hk, (sub_key (hL t ht) hd).2, (sub_set hL ht).2] at h2
    rw [h2]; exact ht
  · intro hs
    exact ⟨(sub_set hL hs).1, (sub_set hL hs).2.symm⟩
theorem sub_find {l : List RecD} {L : List SetD} (hL : ∀ s ∈ L, s ∈ groupR l) {x : List UInt8} {k c : Int} {s : SetD} (h : findS (groupR l) x k c = some s) (hs : s ∈ L) : findS (groupR (subL L)) x k c = some s := by
  by_cases hm : may x = true
  · have hf := find_group l x k c hm
    rw [h] at hf
    split at hf
    · cases hf
    · injection hf with hf
      have hk : keyT s = (low x, k, c) := by rw [hf]; rfl
      rw [find_group _ x k c hm, ← hk, if_neg (sub_set hL hs).1, (sub_set hL hs).2]
  · rw [find_bad _ x k c (by simpa using hm)] at h; cases h
theorem sub_none {l : List RecD} {L : List SetD} (hL : ∀ s ∈ L, s ∈ groupR l) {x : List UInt8} {k c : Int} (h : findS (groupR l) x k c = none) : findS (groupR (subL L)) x k c = none := by
  by_cases hm : may x = true
  · have hf := find_group l x k c hm
    rw [h] at hf
    rw [find_group _ x k c hm]
    split at hf
    · rename_i h0
      rw [if_pos]
      rcases he : ofK (subL L) (low x, k, c) with _ | ⟨y, r⟩
      · rfl
      · exfalso
        obtain ⟨hym, _, hk⟩ := mem_ofK.1 (show y ∈ ofK (subL L) (low x, k, c) by rw [he]; simp)
        obtain ⟨t, ht, d, hd, rfl⟩ := mem_subL.1 hym
        rw [(sub_key (hL t ht) hd).2] at hk
        have := ((group_mem l t).1 (hL t ht)).1
        rw [hk] at this
        exact this h0
    · cases hf
  · exact find_bad _ x k c (by simpa using hm)
theorem followF_subL (l m L : List SetD) (ty cls : Int) (h1 : ∀ x k c s, findS l x k c = some s → s ∈ L → findS m x k c = some s) (h2 : ∀ x k c, findS l x k c = none → findS m x k c = none) :
    ∀ (n : Nat) (here : List UInt8) (seen : List (List UInt8)) (path : List SetD), n + path.length = 9 → path.length ≤ 8 → (followF l ty cls n here seen path).err = 0 →
      (∀ s ∈ (followF l ty cls n here seen path).path, s ∈ L) → (∀ s ∈ (followF l ty cls n here seen path).fin, s ∈ L) → followF m ty cls n here seen path = (followF l ty cls n here seen path)
  | 0, here, seen, path, h, h8, _, _, _ => absurd h (by omega)
  | n + 1, here, seen, path, h, h8, he, hm1, hm2 => by
    have hfin : (∀ s ∈ (findS l here ty cls).toList, s ∈ L) → (findS m here ty cls).toList = ((findS l here ty cls).toList) := fun hs => by
      rcases hf : findS l here ty cls with _ | x
      · rw [h2 _ _ _ hf]
      · rw [h1 _ _ _ _ hf (hs x (by rw [hf]; simp))]
    simp only [followF] at he hm1 hm2 ⊢
    by_cases h5 : ty = 5
    · rw [if_pos h5] at hm1 hm2
      rw [if_pos h5, if_pos h5, hfin hm2]
    · rw [if_neg h5] at he hm1 hm2
      rw [if_neg h5, if_neg h5]
      rcases hf : findS l here 5 cls with _ | a
      · rw [hf] at he hm1 hm2
        rw [h2 _ _ _ hf]
        dsimp only at hm2 ⊢
        rw [hfin hm2]
      · rw [hf] at he hm1 hm2
        dsimp only at he hm1 hm2 ⊢
        by_cases hp : path.length = 8
        · rw [if_pos hp] at he; cases he
        · rw [if_neg hp] at he hm1 hm2
          rcases ht : targetS a with _ | next
          · rw [ht] at he; cases he
          · rw [ht] at he hm1 hm2
            dsimp only at he hm1 hm2
            by_cases hb : (findS l here ty cls).isSome = true
            · rw [if_pos hb] at he; cases he
            · rw [if_neg hb] at he hm1 hm2
              by_cases hc : seen.contains next = true
              · rw [if_pos hc] at he; cases he
              · rw [if_neg hc] at he hm1 hm2
                obtain ⟨more, e1, _, _⟩ := followF_pre l ty cls n next (seen ++ [next]) (path ++ [a]) (by simp; omega) (by simp; omega) he
                have haL : a ∈ L := hm1 a (by rw [e1]; simp)
                have hnn : findS l here ty cls = none := by
                  rcases hx : findS l here ty cls with _ | x
                  · rfl
                  · rw [hx] at hb; exact absurd rfl hb
                rw [h1 _ _ _ _ hf haL]
                dsimp only
                rw [if_neg hp, if_neg hp, ht]
                dsimp only
                rw [h2 _ _ _ hnn, hnn, if_neg (show ¬ ((none : Option SetD).isSome = true) by simp), if_neg (show ¬ ((none : Option SetD).isSome = true) by simp), if_neg hc, if_neg hc]
                have := followF_subL l m L ty cls h1 h2 n next (seen ++ [next]) (path ++ [a]) (by simp; omega) (by simp; omega) he hm1 hm2
                exact this
theorem follow_subL {l : List RecD} {n : List UInt8} {ty cls : Int} (he : (followOf n ty cls (groupR l)).err = 0) :
    followOf n ty cls (groupR (subL ((followOf n ty cls (groupR l)).path ++ (followOf n ty cls (groupR l)).fin))) = (followOf n ty cls (groupR l)) := by
  have hi := follow_in (groupR l) n ty cls
  unfold followOf at he hi ⊢
  by_cases hm : may n = true
  · rw [if_pos hm] at he hi
    rw [if_pos hm, if_pos hm]
    have hL : ∀ s ∈ (followF (groupR l) ty cls 9 (fold n) [fold n] []).path ++ (followF (groupR l) ty cls 9 (fold n) [fold n] []).fin, s ∈ groupR l := fun s hs => by
      rcases List.mem_append.1 hs with h | h
      · exact hi.path s h
      · exact hi.fin s h
    exact followF_subL (groupR l) _ ((followF (groupR l) ty cls 9 (fold n) [fold n] []).path ++ (followF (groupR l) ty cls 9 (fold n) [fold n] []).fin) ty cls (fun x k c s h hs => sub_find hL h hs) (fun x k c h => sub_none hL h) 9 (fold n) [fold n] [] rfl (by simp) he
      (fun s hs => List.mem_append.2 (.inl hs)) (fun s hs => List.mem_append.2 (.inr hs))
  · rw [if_neg hm] at he; cases he
theorem soa_sub {l : List RecD} {here : List UInt8} {cls : Int} {s : SetD} (h : (soaFind (groupR l) here cls).set = some s) : soaFind (groupR (subL [s])) here cls = ⟨some s, 0⟩ := by
  obtain ⟨h1, h2, h3⟩ := soa_mem h
  have e : groupR (subL [s]) = [s] := by
    refine rise_ext (group_rise _) (by unfold RiseS; simp) (fun x => ?_)
    rw [sub_mem (l := l) (fun t ht => by rw [List.mem_singleton] at ht; subst ht; exact h1)]
  rw [e]
  have hb : bestTo [s] here cls 1 = some (0, s) := by
    show (if fitsB here cls s then some (0, s) else none) = _
    rw [if_pos h2]
  show soaOf (bestTo [s] here cls 1) = _
  rw [hb]
  exact if_pos h3
theorem soa_shape (l : List SetD) (n : List UInt8) (cls : Int) (h : (soaFind l n cls).err = 0) : soaFind l n cls = ⟨(soaFind l n cls).set, 0⟩ := by
  rcases hs : soaFind l n cls with ⟨a, b⟩
  rw [hs] at h
  dsimp only at h ⊢
  rw [h]
/-- The verdict of a reply that is no ServFail is that of all records, and there is one. -/
theorem res_vote {l : List RecD} {n : List UInt8} {ty cls : Int} (hm : may n = true) (h : (rlookOf (groupR l) n ty cls).code ≠ 2) :
    verOf n ty cls (rlookOf (groupR l) n ty cls).code ((rlookOf (groupR l) n ty cls).ans.flatMap recsOf) ((rlookOf (groupR l) n ty cls).auth.flatMap recsOf) = verOf n ty cls (rlookOf (groupR l) n ty cls).code l l ∧
    (verOf n ty cls (rlookOf (groupR l) n ty cls).code l l).err = 0 := by
  have hcode := (rlook_ok l n ty cls).code
  have hc : may n = true ∧ ((rlookOf (groupR l) n ty cls).code = 0 ∨ (rlookOf (groupR l) n ty cls).code = 3) := ⟨hm, by rcases hcode with h1 | h1 | h1; exact .inl h1; exact absurd h1 h; exact .inr h1⟩
  have he : (followOf n ty cls (groupR l)).err = 0 := by
    unfold rlookOf rlookF at h
    by_cases he : (followOf n ty cls (groupR l)).err = 0
    · exact he
    · rw [if_neg he] at h; exact absurd rfl h
  have hsub := follow_subL he
  unfold verOf
  rw [if_pos hc, if_pos hc]
  clear hc hcode
  unfold rlookOf rlookF at h ⊢
  generalize hF : followOf n ty cls (groupR l) = F at *
  rw [if_pos he] at h ⊢
  by_cases hf : F.fin = []
  · rw [if_pos hf] at h ⊢
    by_cases hs : (soaFind (groupR l) F.here cls).err = 0
    · rw [if_pos hs] at h ⊢
      dsimp only at h ⊢
      have e1 : F.path.flatMap recsOf = subL (F.path ++ F.fin) := by rw [hf, List.append_nil]; rfl
      rw [e1, hsub]
      have e2 : soaFind (groupR ((soaFind (groupR l) F.here cls).set.toList.flatMap recsOf)) F.here cls = soaFind (groupR l) F.here cls := by
        rcases hset : (soaFind (groupR l) F.here cls).set with _ | s
        · have h1 := soa_shape _ _ _ hs
          rw [h1, hset]; rfl
        · have h1 := soa_shape _ _ _ hs
          rw [h1, hset]
          exact soa_sub hset
      unfold verFol
      rw [if_pos he, if_pos he, if_pos hf, if_pos hf, e2]
      refine ⟨rfl, ?_⟩
      unfold verSoa
      rw [if_pos hs]
      rcases (soaFind (groupR l) F.here cls).set with _ | s <;> rfl
    · rw [if_neg hs] at h; exact absurd rfl h
  · rw [if_neg hf] at h ⊢
    dsimp only at h ⊢
    have e1 : (F.path ++ F.fin).flatMap recsOf = subL (F.path ++ F.fin) := rfl
    rw [e1, hsub]
    unfold verFol
    rw [if_pos he, if_pos he, if_neg hf, if_neg hf]
    exact ⟨rfl, rfl⟩
end Go.Proofs.YtbmjfjgfognimaaGreatDoor
namespace Go.Proofs.YtbmjfjgfognimaaGreatDoor
set_option linter.unusedSimpArgs false
set_option linter.unusedVariables false
open Go.RowKit
set_option maxRecDepth 100000

theorem query_dec30 {n : List UInt8} {ty cls id size : Int} (ht : 0 ≤ ty ∧ ty ≤ 65535) (hc : 0 ≤ cls ∧ cls ≤ 65535) (hi : 0 ≤ id ∧ id ≤ 65535) (h : queryErr n ty cls id size = 0) :
    may n = true ∧ decR (queryOf n ty cls id size) = .ok (queryM n ty cls id size) ∧ (queryOf n ty cls id size).length ≤ 65535 := by
  unfold queryErr at h
  unfold queryOf
  by_cases hm : queryMay n size
  · rw [if_pos hm] at h ⊢
    refine ⟨hm.1, dec_enc (queryM_wf ht hc hi hm.2) h, ?_⟩
    rw [(enc_may h).2.2]; exact (enc_may h).2.1
  · rw [if_neg hm] at h; cases h
end Go.Proofs.YtbmjfjgfognimaaGreatDoor
namespace Go.Proofs.YtbmjfjgfognimaaGreatDoor
set_option linter.unusedSimpArgs false
set_option linter.unusedVariables false

def dataN30 (l : List SetD) : Nat := (l.map fun s => s.data.length).sum
theorem dataN30_append (l m : List SetD) : dataN30 (l ++ m) = dataN30 l + dataN30 m := by simp [dataN30]
theorem dataN30_modify : ∀ (l : List SetD) (i : Nat) (f : SetD → SetD) (hf : ∀ s, (f s).data.length ≤ s.data.length + 1), dataN30 (l.modify i f) ≤ dataN30 l + 1
  | [], i, f, hf => by simp [dataN30]
  | a :: l, 0, f, hf => by have := hf a; simp [dataN30]; omega
  | a :: l, i + 1, f, hf => by have := dataN30_modify l i f hf; simp [dataN30] at this ⊢; omega
theorem dataN30_add (L : List SetD) (x : RecD) : dataN30 (addR L x) ≤ dataN30 L + 1 := by
  unfold addR
  split
  · split
    · rw [dataN30_append]; simp [dataN30]
    · exact dataN30_modify _ _ _ fun s => by unfold updS; exact putS_len _ _
  · omega
theorem dataN30_to (l : List RecD) : ∀ k, k ≤ l.length → dataN30 (groupTo l k) ≤ k
  | 0, _ => by simp [groupTo, dataN30]
  | k + 1, h => by rw [groupTo_step l k (by omega)]; have := dataN30_to l k (by omega); have := dataN30_add (groupTo l k) l[k]; omega
theorem dataN30_group (l : List RecD) : dataN30 (groupR l) ≤ l.length := by
  have h1 : dataN30 (groupR l) = dataN30 (groupTo l l.length) := by unfold dataN30; exact ((group_perm l).1.map _).sum_nat
  rw [h1]; exact dataN30_to l l.length (Nat.le_refl _)
theorem recsOf_len30 (s : SetD) : (recsOf s).length = s.data.length := by simp [recsOf]
theorem flat_len30 (l : List SetD) : (l.flatMap recsOf).length = dataN30 l := by
  induction l with
  | nil => rfl
  | cons a l ih => simp [dataN30, recsOf_len30] at ih ⊢; (try omega)
theorem in_flat30 {L : List SetD} {s : SetD} (h : s ∈ L) : s.data.length ≤ (L.flatMap recsOf).length := by
  induction L with
  | nil => cases h
  | cons a L ih =>
    rw [List.flatMap_cons, List.length_append]
    rcases List.mem_cons.1 h with rfl | h
    · rw [recsOf_len30]; omega
    · have := ih h; omega
theorem group_lens30 (l : List RecD) : (groupR l).length ≤ l.length ∧ (∀ s ∈ groupR l, s.data.length ≤ l.length) ∧ ((groupR l).flatMap recsOf).length ≤ l.length := by
  have h1 := groupTo_len l l.length (Nat.le_refl _)
  have h2 := (group_perm l).1.length_eq
  have h3 : ((groupR l).flatMap recsOf).length ≤ l.length := by rw [flat_len30]; exact dataN30_group l
  exact ⟨by omega, fun s hs => Nat.le_trans (in_flat30 hs) h3, h3⟩
end Go.Proofs.YtbmjfjgfognimaaGreatDoor
namespace Go.Proofs.YtbmjfjgfognimaaGreatDoor
set_option linter.unusedSimpArgs false
set_option linter.unusedVariables false
open Go.RowKit
set_option maxRecDepth 100000

/-- The error of the chain, or of the SOA set, of a question. -/
def badR (L : List SetD) (n : List UInt8) (ty cls : Int) : Nat :=
  if (followOf n ty cls L).err = 0 ∧ (followOf n ty cls L).fin = [] then (soaFind L (followOf n ty cls L).here cls).err else (followOf n ty cls L).err
theorem bad_code (L : List SetD) (n : List UInt8) (ty cls : Int) : (rlookOf L n ty cls).code = 2 ↔ badR L n ty cls ≠ 0 := by
  unfold badR rlookOf rlookF
  generalize followOf n ty cls L = F
  obtain ⟨path, here, fin, err⟩ := F
  dsimp only
  by_cases h0 : err = 0
  · subst h0
    by_cases h1 : fin = []
    · subst h1
      by_cases h2 : (soaFind L here cls).err = 0
      · cases hb : thereB L here cls <;> simp [h2, hb]
      · simp [h2]
    · simp [h1]
  · simp [h0]
theorem same_fold {n : List UInt8} (h : may n = true) : sameN (fold n) n = true := by
  have h1 := fold_may h
  unfold sameN
  rw [h1.1, h, h1.2, fold_of_may h]
  simp
theorem fol_in30 {l : List RecD} {n : List UInt8} {ty cls : Int} {R : ResR} (hR : R = rlookOf (groupR l) n ty cls) (hl : l.length ≤ 80) : (R.ans.flatMap recsOf).length ≤ 4096 ∧ (R.auth.flatMap recsOf).length ≤ 4096 := by
  have ho := rlook_ok l n ty cls
  rw [← hR] at ho
  have hg := (group_lens30 l).2.1
  have h1 := recs_lenR 80 R.ans (fun s hs => by have := hg s (ho.ans s hs); omega)
  have h2 := recs_lenR 80 R.auth (fun s hs => by have := hg s (ho.auth s hs); omega)
  have h3 := ho.alen
  have h4 := ho.ulen
  generalize R.ans.length = a at *
  generalize R.auth.length = b at *
  have : a * 80 ≤ 9 * 80 := Nat.mul_le_mul_right _ h3
  have : b * 80 ≤ 1 * 80 := Nat.mul_le_mul_right _ h4
  omega
theorem vote_read {l : List RecD} (hwf : ∀ r ∈ l, r.wf) (hl : l.length ≤ 80) {n : List UInt8} {ty cls id size : Int} (ht : 0 ≤ ty ∧ ty ≤ 65535) (hc : 0 ≤ cls ∧ cls ≤ 65535) (hi : 0 ≤ id ∧ id ≤ 65535) (hz : 0 ≤ size ∧ size ≤ 65535)
    (hm : may n = true) (hd : decR (queryOf n ty cls id size) = .ok (queryM n ty cls id size)) :
    ∃ m : MsgD, decR (resOf (groupR l) (queryOf n ty cls id size)) = .ok m ∧ (resOf (groupR l) (queryOf n ty cls id size)).length ≤ 65536 ∧ m.hd.id = id ∧ m.hd.code = (rlookOf (groupR l) n ty cls).code ∧ (m.ans.length ≤ 4096 ∧ m.auth.length ≤ 4096) ∧
      ((m.hd.tc = true ∨ m.hd.code = 2) → replyOf (resOf (groupR l) (queryOf n ty cls id size)) n ty cls = .pass) ∧
      (¬ (m.hd.tc = true ∨ m.hd.code = 2) → replyOf (resOf (groupR l) (queryOf n ty cls id size)) n ty cls = ⟨3, verOf n ty cls m.hd.code l l⟩ ∧ (verOf n ty cls m.hd.code l l).err = 0) := by
  have e : resOf (groupR l) (queryOf n ty cls id size) = resBy (queryM n ty cls id size) (rlookOf (groupR l) n ty cls) := by
    unfold resOf
    rw [hd]
    show (if (false = false ∧ (0 : Int) = 0) then resBy (queryM n ty cls id size) (rlookOf (groupR l) (fold n) ty cls) else []) = _
    rw [if_pos ⟨rfl, rfl⟩, rlook_fold]
  have hvote := fun h => res_vote (l := l) (n := n) (ty := ty) (cls := cls) hm h
  have hcd := (rlook_ok l n ty cls).code
  have hlen := fol_in30 (R := rlookOf (groupR l) n ty cls) rfl hl
  have hroom : resRoom (queryM n ty cls id size) ≤ 65535 := by
    unfold resRoom
    split
    · exact hz.2
    · decide
  have key : ∀ (tc : Bool) (ans auth : List RecD), (tc = false → ans = (rlookOf (groupR l) n ty cls).ans.flatMap recsOf ∧ auth = (rlookOf (groupR l) n ty cls).auth.flatMap recsOf) → ∀ m : MsgD, m = resMsg (queryM n ty cls id size) tc (rlookOf (groupR l) n ty cls).code ans auth → decR (resOf (groupR l) (queryOf n ty cls id size)) = .ok m →
      ((m.hd.tc = true ∨ m.hd.code = 2) → replyOf (resOf (groupR l) (queryOf n ty cls id size)) n ty cls = .pass) ∧
      (¬ (m.hd.tc = true ∨ m.hd.code = 2) → replyOf (resOf (groupR l) (queryOf n ty cls id size)) n ty cls = ⟨3, verOf n ty cls m.hd.code l l⟩ ∧ (verOf n ty cls m.hd.code l l).err = 0) := by
    intro tc ans auth htc m hmm hdm
    have h1 : replyOf (resOf (groupR l) (queryOf n ty cls id size)) n ty cls = replyM m n ty cls := by unfold replyOf; rw [hdm]
    have hq : m.hd.qr = true ∧ m.hd.op = 0 ∧ asksB m n ty cls = true := by
      subst hmm
      refine ⟨rfl, rfl, ?_⟩
      show (sameN (fold n) n && (decide (ty = ty) && decide (cls = cls))) = true
      rw [same_fold hm]; simp
    have hcode : m.hd.code = (rlookOf (groupR l) n ty cls).code := by subst hmm; rfl
    have h12 : code12 m = m.hd.code := by
      have e1 : code12 m = m.hd.code % 16 := by
        subst hmm
        show ((if true = true then 0 else 0) : Int) * 16 + _ = _
        simp
      rw [e1, hcode]
      rcases hcd with h | h | h <;> rw [h] <;> rfl
    rw [h1]
    unfold replyM
    rw [if_pos hq, h12]
    constructor
    · rintro (h | h)
      · rw [if_pos (.inl h)]
      · rw [if_pos (.inr (by rw [h]; decide))]
    · intro h
      have h2 : ¬ m.hd.code = 2 := fun e => h (.inr e)
      have h3 : m.hd.tc = false := by cases ht : m.hd.tc; rfl; exact absurd (.inl ht) h
      have hte : tc = false := by rw [← h3]; subst hmm; rfl
      have hc03 : ¬ (m.hd.code ≠ 0 ∧ m.hd.code ≠ 3) := by
        rw [hcode] at h2 ⊢
        rcases hcd with h' | h' | h'
        · exact fun x => x.1 h'
        · exact absurd h' h2
        · exact fun x => x.2 h'
      rw [if_neg (fun x => x.elim (fun y => by rw [h3] at y; cases y) hc03)]
      have hv := hvote (by rw [← hcode]; exact h2)
      obtain ⟨ha, hu⟩ := htc hte
      have e4 : verOf n ty cls m.hd.code m.ans m.auth = verOf n ty cls m.hd.code l l := by
        rw [hcode, ← hv.1]
        subst hmm
        show verOf n ty cls _ ans auth = _
        rw [ha, hu]
      rw [e4, hcode, if_pos hv.2]
      exact ⟨rfl, hv.2⟩
  rcases res_read hwf (queryM_wf (n := n) (size := size) ht hc hi hz) (x := ⟨fold n, ty, cls⟩) rfl (fold_may hm).1 (rlook_ok l n ty cls) with ⟨e1, e2, e3, e4⟩ | ⟨e1, _, _, e3, e4⟩
  · rw [← e] at e1 e4
    have hk := key false _ _ (fun _ => ⟨rfl, rfl⟩) _ rfl e4
    refine ⟨_, e4, ?_, rfl, rfl, hlen, hk.1, hk.2⟩
    rw [e1]; omega
  · rw [← e] at e1 e4
    have hk := key true [] [] (fun h => by cases h) _ rfl e4
    refine ⟨_, e4, ?_, rfl, rfl, ⟨by simp [resCut, resMsg], by simp [resCut, resMsg]⟩, hk.1, hk.2⟩
    rw [e1]; omega
end Go.Proofs.YtbmjfjgfognimaaGreatDoor
namespace Go.Proofs.YtbmjfjgfognimaaGreatDoor
set_option linter.unusedSimpArgs false
set_option linter.unusedVariables false
open Go.RowKit
set_option maxRecDepth 100000
end Go.Proofs.YtbmjfjgfognimaaGreatDoor
namespace Go.Proofs.YtbmjfjgfognimaaGreatDoor
set_option linter.unusedSimpArgs false
set_option linter.unusedVariables false
open Go.RowKit
set_option maxRecDepth 100000

set_option maxHeartbeats 8000000 in
theorem heard_read_g (d n : List UInt8) (ty cls : Int) (a b : Addr) (w : World) (hg : Laid w) (hb : BitsAt w) (he : ErrsAt w a b) (hd : d.length ≤ 1048576) (hfw : ∀ m, decR d = .ok m → m.ans.length ≤ 4096 ∧ m.auth.length ≤ 4096) (hn : n.length ≤ 1048576) :
    Calls Tryz.prog 92 #[.agg #[S n, .int .u16 ty, .int .u16 cls], S d] w (ReadH (replyOf d n ty cls) a b w) := by
  obtain ⟨X1, hX1⟩ : ∃ X1, X1 = w.alloc (.cells #[S n, .int .u16 ty, .int .u16 cls] 32) := ⟨_, rfl⟩
  obtain ⟨X0, hX0⟩ : ∃ X0, X0 = X1.alloc (.cells #[.int .u8 0, .slice none 0 0, .slice none 0 0] 24) := ⟨_, rfl⟩
  obtain ⟨g1, hg1⟩ : ∃ g1, g1 = X1.heap.size := ⟨_, rfl⟩
  have r1 : X1.heap[w.heap.size]? = some (.cells #[S n, .int .u16 ty, .int .u16 cls] 32) := by rw [hX1]; exact heap_alloc_new _ _
  have r0 : X0.heap[g1]? = some (.cells #[.int .u8 0, .slice none 0 0, .slice none 0 0] 24) := by rw [hX0, hg1]; exact heap_alloc_new _ _
  have hE01 : Ext X1 X0 := by rw [hX0]; exact (Ext.refl _).alloc _
  have hE0 : Ext w X0 := Ext.trans (by rw [hX1]; exact (Ext.refl _).alloc _) hE01
  have r10 := (hE01.block _ (Array.getElem?_eq_some_iff.1 r1).1).trans r1
  have hsz : w.heap.size + 1 = g1 := by rw [hg1, hX1]; simp
  have hgw : w.heap.size ≤ g1 := by omega
  have HSz := Lib.hid hsz
  have HD := Lib.hid (wire_decode d X0 (hg.ext hE0) (hb.ext hE0) (by omega))
  clear hsz
  go_enter Tryz.func92, Tryz.ntmps92
  go_upto_region 1 with fail
  rw [← hX1, ← hX0]
  have e1 : (w.heap.size + 1) = g1 := HSz.out
  try rw [e1]
  try rw [← hg1]
  clear e1 hX1 hX0 hg1 hE01
  have HEr := Lib.hid (fun V (hV : Ext w V) => he.ext hV)
  go_wp2_with fail
  refine HD.out.mono ?_
  rintro e Y ⟨hor, hEd⟩
  rcases hor with ⟨k, hk, hx, rfl⟩ | ⟨m, q, a', u, x, o, hm, rfl, hMO, hBd⟩
  · have hR := Lib.hid (show replyOf d n ty cls = .bad from by unfold replyOf; rw [hx])
    have hk1 : ((k : Int) == 0) = false := by rw [beq_eq_false_iff_ne]; omega
    clear hx hk
    generalize (k : Int) = z at *
    have hk2 : ¬ z = 0 := by rw [beq_eq_false_iff_ne] at hk1; exact hk1
    have hk3 : decide (z = 0) = false := decide_eq_false hk2
    dsimp only
    iterate 10 go_step
    obtain ⟨g7, hg7⟩ : ∃ g7, g7 = Y.heap.size := ⟨_, rfl⟩
    have hz : (Y.alloc (.cells msgZ 45)).heap[g7]? = some (.cells msgZ 45) := by rw [hg7]; exact heap_alloc_new _ _
    refine Go.Great.wpList_allocTo rfl (some 7) rfl (.pointer (some ⟨Y.heap.size, 0, none⟩)) (.cells msgZ 45) (by kernel_rfl) ?_
    rw [← hg7]
    refine Go.wpList_store_rowTo rfl 45 (.tmp 7) (.tmp 15) rfl rfl g7 msgZ rfl rfl 45 _ hz (by kernel_rfl) rfl (by kernel_rfl) ?_
    rw [alloc_setRowH Y msgZ msgZ 45 g7 hg7]
    iterate 3 go_step
    refine wpList_nil ?_
    rw [← hg7]
    have r7 : (Y.alloc (.cells msgZ 45)).heap[g7]? = some (.cells msgZ 45) := by rw [hg7]; exact heap_alloc_new _ _
    have hEY : Ext Y (Y.alloc (.cells msgZ 45)) := (Ext.refl _).alloc _
    have hg7s : Y.heap.size ≤ g7 := by rw [hg7]; exact Nat.le_refl _
    obtain ⟨Z, hZ⟩ : ∃ Z, Z = Y.alloc (.cells msgZ 45) := ⟨_, rfl⟩
    rw [← hZ] at r7 hEY ⊢
    have hEZ : Ext X0 Z := hEd.trans hEY
    clear hZ hz hg7
    have rr := (hEZ.block _ (Array.getElem?_eq_some_iff.1 r0).1).trans r0
    have y0 := box_cell (j := 0) rr rfl
    have y1 := box_cell (j := 1) rr rfl
    have y2 := box_cell (j := 2) rr rfl
    have f0 := box_free (j := 0) rr
    have f1 := box_free (j := 1) rr
    have f2 := box_free (j := 2) rr
    have eb := (HEr.out Z (hE0.trans hEZ)).bad
    have ep := (HEr.out Z (hE0.trans hEZ)).pass
    have hg1eb : 0 < g1 := Nat.lt_of_lt_of_le (cell_lt he.bad) hgw
    have hg1ep : 1 < g1 := Nat.lt_of_lt_of_le (cell_lt he.pass) hgw
    go_upto_region 3 with fail
    have hS : Z.drew.cell? ⟨0, 0, none⟩ = some (errV a) := eb
    refine wp_region_noPanic ?_
    refine wp_region_tree (S := (fun V => V.cell? ⟨0, 0, none⟩ = some (errV a))) (.take 0 (.take 1 (.run 2 (.take 3 (.take 4 (.done)))))) (by kernel_rfl) (by kernel_rfl) (fun _ _ _ _ _ h => h) (hS) ?_
    repeat ((with_reducible refine treeIs ?_); first
      | (refine treeTakeX (a' := ?_) ⟨_, hS⟩ (by rfl) rfl (by kernel_rfl) rfl ?_ ?_; rotate_left; (focus (intro V Q' hV hq; (repeat (first | go_guarded | go_skip | go_step)); (first | exact hq | exact wpList_nil hq)))))
    refine treeRun (by rfl) (fun K hK => ?_)
    go_simp
    refine hK.out _ _ ?_ ?_
    · exact cell3 eb (Nat.ne_of_lt hg1eb)
    clear hK K
    (try simp only [Act.put, List.setIfInBounds_toArray, List.set_cons_zero, List.set_cons_succ])
    repeat ((with_reducible refine treeIs ?_); first
      | (refine treeTakeX (a' := ?_) ⟨_, hS⟩ (by rfl) rfl (by kernel_rfl) rfl ?_ ?_; rotate_left; (focus (intro V Q' hV hq; (repeat (first | go_guarded | go_skip | go_step)); (first | exact hq | exact wpList_nil hq)))))
    refine treeDone ?_
    refine NoPanic.normal ?_
    obtain ⟨U, hU⟩ : ∃ U, U = (((Z.setCell ⟨g1, 0, none⟩ (.int .u8 0)).setCell ⟨g1, 1, none⟩ (.slice none 0 0)).setCell ⟨g1, 2, none⟩ (.slice none 0 0)).drew := ⟨_, rfl⟩
    rw [← hU]
    have ru : U.heap[g1]? = some (.cells #[.int .u8 0, .slice none 0 0, .slice none 0 0] 24) := by rw [hU]; exact row_set (row_set (row_set rr 0 _) 1 _) 2 _
    have hEU : Ext w U := by rw [hU]; exact ((((hE0.trans hEZ).setCell hgw _).setCell hgw _).setCell hgw _).drew
    have u0 := box_cell (j := 0) ru rfl
    have u1 := box_cell (j := 1) ru rfl
    have u2 := box_cell (j := 2) ru rfl
    clear hU rr y0 y1 y2 f0 f1 f2
    go_wp2_with fail
    refine bodyPost_ret (results_rowH rfl _ _ g1 _ _ _ _ rfl ru Tryz.underlying24 rfl (by kernel_rfl)) rfl ?_
    show ReadH (replyOf d n ty cls) a b w (.returned (.tuple #[.agg #[.int .u8 0, .slice none 0 0, .slice none 0 0], .int .u32 0, errV a])) U
    rw [hR.out]
    exact readH_bad hEU
  · have hR := Lib.hid (show replyOf d n ty cls = replyM m n ty cls from by unfold replyOf; rw [hm])
    obtain ⟨d1, -, -, -, -, d6⟩ := decR_ok hm
    have hcl := dec_code hm
    obtain ⟨hfew1, hfew2⟩ := hfw m hm
    obtain ⟨hsh1, hsh2⟩ := dec_short hm
    have HMO := Lib.hid hMO
    have HBd := Lib.hid hBd
    obtain ⟨⟨qA, qc, rfl, _⟩, ⟨aA, ac, rfl, _⟩, ⟨uA, uc, rfl, _⟩, ⟨xA, xc, rfl, _⟩, ⟨oA, oc, rfl, _⟩⟩ := hMO
    clear hm
    dsimp only
    iterate 10 go_step
    obtain ⟨g7, hg7⟩ : ∃ g7, g7 = Y.heap.size := ⟨_, rfl⟩
    have hz : (Y.alloc (.cells msgZ 45)).heap[g7]? = some (.cells msgZ 45) := by rw [hg7]; exact heap_alloc_new _ _
    refine Go.Great.wpList_allocTo rfl (some 7) rfl (.pointer (some ⟨Y.heap.size, 0, none⟩)) (.cells msgZ 45) (by kernel_rfl) ?_
    rw [← hg7]
    refine Go.wpList_store_rowTo rfl 45 (.tmp 7) (.tmp 15) rfl rfl g7 #[.int .u16 m.hd.id, .bool m.hd.qr, .int .u8 m.hd.op, .bool m.hd.aa, .bool m.hd.tc, .bool m.hd.rd, .bool m.hd.ra, .bool m.hd.z, .bool m.hd.ad, .bool m.hd.cd, .int .u8 m.hd.code, .slice qA m.qs.length qc, .slice aA m.ans.length ac, .slice uA m.auth.length uc, .slice xA m.extra.length xc, .bool m.he, .int .u16 m.ed.size, .int .u8 m.ed.ext, .int .u8 m.ed.ver, .int .u16 m.ed.flags, .slice oA m.ed.opts.length oc] rfl rfl 45 _ hz (by kernel_rfl) rfl (by kernel_rfl) ?_
    rw [alloc_setRowH Y msgZ #[.int .u16 m.hd.id, .bool m.hd.qr, .int .u8 m.hd.op, .bool m.hd.aa, .bool m.hd.tc, .bool m.hd.rd, .bool m.hd.ra, .bool m.hd.z, .bool m.hd.ad, .bool m.hd.cd, .int .u8 m.hd.code, .slice qA m.qs.length qc, .slice aA m.ans.length ac, .slice uA m.auth.length uc, .slice xA m.extra.length xc, .bool m.he, .int .u16 m.ed.size, .int .u8 m.ed.ext, .int .u8 m.ed.ver, .int .u16 m.ed.flags, .slice oA m.ed.opts.length oc] 45 g7 hg7]
    iterate 3 go_step
    refine wpList_nil ?_
    rw [← hg7]
    have r7 : (Y.alloc (.cells #[.int .u16 m.hd.id, .bool m.hd.qr, .int .u8 m.hd.op, .bool m.hd.aa, .bool m.hd.tc, .bool m.hd.rd, .bool m.hd.ra, .bool m.hd.z, .bool m.hd.ad, .bool m.hd.cd, .int .u8 m.hd.code, .slice qA m.qs.length qc, .slice aA m.ans.length ac, .slice uA m.auth.length uc, .slice xA m.extra.length xc, .bool m.he, .int .u16 m.ed.size, .int .u8 m.ed.ext, .int .u8 m.ed.ver, .int .u16 m.ed.flags, .slice oA m.ed.opts.length oc] 45)).heap[g7]? = some (.cells #[.int .u16 m.hd.id, .bool m.hd.qr, .int .u8 m.hd.op, .bool m.hd.aa, .bool m.hd.tc, .bool m.hd.rd, .bool m.hd.ra, .bool m.hd.z, .bool m.hd.ad, .bool m.hd.cd, .int .u8 m.hd.code, .slice qA m.qs.length qc, .slice aA m.ans.length ac, .slice uA m.auth.length uc, .slice xA m.extra.length xc, .bool m.he, .int .u16 m.ed.size, .int .u8 m.ed.ext, .int .u8 m.ed.ver, .int .u16 m.ed.flags, .slice oA m.ed.opts.length oc] 45) := by rw [hg7]; exact heap_alloc_new _ _
    have hEY : Ext Y (Y.alloc (.cells #[.int .u16 m.hd.id, .bool m.hd.qr, .int .u8 m.hd.op, .bool m.hd.aa, .bool m.hd.tc, .bool m.hd.rd, .bool m.hd.ra, .bool m.hd.z, .bool m.hd.ad, .bool m.hd.cd, .int .u8 m.hd.code, .slice qA m.qs.length qc, .slice aA m.ans.length ac, .slice uA m.auth.length uc, .slice xA m.extra.length xc, .bool m.he, .int .u16 m.ed.size, .int .u8 m.ed.ext, .int .u8 m.ed.ver, .int .u16 m.ed.flags, .slice oA m.ed.opts.length oc] 45)) := (Ext.refl _).alloc _
    have hg7s : Y.heap.size ≤ g7 := by rw [hg7]; exact Nat.le_refl _
    obtain ⟨Z, hZ⟩ : ∃ Z, Z = Y.alloc (.cells #[.int .u16 m.hd.id, .bool m.hd.qr, .int .u8 m.hd.op, .bool m.hd.aa, .bool m.hd.tc, .bool m.hd.rd, .bool m.hd.ra, .bool m.hd.z, .bool m.hd.ad, .bool m.hd.cd, .int .u8 m.hd.code, .slice qA m.qs.length qc, .slice aA m.ans.length ac, .slice uA m.auth.length uc, .slice xA m.extra.length xc, .bool m.he, .int .u16 m.ed.size, .int .u8 m.ed.ext, .int .u8 m.ed.ver, .int .u16 m.ed.flags, .slice oA m.ed.opts.length oc] 45) := ⟨_, rfl⟩
    rw [← hZ] at r7 hEY ⊢
    have hEZ : Ext X0 Z := hEd.trans hEY
    clear hZ hz hg7
    have rr := (hEZ.block _ (Array.getElem?_eq_some_iff.1 r0).1).trans r0
    have y0 := box_cell (j := 0) rr rfl
    have y1 := box_cell (j := 1) rr rfl
    have y2 := box_cell (j := 2) rr rfl
    have f0 := box_free (j := 0) rr
    have f1 := box_free (j := 1) rr
    have f2 := box_free (j := 2) rr
    have eb := (HEr.out Z (hE0.trans hEZ)).bad
    have ep := (HEr.out Z (hE0.trans hEZ)).pass
    have hg1eb : 0 < g1 := Nat.lt_of_lt_of_le (cell_lt he.bad) hgw
    have hg1ep : 1 < g1 := Nat.lt_of_lt_of_le (cell_lt he.pass) hgw
    have r1q := (hEZ.block _ (Array.getElem?_eq_some_iff.1 r10).1).trans r10
    have k0 := box_cell (j := 0) r1q rfl
    have k1 := box_cell (j := 1) r1q rfl
    have k2 := box_cell (j := 2) r1q rfl
    have HAs := Lib.hid (fun V (hV : Ext Z V) => heard_asks m (.slice qA m.qs.length qc) (.slice aA m.ans.length ac) (.slice uA m.auth.length uc) (.slice xA m.extra.length xc) (.slice oA m.ed.opts.length oc) n ty cls V (by
      obtain ⟨A, c, e, ho⟩ := HMO.out.qs
      exact Qus.ext ⟨A, c, e, ho.cap.1, ho.cap.2, ho.rd.lower (Nat.zero_le _)⟩ (hEY.trans hV)) (by unfold maxLen; omega) HBd.out.qok)
    have HCd := Lib.hid (fun V => heard_code m (.slice qA m.qs.length qc) (.slice aA m.ans.length ac) (.slice uA m.auth.length uc) (.slice xA m.extra.length xc) (.slice oA m.ed.opts.length oc) V d1 hcl)
    have HVo := Lib.hid (fun V (hV : Ext Z V) => ver_of (xOf m qA xA oA qc xc oc) n ty cls m.hd.code 0 aA ac uA uc m.ans m.auth V (hg.ext ((hE0.trans hEZ).trans hV)) ((HMO.out.ans.recs.lower (Nat.zero_le _)).ext (hEY.trans hV)) ((HMO.out.auth.recs.lower (Nat.zero_le _)).ext (hEY.trans hV)) ⟨by omega, hsh1⟩ ⟨by omega, hsh2⟩ (fun r hr => ⟨(d1.ans r hr).1, (d1.ans r hr).2.1⟩) (fun r hr => ⟨(d1.auth r hr).1, (d1.auth r hr).2.1⟩) hn)
    have z1 := box_cell (j := 1) r7 rfl
    have z2 := box_cell (j := 2) r7 rfl
    by_cases hits : m.hd.qr = true ∧ m.hd.op = 0 ∧ asksB m n ty cls = true
    · have Hits := Lib.hid hits
      obtain ⟨i1, i2, i3⟩ := hits
      rw [i1] at z1
      rw [i2] at z2
      rw [i3] at HAs
      have hits := Hits
      clear i1 i2 i3 Hits
      go_upto_region 4 with (first | (refine wpList_load_part (by rfl) 45 (.tmp 7) rfl g7 0 rfl [.int .u16 m.hd.id, .bool m.hd.qr, .int .u8 m.hd.op, .bool m.hd.aa, .bool m.hd.tc, .bool m.hd.rd, .bool m.hd.ra, .bool m.hd.z, .bool m.hd.ad, .bool m.hd.cd, .int .u8 m.hd.code, .slice qA m.qs.length qc, .slice aA m.ans.length ac, .slice uA m.auth.length uc, .slice xA m.extra.length xc, .bool m.he, .int .u16 m.ed.size, .int .u8 m.ed.ext, .int .u8 m.ed.ver, .int .u16 m.ed.flags, .slice oA m.ed.opts.length oc] (row_all r7) _ Tryz.underlying45 rfl (by kernel_rfl) ?_) | (go_at_call 163; refine (HAs.out _ (Ext.refl _)).mono ?_; rintro e W1 ⟨rfl, hE1⟩) | fail)
      have r71 := (hE1.block _ (Array.getElem?_eq_some_iff.1 r7).1).trans r7
      go_upto_region 5 with (first | (refine wpList_load_part (by rfl) 45 (.tmp 7) rfl g7 0 rfl [.int .u16 m.hd.id, .bool m.hd.qr, .int .u8 m.hd.op, .bool m.hd.aa, .bool m.hd.tc, .bool m.hd.rd, .bool m.hd.ra, .bool m.hd.z, .bool m.hd.ad, .bool m.hd.cd, .int .u8 m.hd.code, .slice qA m.qs.length qc, .slice aA m.ans.length ac, .slice uA m.auth.length uc, .slice xA m.extra.length xc, .bool m.he, .int .u16 m.ed.size, .int .u8 m.ed.ext, .int .u8 m.ed.ver, .int .u16 m.ed.flags, .slice oA m.ed.opts.length oc] (row_all r71) _ Tryz.underlying45 rfl (by kernel_rfl) ?_) | (go_at_call 164; refine (HCd.out _).mono ?_; rintro e W2 ⟨rfl, hE2⟩) | fail)
      have hEZ2 : Ext Z W2 := hE1.trans hE2
      have hEZ : Ext X0 W2 := hEZ.trans hEZ2
      clear y0 y1 y2 f0 f1 f2 k0 k1 k2 eb ep r71 z1 z2
      have rr := ((hEZ2).block _ (Array.getElem?_eq_some_iff.1 rr).1).trans rr
      have r7 := ((hEZ2).block _ (Array.getElem?_eq_some_iff.1 r7).1).trans r7
      have r1q := ((hEZ2).block _ (Array.getElem?_eq_some_iff.1 r1q).1).trans r1q
      have y0 := box_cell (j := 0) rr rfl
      have y1 := box_cell (j := 1) rr rfl
      have y2 := box_cell (j := 2) rr rfl
      have f0 := box_free (j := 0) rr
      have f1 := box_free (j := 1) rr
      have f2 := box_free (j := 2) rr
      have k0 := box_cell (j := 0) r1q rfl
      have k1 := box_cell (j := 1) r1q rfl
      have k2 := box_cell (j := 2) r1q rfl
      have eb := (HEr.out W2 (hE0.trans hEZ)).bad
      have ep := (HEr.out W2 (hE0.trans hEZ)).pass
      have z4 := box_cell (j := 4) r7 rfl
      by_cases htc : m.hd.tc = true
      · rw [htc] at z4
        have hR := Lib.hid (hR.out.trans (replyM_pass hits.out (.inl htc)))
        clear htc
        go_upto_region 6 with fail
        have hS : W2.drew.cell? ⟨1, 0, none⟩ = some (errV b) := ep
        refine wp_region_noPanic ?_
        refine wp_region_tree (S := (fun V => V.cell? ⟨1, 0, none⟩ = some (errV b))) (.take 0 (.take 1 (.run 2 (.take 3 (.take 4 (.done)))))) (by kernel_rfl) (by kernel_rfl) (fun _ _ _ _ _ h => h) (hS) ?_
        repeat ((with_reducible refine treeIs ?_); first
          | (refine treeTakeX (a' := ?_) ⟨_, hS⟩ (by rfl) rfl (by kernel_rfl) rfl ?_ ?_; rotate_left; (focus (intro V Q' hV hq; (repeat (first | go_guarded | go_skip | go_step)); (first | exact hq | exact wpList_nil hq)))))
        refine treeRun (by rfl) (fun K hK => ?_)
        go_simp
        refine hK.out _ _ ?_ ?_
        · exact cell3 ep (Nat.ne_of_lt hg1ep)
        clear hK K
        (try simp only [Act.put, List.setIfInBounds_toArray, List.set_cons_zero, List.set_cons_succ])
        repeat ((with_reducible refine treeIs ?_); first
          | (refine treeTakeX (a' := ?_) ⟨_, hS⟩ (by rfl) rfl (by kernel_rfl) rfl ?_ ?_; rotate_left; (focus (intro V Q' hV hq; (repeat (first | go_guarded | go_skip | go_step)); (first | exact hq | exact wpList_nil hq)))))
        refine treeDone ?_
        refine NoPanic.normal ?_
        obtain ⟨U, hU⟩ : ∃ U, U = (((W2.setCell ⟨g1, 0, none⟩ (.int .u8 0)).setCell ⟨g1, 1, none⟩ (.slice none 0 0)).setCell ⟨g1, 2, none⟩ (.slice none 0 0)).drew := ⟨_, rfl⟩
        rw [← hU]
        have ru : U.heap[g1]? = some (.cells #[.int .u8 0, .slice none 0 0, .slice none 0 0] 24) := by rw [hU]; exact row_set (row_set (row_set rr 0 _) 1 _) 2 _
        have hEU : Ext w U := by rw [hU]; exact ((((hE0.trans hEZ).setCell hgw _).setCell hgw _).setCell hgw _).drew
        have u0 := box_cell (j := 0) ru rfl
        have u1 := box_cell (j := 1) ru rfl
        have u2 := box_cell (j := 2) ru rfl
        clear hU rr y0 y1 y2 f0 f1 f2
        go_wp2_with fail
        refine bodyPost_ret (results_rowH rfl _ _ g1 _ _ _ _ rfl ru Tryz.underlying24 rfl (by kernel_rfl)) rfl ?_
        show ReadH (replyOf d n ty cls) a b w (.returned (.tuple #[.agg #[.int .u8 0, .slice none 0 0, .slice none 0 0], .int .u32 0, errV b])) U
        rw [hR.out]
        exact readH_pass hEU
      have htf : m.hd.tc = false := by cases h : m.hd.tc; rfl; exact absurd h htc
      rw [htf] at z4
      by_cases hc0 : code12 m = 0
      · have hR := Lib.hid (hR.out.trans (replyM_vote hits.out htf (.inl hc0)))
        rw [hc0]
        clear hc0 htf htc
        go_upto_region 8 with (first | (refine wpList_load_part (by rfl) 45 (.tmp 7) rfl g7 0 rfl [.int .u16 m.hd.id, .bool m.hd.qr, .int .u8 m.hd.op, .bool m.hd.aa, .bool m.hd.tc, .bool m.hd.rd, .bool m.hd.ra, .bool m.hd.z, .bool m.hd.ad, .bool m.hd.cd, .int .u8 m.hd.code, .slice qA m.qs.length qc, .slice aA m.ans.length ac, .slice uA m.auth.length uc, .slice xA m.extra.length xc, .bool m.he, .int .u16 m.ed.size, .int .u8 m.ed.ext, .int .u8 m.ed.ver, .int .u16 m.ed.flags, .slice oA m.ed.opts.length oc] (row_all r7) _ Tryz.underlying45 rfl (by kernel_rfl) ?_) | (go_at_call 48; refine (HVo.out _ hEZ2).mono ?_; rintro e W3 ⟨vs, vo, rfl, hvs, hvo, hdj, hE3⟩; have HVs := Lib.hid hvs; have HVt := Lib.hid hvo; obtain ⟨ps, pA, pc, _, rfl, _, _⟩ := hvs; obtain ⟨po, tA, tc, _, rfl, _, _⟩ := hvo) | fail)
        have HV := Lib.hid (show ∃ R, R = verOf n ty cls m.hd.code m.ans m.auth from ⟨_, rfl⟩)
        obtain ⟨R, hRv⟩ := HV.out
        rw [← hRv] at hR HVs HVt ⊢
        clear hRv HV
        have hEZ3 : Ext X0 W3 := hEZ.trans hE3
        by_cases herr : R.err = 0
        · have hR := Lib.hid (hR.out.trans (if_pos herr))
          rw [herr]
          clear herr
          obtain ⟨W4, hW4⟩ : ∃ W4, W4 = W3.alloc (.cells #[.int .u8 R.code, .slice pA ps.length pc, .slice tA po.length tc] 24) := ⟨_, rfl⟩
          obtain ⟨gv, hgv⟩ : ∃ gv, gv = W3.heap.size := ⟨_, rfl⟩
          have rv : W4.heap[gv]? = some (.cells #[.int .u8 R.code, .slice pA ps.length pc, .slice tA po.length tc] 24) := by rw [hW4, hgv]; exact heap_alloc_new _ _
          have hE34 : Ext W3 W4 := by rw [hW4]; exact (Ext.refl _).alloc _
          rw [← hW4, ← hgv]
          clear hW4 hgv
          have hE24 := hE3.trans hE34
          clear y0 y1 y2 f0 f1 f2 k0 k1 k2 eb ep
          have rr := (hE24.block _ (Array.getElem?_eq_some_iff.1 rr).1).trans rr
          have y0 := box_cell (j := 0) rr rfl
          have y1 := box_cell (j := 1) rr rfl
          have y2 := box_cell (j := 2) rr rfl
          have f0 := box_free (j := 0) rr
          have f1 := box_free (j := 1) rr
          have f2 := box_free (j := 2) rr
          have v0 := box_cell (j := 0) rv rfl
          have v1 := box_cell (j := 1) rv rfl
          have v2 := box_cell (j := 2) rv rfl
          have hg1l : g1 < W2.heap.size := Nat.lt_of_lt_of_le (Array.getElem?_eq_some_iff.1 r0).1 hEZ.size
          go_wp2_with fail
          obtain ⟨U, hU⟩ : ∃ U, U = (((W4.setCell ⟨g1, 0, none⟩ (.int .u8 R.code)).setCell ⟨g1, 1, none⟩ (.slice pA ps.length pc)).setCell ⟨g1, 2, none⟩ (.slice tA po.length tc)) := ⟨_, rfl⟩
          rw [← hU]
          have ru : U.heap[g1]? = some (.cells #[.int .u8 R.code, .slice pA ps.length pc, .slice tA po.length tc] 24) := by rw [hU]; exact row_set (row_set (row_set rr 0 _) 1 _) 2 _
          have hwW4 : Ext w W4 := hE0.trans (hEZ3.trans hE34)
          have hEU : Ext w U := by rw [hU]; exact ((hwW4.setCell hgw _).setCell hgw _).setCell hgw _
          refine bodyPost_ret (results_rowH rfl _ _ g1 _ _ _ _ rfl ru Tryz.underlying24 rfl (by kernel_rfl)) rfl ?_
          show ReadH (replyOf d n ty cls) a b w (.returned (.tuple #[.agg #[.int .u8 R.code, .slice pA ps.length pc, .slice tA po.length tc], .int .u32 R.time, .nilIface])) U
          rw [hR.out]
          have hlo : w.heap.size ≤ W2.heap.size := (hE0.trans hEZ).size
          refine ⟨_, _, _, rfl, .inr (.inr ⟨rfl, rfl⟩), ?_, ?_, hdj, hEU⟩
          · rw [hU]; exact (osets_set3 (HVs.out.ext hE34) hg1l _ _ _).lower hlo
          · rw [hU]; exact (osets_set3 (HVt.out.ext hE34) hg1l _ _ _).lower hlo
        · have hR := Lib.hid (hR.out.trans (if_neg herr))
          have her : ((R.err : Int) == 0) = false := by rw [beq_eq_false_iff_ne]; omega
          generalize (R.err : Int) = z at *
          have hz2 : ¬ z = 0 := by rw [beq_eq_false_iff_ne] at her; exact her
          have hz3 : decide (z = 0) = false := decide_eq_false hz2
          clear herr
          obtain ⟨W4, hW4⟩ : ∃ W4, W4 = W3.alloc (.cells #[.int .u8 R.code, .slice pA ps.length pc, .slice tA po.length tc] 24) := ⟨_, rfl⟩
          have hE34 : Ext W3 W4 := by rw [hW4]; exact (Ext.refl _).alloc _
          rw [← hW4]
          clear hW4
          have hE24 := hE3.trans hE34
          have hEZ := hEZ3.trans hE34
          clear y0 y1 y2 f0 f1 f2 k0 k1 k2 eb ep
          have rr := (hE24.block _ (Array.getElem?_eq_some_iff.1 rr).1).trans rr
          have y0 := box_cell (j := 0) rr rfl
          have y1 := box_cell (j := 1) rr rfl
          have y2 := box_cell (j := 2) rr rfl
          have f0 := box_free (j := 0) rr
          have f1 := box_free (j := 1) rr
          have f2 := box_free (j := 2) rr
          have eb := (HEr.out W4 (hE0.trans hEZ)).bad
          go_upto_region 9 with fail
          have hS : W4.drew.cell? ⟨0, 0, none⟩ = some (errV a) := eb
          refine wp_region_noPanic ?_
          refine wp_region_tree (S := (fun V => V.cell? ⟨0, 0, none⟩ = some (errV a))) (.take 0 (.take 1 (.run 2 (.take 3 (.take 4 (.done)))))) (by kernel_rfl) (by kernel_rfl) (fun _ _ _ _ _ h => h) (hS) ?_
          repeat ((with_reducible refine treeIs ?_); first
            | (refine treeTakeX (a' := ?_) ⟨_, hS⟩ (by rfl) rfl (by kernel_rfl) rfl ?_ ?_; rotate_left; (focus (intro V Q' hV hq; (repeat (first | go_guarded | go_skip | go_step)); (first | exact hq | exact wpList_nil hq)))))
          refine treeRun (by rfl) (fun K hK => ?_)
          go_simp
          refine hK.out _ _ ?_ ?_
          · exact cell3 eb (Nat.ne_of_lt hg1eb)
          clear hK K
          (try simp only [Act.put, List.setIfInBounds_toArray, List.set_cons_zero, List.set_cons_succ])
          repeat ((with_reducible refine treeIs ?_); first
            | (refine treeTakeX (a' := ?_) ⟨_, hS⟩ (by rfl) rfl (by kernel_rfl) rfl ?_ ?_; rotate_left; (focus (intro V Q' hV hq; (repeat (first | go_guarded | go_skip | go_step)); (first | exact hq | exact wpList_nil hq)))))
          refine treeDone ?_
          refine NoPanic.normal ?_
          obtain ⟨U, hU⟩ : ∃ U, U = (((W4.setCell ⟨g1, 0, none⟩ (.int .u8 0)).setCell ⟨g1, 1, none⟩ (.slice none 0 0)).setCell ⟨g1, 2, none⟩ (.slice none 0 0)).drew := ⟨_, rfl⟩
          rw [← hU]
          have ru : U.heap[g1]? = some (.cells #[.int .u8 0, .slice none 0 0, .slice none 0 0] 24) := by rw [hU]; exact row_set (row_set (row_set rr 0 _) 1 _) 2 _
          have hEU : Ext w U := by rw [hU]; exact ((((hE0.trans hEZ).setCell hgw _).setCell hgw _).setCell hgw _).drew
          have u0 := box_cell (j := 0) ru rfl
          have u1 := box_cell (j := 1) ru rfl
          have u2 := box_cell (j := 2) ru rfl
          clear hU rr y0 y1 y2 f0 f1 f2
          go_wp2_with fail
          refine bodyPost_ret (results_rowH rfl _ _ g1 _ _ _ _ rfl ru Tryz.underlying24 rfl (by kernel_rfl)) rfl ?_
          show ReadH (replyOf d n ty cls) a b w (.returned (.tuple #[.agg #[.int .u8 0, .slice none 0 0, .slice none 0 0], .int .u32 0, errV a])) U
          rw [hR.out]
          exact readH_bad hEU
      by_cases hc3 : code12 m = 3
      · have hR := Lib.hid (hR.out.trans (replyM_vote hits.out htf (.inr hc3)))
        rw [hc3]
        clear hc0 hc3 htf htc
        go_upto_region 8 with (first | (refine wpList_load_part (by rfl) 45 (.tmp 7) rfl g7 0 rfl [.int .u16 m.hd.id, .bool m.hd.qr, .int .u8 m.hd.op, .bool m.hd.aa, .bool m.hd.tc, .bool m.hd.rd, .bool m.hd.ra, .bool m.hd.z, .bool m.hd.ad, .bool m.hd.cd, .int .u8 m.hd.code, .slice qA m.qs.length qc, .slice aA m.ans.length ac, .slice uA m.auth.length uc, .slice xA m.extra.length xc, .bool m.he, .int .u16 m.ed.size, .int .u8 m.ed.ext, .int .u8 m.ed.ver, .int .u16 m.ed.flags, .slice oA m.ed.opts.length oc] (row_all r7) _ Tryz.underlying45 rfl (by kernel_rfl) ?_) | (go_at_call 48; refine (HVo.out _ hEZ2).mono ?_; rintro e W3 ⟨vs, vo, rfl, hvs, hvo, hdj, hE3⟩; have HVs := Lib.hid hvs; have HVt := Lib.hid hvo; obtain ⟨ps, pA, pc, _, rfl, _, _⟩ := hvs; obtain ⟨po, tA, tc, _, rfl, _, _⟩ := hvo) | fail)
        have HV := Lib.hid (show ∃ R, R = verOf n ty cls m.hd.code m.ans m.auth from ⟨_, rfl⟩)
        obtain ⟨R, hRv⟩ := HV.out
        rw [← hRv] at hR HVs HVt ⊢
        clear hRv HV
        have hEZ3 : Ext X0 W3 := hEZ.trans hE3
        by_cases herr : R.err = 0
        · have hR := Lib.hid (hR.out.trans (if_pos herr))
          rw [herr]
          clear herr
          obtain ⟨W4, hW4⟩ : ∃ W4, W4 = W3.alloc (.cells #[.int .u8 R.code, .slice pA ps.length pc, .slice tA po.length tc] 24) := ⟨_, rfl⟩
          obtain ⟨gv, hgv⟩ : ∃ gv, gv = W3.heap.size := ⟨_, rfl⟩
          have rv : W4.heap[gv]? = some (.cells #[.int .u8 R.code, .slice pA ps.length pc, .slice tA po.length tc] 24) := by rw [hW4, hgv]; exact heap_alloc_new _ _
          have hE34 : Ext W3 W4 := by rw [hW4]; exact (Ext.refl _).alloc _
          rw [← hW4, ← hgv]
          clear hW4 hgv
          have hE24 := hE3.trans hE34
          clear y0 y1 y2 f0 f1 f2 k0 k1 k2 eb ep
          have rr := (hE24.block _ (Array.getElem?_eq_some_iff.1 rr).1).trans rr
          have y0 := box_cell (j := 0) rr rfl
          have y1 := box_cell (j := 1) rr rfl
          have y2 := box_cell (j := 2) rr rfl
          have f0 := box_free (j := 0) rr
          have f1 := box_free (j := 1) rr
          have f2 := box_free (j := 2) rr
          have v0 := box_cell (j := 0) rv rfl
          have v1 := box_cell (j := 1) rv rfl
          have v2 := box_cell (j := 2) rv rfl
          have hg1l : g1 < W2.heap.size := Nat.lt_of_lt_of_le (Array.getElem?_eq_some_iff.1 r0).1 hEZ.size
          go_wp2_with fail
          obtain ⟨U, hU⟩ : ∃ U, U = (((W4.setCell ⟨g1, 0, none⟩ (.int .u8 R.code)).setCell ⟨g1, 1, none⟩ (.slice pA ps.length pc)).setCell ⟨g1, 2, none⟩ (.slice tA po.length tc)) := ⟨_, rfl⟩
          rw [← hU]
          have ru : U.heap[g1]? = some (.cells #[.int .u8 R.code, .slice pA ps.length pc, .slice tA po.length tc] 24) := by rw [hU]; exact row_set (row_set (row_set rr 0 _) 1 _) 2 _
          have hwW4 : Ext w W4 := hE0.trans (hEZ3.trans hE34)
          have hEU : Ext w U := by rw [hU]; exact ((hwW4.setCell hgw _).setCell hgw _).setCell hgw _
          refine bodyPost_ret (results_rowH rfl _ _ g1 _ _ _ _ rfl ru Tryz.underlying24 rfl (by kernel_rfl)) rfl ?_
          show ReadH (replyOf d n ty cls) a b w (.returned (.tuple #[.agg #[.int .u8 R.code, .slice pA ps.length pc, .slice tA po.length tc], .int .u32 R.time, .nilIface])) U
          rw [hR.out]
          have hlo : w.heap.size ≤ W2.heap.size := (hE0.trans hEZ).size
          refine ⟨_, _, _, rfl, .inr (.inr ⟨rfl, rfl⟩), ?_, ?_, hdj, hEU⟩
          · rw [hU]; exact (osets_set3 (HVs.out.ext hE34) hg1l _ _ _).lower hlo
          · rw [hU]; exact (osets_set3 (HVt.out.ext hE34) hg1l _ _ _).lower hlo
        · have hR := Lib.hid (hR.out.trans (if_neg herr))
          have her : ((R.err : Int) == 0) = false := by rw [beq_eq_false_iff_ne]; omega
          generalize (R.err : Int) = z at *
          have hz2 : ¬ z = 0 := by rw [beq_eq_false_iff_ne] at her; exact her
          have hz3 : decide (z = 0) = false := decide_eq_false hz2
          clear herr
          obtain ⟨W4, hW4⟩ : ∃ W4, W4 = W3.alloc (.cells #[.int .u8 R.code, .slice pA ps.length pc, .slice tA po.length tc] 24) := ⟨_, rfl⟩
          have hE34 : Ext W3 W4 := by rw [hW4]; exact (Ext.refl _).alloc _
          rw [← hW4]
          clear hW4
          have hE24 := hE3.trans hE34
          have hEZ := hEZ3.trans hE34
          clear y0 y1 y2 f0 f1 f2 k0 k1 k2 eb ep
          have rr := (hE24.block _ (Array.getElem?_eq_some_iff.1 rr).1).trans rr
          have y0 := box_cell (j := 0) rr rfl
          have y1 := box_cell (j := 1) rr rfl
          have y2 := box_cell (j := 2) rr rfl
          have f0 := box_free (j := 0) rr
          have f1 := box_free (j := 1) rr
          have f2 := box_free (j := 2) rr
          have eb := (HEr.out W4 (hE0.trans hEZ)).bad
          go_upto_region 9 with fail
          have hS : W4.drew.cell? ⟨0, 0, none⟩ = some (errV a) := eb
          refine wp_region_noPanic ?_
          refine wp_region_tree (S := (fun V => V.cell? ⟨0, 0, none⟩ = some (errV a))) (.take 0 (.take 1 (.run 2 (.take 3 (.take 4 (.done)))))) (by kernel_rfl) (by kernel_rfl) (fun _ _ _ _ _ h => h) (hS) ?_
          repeat ((with_reducible refine treeIs ?_); first
            | (refine treeTakeX (a' := ?_) ⟨_, hS⟩ (by rfl) rfl (by kernel_rfl) rfl ?_ ?_; rotate_left; (focus (intro V Q' hV hq; (repeat (first | go_guarded | go_skip | go_step)); (first | exact hq | exact wpList_nil hq)))))
          refine treeRun (by rfl) (fun K hK => ?_)
          go_simp
          refine hK.out _ _ ?_ ?_
          · exact cell3 eb (Nat.ne_of_lt hg1eb)
          clear hK K
          (try simp only [Act.put, List.setIfInBounds_toArray, List.set_cons_zero, List.set_cons_succ])
          repeat ((with_reducible refine treeIs ?_); first
            | (refine treeTakeX (a' := ?_) ⟨_, hS⟩ (by rfl) rfl (by kernel_rfl) rfl ?_ ?_; rotate_left; (focus (intro V Q' hV hq; (repeat (first | go_guarded | go_skip | go_step)); (first | exact hq | exact wpList_nil hq)))))
          refine treeDone ?_
          refine NoPanic.normal ?_
          obtain ⟨U, hU⟩ : ∃ U, U = (((W4.setCell ⟨g1, 0, none⟩ (.int .u8 0)).setCell ⟨g1, 1, none⟩ (.slice none 0 0)).setCell ⟨g1, 2, none⟩ (.slice none 0 0)).drew := ⟨_, rfl⟩
          rw [← hU]
          have ru : U.heap[g1]? = some (.cells #[.int .u8 0, .slice none 0 0, .slice none 0 0] 24) := by rw [hU]; exact row_set (row_set (row_set rr 0 _) 1 _) 2 _
          have hEU : Ext w U := by rw [hU]; exact ((((hE0.trans hEZ).setCell hgw _).setCell hgw _).setCell hgw _).drew
          have u0 := box_cell (j := 0) ru rfl
          have u1 := box_cell (j := 1) ru rfl
          have u2 := box_cell (j := 2) ru rfl
          clear hU rr y0 y1 y2 f0 f1 f2
          go_wp2_with fail
          refine bodyPost_ret (results_rowH rfl _ _ g1 _ _ _ _ rfl ru Tryz.underlying24 rfl (by kernel_rfl)) rfl ?_
          show ReadH (replyOf d n ty cls) a b w (.returned (.tuple #[.agg #[.int .u8 0, .slice none 0 0, .slice none 0 0], .int .u32 0, errV a])) U
          rw [hR.out]
          exact readH_bad hEU
      have hR := Lib.hid (hR.out.trans (replyM_pass hits.out (.inr ⟨hc0, hc3⟩)))
      generalize code12 m = cd at *
      have q0 : decide (cd = 0) = false := decide_eq_false hc0
      have q3 : decide (cd = 3) = false := decide_eq_false hc3
      have n0 : (cd != 0) = true := by rw [bne_iff_ne]; exact hc0
      have n3 : (cd != 3) = true := by rw [bne_iff_ne]; exact hc3
      have n4 : ¬ ((cd != 0) = false ∨ (cd != 3) = false) := by rw [n0, n3]; simp
      clear htf htc
      go_upto_region 6 with fail
      have hS : W2.drew.cell? ⟨1, 0, none⟩ = some (errV b) := ep
      refine wp_region_noPanic ?_
      refine wp_region_tree (S := (fun V => V.cell? ⟨1, 0, none⟩ = some (errV b))) (.take 0 (.take 1 (.run 2 (.take 3 (.take 4 (.done)))))) (by kernel_rfl) (by kernel_rfl) (fun _ _ _ _ _ h => h) (hS) ?_
      repeat ((with_reducible refine treeIs ?_); first
        | (refine treeTakeX (a' := ?_) ⟨_, hS⟩ (by rfl) rfl (by kernel_rfl) rfl ?_ ?_; rotate_left; (focus (intro V Q' hV hq; (repeat (first | go_guarded | go_skip | go_step)); (first | exact hq | exact wpList_nil hq)))))
      refine treeRun (by rfl) (fun K hK => ?_)
      go_simp
      refine hK.out _ _ ?_ ?_
      · exact cell3 ep (Nat.ne_of_lt hg1ep)
      clear hK K
      (try simp only [Act.put, List.setIfInBounds_toArray, List.set_cons_zero, List.set_cons_succ])
      repeat ((with_reducible refine treeIs ?_); first
        | (refine treeTakeX (a' := ?_) ⟨_, hS⟩ (by rfl) rfl (by kernel_rfl) rfl ?_ ?_; rotate_left; (focus (intro V Q' hV hq; (repeat (first | go_guarded | go_skip | go_step)); (first | exact hq | exact wpList_nil hq)))))
      refine treeDone ?_
      refine NoPanic.normal ?_
      obtain ⟨U, hU⟩ : ∃ U, U = (((W2.setCell ⟨g1, 0, none⟩ (.int .u8 0)).setCell ⟨g1, 1, none⟩ (.slice none 0 0)).setCell ⟨g1, 2, none⟩ (.slice none 0 0)).drew := ⟨_, rfl⟩
      rw [← hU]
      have ru : U.heap[g1]? = some (.cells #[.int .u8 0, .slice none 0 0, .slice none 0 0] 24) := by rw [hU]; exact row_set (row_set (row_set rr 0 _) 1 _) 2 _
      have hEU : Ext w U := by rw [hU]; exact ((((hE0.trans hEZ).setCell hgw _).setCell hgw _).setCell hgw _).drew
      have u0 := box_cell (j := 0) ru rfl
      have u1 := box_cell (j := 1) ru rfl
      have u2 := box_cell (j := 2) ru rfl
      clear hU rr y0 y1 y2 f0 f1 f2
      go_wp2_with fail
      refine bodyPost_ret (results_rowH rfl _ _ g1 _ _ _ _ rfl ru Tryz.underlying24 rfl (by kernel_rfl)) rfl ?_
      show ReadH (replyOf d n ty cls) a b w (.returned (.tuple #[.agg #[.int .u8 0, .slice none 0 0, .slice none 0 0], .int .u32 0, errV b])) U
      rw [hR.out]
      exact readH_pass hEU
    · have hR := Lib.hid (hR.out.trans (replyM_not hits))
      have hbad : ∀ B, asksB m n ty cls = B → ¬ (m.hd.qr = true ∧ m.hd.op = 0 ∧ B = true) := fun B hB hx => hits ⟨hx.1, hx.2.1, hB.trans hx.2.2⟩
      generalize hB : asksB m n ty cls = B at *
      have hbad := hbad B rfl
      clear hits hB
      rcases hqr : m.hd.qr with _ | _
      · rw [hqr] at z1
        clear hqr hbad
        go_upto_region 3 with fail
        have hS : Z.drew.cell? ⟨0, 0, none⟩ = some (errV a) := eb
        refine wp_region_noPanic ?_
        refine wp_region_tree (S := (fun V => V.cell? ⟨0, 0, none⟩ = some (errV a))) (.take 0 (.take 1 (.run 2 (.take 3 (.take 4 (.done)))))) (by kernel_rfl) (by kernel_rfl) (fun _ _ _ _ _ h => h) (hS) ?_
        repeat ((with_reducible refine treeIs ?_); first
          | (refine treeTakeX (a' := ?_) ⟨_, hS⟩ (by rfl) rfl (by kernel_rfl) rfl ?_ ?_; rotate_left; (focus (intro V Q' hV hq; (repeat (first | go_guarded | go_skip | go_step)); (first | exact hq | exact wpList_nil hq)))))
        refine treeRun (by rfl) (fun K hK => ?_)
        go_simp
        refine hK.out _ _ ?_ ?_
        · exact cell3 eb (Nat.ne_of_lt hg1eb)
        clear hK K
        (try simp only [Act.put, List.setIfInBounds_toArray, List.set_cons_zero, List.set_cons_succ])
        repeat ((with_reducible refine treeIs ?_); first
          | (refine treeTakeX (a' := ?_) ⟨_, hS⟩ (by rfl) rfl (by kernel_rfl) rfl ?_ ?_; rotate_left; (focus (intro V Q' hV hq; (repeat (first | go_guarded | go_skip | go_step)); (first | exact hq | exact wpList_nil hq)))))
        refine treeDone ?_
        refine NoPanic.normal ?_
        obtain ⟨U, hU⟩ : ∃ U, U = (((Z.setCell ⟨g1, 0, none⟩ (.int .u8 0)).setCell ⟨g1, 1, none⟩ (.slice none 0 0)).setCell ⟨g1, 2, none⟩ (.slice none 0 0)).drew := ⟨_, rfl⟩
        rw [← hU]
        have ru : U.heap[g1]? = some (.cells #[.int .u8 0, .slice none 0 0, .slice none 0 0] 24) := by rw [hU]; exact row_set (row_set (row_set rr 0 _) 1 _) 2 _
        have hEU : Ext w U := by rw [hU]; exact ((((hE0.trans hEZ).setCell hgw _).setCell hgw _).setCell hgw _).drew
        have u0 := box_cell (j := 0) ru rfl
        have u1 := box_cell (j := 1) ru rfl
        have u2 := box_cell (j := 2) ru rfl
        clear hU rr y0 y1 y2 f0 f1 f2
        go_wp2_with fail
        refine bodyPost_ret (results_rowH rfl _ _ g1 _ _ _ _ rfl ru Tryz.underlying24 rfl (by kernel_rfl)) rfl ?_
        show ReadH (replyOf d n ty cls) a b w (.returned (.tuple #[.agg #[.int .u8 0, .slice none 0 0, .slice none 0 0], .int .u32 0, errV a])) U
        rw [hR.out]
        exact readH_bad hEU
      rw [hqr] at z1
      by_cases hop : m.hd.op = 0
      · rw [hop] at z2
        obtain rfl : B = false := by cases B; rfl; exact absurd ⟨hqr, hop, rfl⟩ hbad
        clear hqr hop hbad
        go_upto_region 3 with (first | (refine wpList_load_part (by rfl) 45 (.tmp 7) rfl g7 0 rfl [.int .u16 m.hd.id, .bool m.hd.qr, .int .u8 m.hd.op, .bool m.hd.aa, .bool m.hd.tc, .bool m.hd.rd, .bool m.hd.ra, .bool m.hd.z, .bool m.hd.ad, .bool m.hd.cd, .int .u8 m.hd.code, .slice qA m.qs.length qc, .slice aA m.ans.length ac, .slice uA m.auth.length uc, .slice xA m.extra.length xc, .bool m.he, .int .u16 m.ed.size, .int .u8 m.ed.ext, .int .u8 m.ed.ver, .int .u16 m.ed.flags, .slice oA m.ed.opts.length oc] (row_all r7) _ Tryz.underlying45 rfl (by kernel_rfl) ?_) | (go_at_call 163; refine (HAs.out _ (Ext.refl _)).mono ?_; rintro e W1 ⟨rfl, hE1⟩) | fail)
        have hEZ : Ext X0 W1 := hEZ.trans hE1
        clear y0 y1 y2 f0 f1 f2 k0 k1 k2 eb ep z1 z2
        have rr := ((hE1).block _ (Array.getElem?_eq_some_iff.1 rr).1).trans rr
        have r7 := ((hE1).block _ (Array.getElem?_eq_some_iff.1 r7).1).trans r7
        have r1q := ((hE1).block _ (Array.getElem?_eq_some_iff.1 r1q).1).trans r1q
        have y0 := box_cell (j := 0) rr rfl
        have y1 := box_cell (j := 1) rr rfl
        have y2 := box_cell (j := 2) rr rfl
        have f0 := box_free (j := 0) rr
        have f1 := box_free (j := 1) rr
        have f2 := box_free (j := 2) rr
        have k0 := box_cell (j := 0) r1q rfl
        have k1 := box_cell (j := 1) r1q rfl
        have k2 := box_cell (j := 2) r1q rfl
        have eb := (HEr.out W1 (hE0.trans hEZ)).bad
        have ep := (HEr.out W1 (hE0.trans hEZ)).pass
        go_upto_region 3 with fail
        have hS : W1.drew.cell? ⟨0, 0, none⟩ = some (errV a) := eb
        refine wp_region_noPanic ?_
        refine wp_region_tree (S := (fun V => V.cell? ⟨0, 0, none⟩ = some (errV a))) (.take 0 (.take 1 (.run 2 (.take 3 (.take 4 (.done)))))) (by kernel_rfl) (by kernel_rfl) (fun _ _ _ _ _ h => h) (hS) ?_
        repeat ((with_reducible refine treeIs ?_); first
          | (refine treeTakeX (a' := ?_) ⟨_, hS⟩ (by rfl) rfl (by kernel_rfl) rfl ?_ ?_; rotate_left; (focus (intro V Q' hV hq; (repeat (first | go_guarded | go_skip | go_step)); (first | exact hq | exact wpList_nil hq)))))
        refine treeRun (by rfl) (fun K hK => ?_)
        go_simp
        refine hK.out _ _ ?_ ?_
        · exact cell3 eb (Nat.ne_of_lt hg1eb)
        clear hK K
        (try simp only [Act.put, List.setIfInBounds_toArray, List.set_cons_zero, List.set_cons_succ])
        repeat ((with_reducible refine treeIs ?_); first
          | (refine treeTakeX (a' := ?_) ⟨_, hS⟩ (by rfl) rfl (by kernel_rfl) rfl ?_ ?_; rotate_left; (focus (intro V Q' hV hq; (repeat (first | go_guarded | go_skip | go_step)); (first | exact hq | exact wpList_nil hq)))))
        refine treeDone ?_
        refine NoPanic.normal ?_
        obtain ⟨U, hU⟩ : ∃ U, U = (((W1.setCell ⟨g1, 0, none⟩ (.int .u8 0)).setCell ⟨g1, 1, none⟩ (.slice none 0 0)).setCell ⟨g1, 2, none⟩ (.slice none 0 0)).drew := ⟨_, rfl⟩
        rw [← hU]
        have ru : U.heap[g1]? = some (.cells #[.int .u8 0, .slice none 0 0, .slice none 0 0] 24) := by rw [hU]; exact row_set (row_set (row_set rr 0 _) 1 _) 2 _
        have hEU : Ext w U := by rw [hU]; exact ((((hE0.trans hEZ).setCell hgw _).setCell hgw _).setCell hgw _).drew
        have u0 := box_cell (j := 0) ru rfl
        have u1 := box_cell (j := 1) ru rfl
        have u2 := box_cell (j := 2) ru rfl
        clear hU rr y0 y1 y2 f0 f1 f2
        go_wp2_with fail
        refine bodyPost_ret (results_rowH rfl _ _ g1 _ _ _ _ rfl ru Tryz.underlying24 rfl (by kernel_rfl)) rfl ?_
        show ReadH (replyOf d n ty cls) a b w (.returned (.tuple #[.agg #[.int .u8 0, .slice none 0 0, .slice none 0 0], .int .u32 0, errV a])) U
        rw [hR.out]
        exact readH_bad hEU
      · have hop1 : decide (m.hd.op = 0) = false := decide_eq_false hop
        clear hqr hbad
        go_upto_region 3 with fail
        have hS : Z.drew.cell? ⟨0, 0, none⟩ = some (errV a) := eb
        refine wp_region_noPanic ?_
        refine wp_region_tree (S := (fun V => V.cell? ⟨0, 0, none⟩ = some (errV a))) (.take 0 (.take 1 (.run 2 (.take 3 (.take 4 (.done)))))) (by kernel_rfl) (by kernel_rfl) (fun _ _ _ _ _ h => h) (hS) ?_
        repeat ((with_reducible refine treeIs ?_); first
          | (refine treeTakeX (a' := ?_) ⟨_, hS⟩ (by rfl) rfl (by kernel_rfl) rfl ?_ ?_; rotate_left; (focus (intro V Q' hV hq; (repeat (first | go_guarded | go_skip | go_step)); (first | exact hq | exact wpList_nil hq)))))
        refine treeRun (by rfl) (fun K hK => ?_)
        go_simp
        refine hK.out _ _ ?_ ?_
        · exact cell3 eb (Nat.ne_of_lt hg1eb)
        clear hK K
        (try simp only [Act.put, List.setIfInBounds_toArray, List.set_cons_zero, List.set_cons_succ])
        repeat ((with_reducible refine treeIs ?_); first
          | (refine treeTakeX (a' := ?_) ⟨_, hS⟩ (by rfl) rfl (by kernel_rfl) rfl ?_ ?_; rotate_left; (focus (intro V Q' hV hq; (repeat (first | go_guarded | go_skip | go_step)); (first | exact hq | exact wpList_nil hq)))))
        refine treeDone ?_
        refine NoPanic.normal ?_
        obtain ⟨U, hU⟩ : ∃ U, U = (((Z.setCell ⟨g1, 0, none⟩ (.int .u8 0)).setCell ⟨g1, 1, none⟩ (.slice none 0 0)).setCell ⟨g1, 2, none⟩ (.slice none 0 0)).drew := ⟨_, rfl⟩
        rw [← hU]
        have ru : U.heap[g1]? = some (.cells #[.int .u8 0, .slice none 0 0, .slice none 0 0] 24) := by rw [hU]; exact row_set (row_set (row_set rr 0 _) 1 _) 2 _
        have hEU : Ext w U := by rw [hU]; exact ((((hE0.trans hEZ).setCell hgw _).setCell hgw _).setCell hgw _).drew
        have u0 := box_cell (j := 0) ru rfl
        have u1 := box_cell (j := 1) ru rfl
        have u2 := box_cell (j := 2) ru rfl
        clear hU rr y0 y1 y2 f0 f1 f2
        go_wp2_with fail
        refine bodyPost_ret (results_rowH rfl _ _ g1 _ _ _ _ rfl ru Tryz.underlying24 rfl (by kernel_rfl)) rfl ?_
        show ReadH (replyOf d n ty cls) a b w (.returned (.tuple #[.agg #[.int .u8 0, .slice none 0 0, .slice none 0 0], .int .u32 0, errV a])) U
        rw [hR.out]
        exact readH_bad hEU
end Go.Proofs.YtbmjfjgfognimaaGreatDoor
namespace Go.Proofs.YtbmjfjgfognimaaGreatDoor
set_option linter.unusedSimpArgs false
set_option linter.unusedVariables false
open Go.RowKit
set_option maxRecDepth 100000

set_option maxHeartbeats 4000000 in
theorem heard_look_g (d n : List UInt8) (ty cls : Int) (a b : Addr) (w : World) (hg : Laid w) (hb : BitsAt w) (he : ErrsAt w a b) (hd : d.length ≤ 1048576) (hfw : ∀ m, decR d = .ok m → m.ans.length ≤ 4096 ∧ m.auth.length ≤ 4096) (hn : n.length ≤ 1048576) :
    Calls Tryz.prog 43 #[.agg #[S n, .int .u16 ty, .int .u16 cls], S d] w (LookH (replyOf d n ty cls) w) := by
  have HK := Lib.hid (reply_kind d n ty cls)
  obtain ⟨X1, hX1⟩ : ∃ X1, X1 = w.alloc (.cells #[S n, .int .u16 ty, .int .u16 cls] 32) := ⟨_, rfl⟩
  obtain ⟨X0, hX0⟩ : ∃ X0, X0 = X1.alloc (.cells #[.int .u8 0, .int .u8 0, .slice none 0 0, .slice none 0 0, .int .u32 0] 91) := ⟨_, rfl⟩
  obtain ⟨g4, hg4⟩ : ∃ g4, g4 = X1.heap.size := ⟨_, rfl⟩
  have r1 : X1.heap[w.heap.size]? = some (.cells #[S n, .int .u16 ty, .int .u16 cls] 32) := by rw [hX1]; exact heap_alloc_new _ _
  have r0 : X0.heap[g4]? = some (.cells #[.int .u8 0, .int .u8 0, .slice none 0 0, .slice none 0 0, .int .u32 0] 91) := by rw [hX0, hg4]; exact heap_alloc_new _ _
  have hE01 : Ext X1 X0 := by rw [hX0]; exact (Ext.refl _).alloc _
  have hE0 : Ext w X0 := Ext.trans (by rw [hX1]; exact (Ext.refl _).alloc _) hE01
  have r10 := (hE01.block _ (Array.getElem?_eq_some_iff.1 r1).1).trans r1
  have hsz : w.heap.size + 1 = g4 := by rw [hg4, hX1]; simp
  have hg4w : w.heap.size ≤ g4 := by omega
  have HSz := Lib.hid hsz
  have HRd := Lib.hid (heard_read_g d n ty cls a b X0 (hg.ext hE0) (hb.ext hE0) (he.ext hE0) hd hfw hn)
  generalize hR : replyOf d n ty cls = R at *
  clear hsz hR
  go_enter Tryz.func43, Tryz.ntmps43
  go_upto_region 1 with fail
  rw [← hX1, ← hX0]
  have e1 : (w.heap.size + 1) = g4 := HSz.out
  try rw [e1]
  try rw [← hg4]
  clear e1 hX1 hX0 hg4 hE01
  have k0 := box_cell (j := 0) r10 rfl
  have k1 := box_cell (j := 1) r10 rfl
  have k2 := box_cell (j := 2) r10 rfl
  go_upto_region 2 with (first | (go_at_call 92; refine HRd.out.mono ?_; rintro e W3 ⟨vs, vo, er, rfl, hor, hvs, hvo, hdj, hE3⟩; have HVs := Lib.hid hvs; have HVt := Lib.hid hvo; obtain ⟨ps, pA, pc, _, rfl, _, _⟩ := hvs; obtain ⟨po, tA, tc, _, rfl, _, _⟩ := hvo) | fail)
  obtain ⟨W4, hW4⟩ : ∃ W4, W4 = W3.alloc (.cells #[.int .u8 R.ver.code, .slice pA ps.length pc, .slice tA po.length tc] 24) := ⟨_, rfl⟩
  obtain ⟨gv, hgv⟩ : ∃ gv, gv = W3.heap.size := ⟨_, rfl⟩
  have rv : W4.heap[gv]? = some (.cells #[.int .u8 R.ver.code, .slice pA ps.length pc, .slice tA po.length tc] 24) := by rw [hW4, hgv]; exact heap_alloc_new _ _
  have hE34 : Ext W3 W4 := by rw [hW4]; exact (Ext.refl _).alloc _
  rw [← hW4, ← hgv]
  clear hW4 hgv k0 k1 k2
  have rr := r0
  have hE04 := hE3.trans hE34
  have rr := ((hE04).block _ (Array.getElem?_eq_some_iff.1 rr).1).trans rr
  have y0 := box_cell (j := 0) rr rfl
  have y1 := box_cell (j := 1) rr rfl
  have y2 := box_cell (j := 2) rr rfl
  have y3 := box_cell (j := 3) rr rfl
  have y4 := box_cell (j := 4) rr rfl
  have f0 := box_free (j := 0) rr
  have f1 := box_free (j := 1) rr
  have f2 := box_free (j := 2) rr
  have f3 := box_free (j := 3) rr
  have f4 := box_free (j := 4) rr
  have hW4w : Ext w W4 := hE0.trans hE04
  have HEr := he.ext hW4w
  have eb := HEr.bad
  have ep := HEr.pass
  obtain ⟨ca, ta, hA⟩ := HEr.ha
  obtain ⟨cb, tb, hB⟩ := HEr.hb
  rcases hor with ⟨hk, rfl⟩ | ⟨hk, rfl⟩ | ⟨hk, rfl⟩
  · have hRb := Lib.hid (show R = .bad from by rcases HK.out with h | h | h; exact h; rw [h] at hk; exact absurd hk (by decide); rw [h] at hk; exact absurd hk (by decide))
    clear hk
    go_wp2_with fail
    refine (is_same a W4).mono ?_
    rintro e W5 ⟨rfl, hq5⟩
    rw [hq5]
    go_wp2_with fail
    obtain ⟨U, hU⟩ : ∃ U, U = (((((W4.setCell ⟨g4, 0, none⟩ (.int .u8 1)).setCell ⟨g4, 1, none⟩ (.int .u8 0)).setCell ⟨g4, 2, none⟩ (.slice none 0 0)).setCell ⟨g4, 3, none⟩ (.slice none 0 0)).setCell ⟨g4, 4, none⟩ (.int .u32 0)) := ⟨_, rfl⟩
    rw [← hU]
    have ru : U.heap[g4]? = some (.cells #[.int .u8 1, .int .u8 0, .slice none 0 0, .slice none 0 0, .int .u32 0] 91) := by rw [hU]; exact (row_set (row_set (row_set (row_set (row_set rr 0 _) 1 _) 2 _) 3 _) 4 _)
    have hEU : Ext w U := by rw [hU]; exact (((((hW4w).setCell hg4w _).setCell hg4w _).setCell hg4w _).setCell hg4w _).setCell hg4w _
    refine bodyPost_ret (results_rowL rfl _ _ g4 _ _ _ _ rfl ru Tryz.underlying91 rfl (by kernel_rfl)) rfl ?_
    show LookH R w (.returned (.agg #[.int .u8 1, .int .u8 0, .slice none 0 0, .slice none 0 0, .int .u32 0])) U
    rw [hRb.out]
    exact ⟨_, _, rfl, OSets.nil _ _, OSets.nil _ _, .inl rfl, hEU⟩
  · have hRb := Lib.hid (show R = .pass from by rcases HK.out with h | h | h; rw [h] at hk; exact absurd hk (by decide); exact h; rw [h] at hk; exact absurd hk (by decide))
    clear hk
    go_wp2_with fail
    refine (is_other b a cb ca tb ta W4 (fun e => HEr.ne e.symm) hB hA).mono ?_
    rintro e W5 ⟨rfl, hq5⟩
    rw [hq5]
    go_wp2_with fail
    refine (is_same b W4).mono ?_
    rintro e W6 ⟨rfl, hq6⟩
    rw [hq6]
    go_wp2_with fail
    obtain ⟨U, hU⟩ : ∃ U, U = (((((W4.setCell ⟨g4, 0, none⟩ (.int .u8 2)).setCell ⟨g4, 1, none⟩ (.int .u8 0)).setCell ⟨g4, 2, none⟩ (.slice none 0 0)).setCell ⟨g4, 3, none⟩ (.slice none 0 0)).setCell ⟨g4, 4, none⟩ (.int .u32 0)) := ⟨_, rfl⟩
    rw [← hU]
    have ru : U.heap[g4]? = some (.cells #[.int .u8 2, .int .u8 0, .slice none 0 0, .slice none 0 0, .int .u32 0] 91) := by rw [hU]; exact (row_set (row_set (row_set (row_set (row_set rr 0 _) 1 _) 2 _) 3 _) 4 _)
    have hEU : Ext w U := by rw [hU]; exact (((((hW4w).setCell hg4w _).setCell hg4w _).setCell hg4w _).setCell hg4w _).setCell hg4w _
    refine bodyPost_ret (results_rowL rfl _ _ g4 _ _ _ _ rfl ru Tryz.underlying91 rfl (by kernel_rfl)) rfl ?_
    show LookH R w (.returned (.agg #[.int .u8 2, .int .u8 0, .slice none 0 0, .slice none 0 0, .int .u32 0])) U
    rw [hRb.out]
    exact ⟨_, _, rfl, OSets.nil _ _, OSets.nil _ _, .inl rfl, hEU⟩
  · have hRk := Lib.hid hk
    clear hk
    have v0 := box_cell (j := 0) rv rfl
    have v1 := box_cell (j := 1) rv rfl
    have v2 := box_cell (j := 2) rv rfl
    have hg4l : g4 < X0.heap.size := (Array.getElem?_eq_some_iff.1 r0).1
    go_wp2_with fail
    refine (is_nil a W4).mono ?_
    rintro e W5 ⟨rfl, hq5⟩
    rw [hq5]
    go_wp2_with fail
    refine (is_nil b W4).mono ?_
    rintro e W6 ⟨rfl, hq6⟩
    rw [hq6]
    go_wp2_with fail
    obtain ⟨U, hU⟩ : ∃ U, U = (((((W4.setCell ⟨g4, 0, none⟩ (.int .u8 3)).setCell ⟨g4, 1, none⟩ (.int .u8 R.ver.code)).setCell ⟨g4, 2, none⟩ (.slice pA ps.length pc)).setCell ⟨g4, 3, none⟩ (.slice tA po.length tc)).setCell ⟨g4, 4, none⟩ (.int .u32 R.ver.time)) := ⟨_, rfl⟩
    rw [← hU]
    have ru : U.heap[g4]? = some (.cells #[.int .u8 3, .int .u8 R.ver.code, .slice pA ps.length pc, .slice tA po.length tc, .int .u32 R.ver.time] 91) := by rw [hU]; exact (row_set (row_set (row_set (row_set (row_set rr 0 _) 1 _) 2 _) 3 _) 4 _)
    have hEU : Ext w U := by rw [hU]; exact (((((hW4w).setCell hg4w _).setCell hg4w _).setCell hg4w _).setCell hg4w _).setCell hg4w _
    refine bodyPost_ret (results_rowL rfl _ _ g4 _ _ _ _ rfl ru Tryz.underlying91 rfl (by kernel_rfl)) rfl ?_
    show LookH R w (.returned (.agg #[.int .u8 3, .int .u8 R.ver.code, .slice pA ps.length pc, .slice tA po.length tc, .int .u32 R.ver.time])) U
    refine ⟨_, _, by rw [hRk.out], ?_, ?_, hdj, hEU⟩
    · rw [hU]; exact (osets_set5 (HVs.out.ext hE34) hg4l _ _ _ _ _).lower hE0.size
    · rw [hU]; exact (osets_set5 (HVt.out.ext hE34) hg4l _ _ _ _ _).lower hE0.size
end Go.Proofs.YtbmjfjgfognimaaGreatDoor
namespace Go.Proofs.YtbmjfjgfognimaaGreatDoor
set_option linter.unusedSimpArgs false
set_option linter.unusedVariables false
open Go.RowKit
set_option maxRecDepth 100000

theorem OSets.shape30v {w : World} {lo : Nat} {v : Value} {l : List SetD} (h : OSets w lo v l) : ∃ A c, v = .slice A l.length c ∧ l.length ≤ c ∧ c ≤ maxLen := by
  obtain ⟨ps, A, c, h1, h2, h3, _⟩ := h
  have hl : ps.length = l.length := by rw [← h1]; simp
  exact ⟨A, c, by rw [h2, hl], by rw [← hl]; exact h3.cap.1, h3.cap.2⟩
set_option maxHeartbeats 8000000 in
theorem law30_votes (v : Value) (l : List RecD) (n : List UInt8) (ty cls id size : Int) (a b : Addr) (w : World) (hg : Laid w) (hb : BitsAt w) (he : ErrsAt w a b) (h : Recs w 0 v l) (hwf : ∀ r ∈ l, r.wf)
    (hs : ∀ r ∈ l, r.name.length ≤ maxLen ∧ r.data.length ≤ maxLen) (hn : n.length ≤ maxLen) (ht : 0 ≤ ty ∧ ty ≤ 65535) (hc : 0 ≤ cls ∧ cls ≤ 65535) (hi : 0 ≤ id ∧ id ≤ 65535) (hz : 0 ≤ size ∧ size ≤ 65535) :
    Calls Tryz.prog 13 #[v, .agg #[S n, .int .u16 ty, .int .u16 cls], .int .u16 id, .int .u16 size] w fun e w' => e = .returned (.bool true) ∧ Ext w w' := by
  unfold maxLen at hn
  have HWz := Lib.hid (show wrap64 size = size by unfold wrap64; omega)
  have HFw := Lib.hid (fun V (hV : Ext w V) => law30_few 0 v l V (h.ext hV) hs)
  have HAw := Lib.hid (fun V (hV : Ext w V) => law30_awake V (hg.ext hV) (hb.ext hV))
  have HH := Lib.hid h
  obtain ⟨A, c, rfl, h1, h2, hrd⟩ := h
  unfold maxLen at h2
  unfold FewPost at HFw
  obtain ⟨X0, hX0⟩ : ∃ X0, X0 = w.alloc (.cells #[S n, .int .u16 ty, .int .u16 cls] 32) := ⟨_, rfl⟩
  obtain ⟨b5q, hb5q⟩ : ∃ b5q, b5q = w.heap.size := ⟨_, rfl⟩
  have r4 : X0.heap[b5q]? = some (.cells #[S n, .int .u16 ty, .int .u16 cls] 32) := by rw [hX0, hb5q]; exact heap_alloc_new _ _
  have hE0 : Ext w X0 := by rw [hX0]; exact (Ext.refl _).alloc _
  go_enter Tryz.func13, Tryz.ntmps13
  go_upto_region 1 with fail
  rw [← hX0, ← hb5q]
  clear hX0 hb5q
  have k0 := box_cell (j := 0) r4 rfl
  go_wp2_with fail
  refine (HFw.out _ hE0).mono ?_
  rintro e w1 ⟨B1, rfl, hB1, rfl⟩
  rcases B1 with _ | _
  · go_wp2_with fail
    refine (HAw.out _ hE0).mono ?_
    rintro e w2 ⟨rfl, hE2⟩
    go_wp2_with fail
    go_ret
    exact ⟨rfl, hE0.trans hE2⟩
  have HF1 := Lib.hid (hB1 rfl)
  clear hB1 HFw
  by_cases hn4 : 400 < n.length
  · have hni : decide ((400 : Int) < (n.length : Int)) = true := decide_eq_true (by omega)
    go_wp2_with fail
    refine (HAw.out _ hE0).mono ?_
    rintro e w2 ⟨rfl, hE2⟩
    go_wp2_with fail
    go_ret
    exact ⟨rfl, hE0.trans hE2⟩
  have hni : decide ((400 : Int) < (n.length : Int)) = false := decide_eq_false (by omega)
  have HN4 := Lib.hid hn4
  clear hn4
  go_wp2_with fail
  refine (HAw.out _ hE0).mono ?_
  rintro e w2 ⟨rfl, hE2⟩
  have r42 := (hE2.block _ (Array.getElem?_eq_some_iff.1 r4).1).trans r4
  have hw2 : Ext w w2 := hE0.trans hE2
  clear k0 hni
  have k0 := box_cell (j := 0) r42 rfl
  have k1 := box_cell (j := 1) r42 rfl
  have k2 := box_cell (j := 2) r42 rfl
  have HQ := Lib.hid (heard_query n ty cls id size w2 (hg.ext hw2) (hb.ext hw2) (by have := HN4.out; omega) ht hc hi)
  unfold QueryPost at HQ
  obtain ⟨qs, hqs⟩ : ∃ s, s = queryOf n ty cls id size := ⟨_, rfl⟩
  obtain ⟨qe, hqe⟩ : ∃ e, e = queryErr n ty cls id size := ⟨_, rfl⟩
  rw [← hqs, ← hqe] at HQ
  have HQs := Lib.hid hqs
  have HQe := Lib.hid hqe
  have hwz := HWz.out
  clear hqs hqe
  go_wp2_with fail
  refine HQ.out.mono ?_
  rintro e w9 ⟨rfl, hE9⟩
  have hw9 : Ext w w9 := hw2.trans hE9
  have r49 := (hE9.block _ (Array.getElem?_eq_some_iff.1 r42).1).trans r42
  have HN1 := Lib.hid (res_new 0 _ l w9 (hg.ext hw9) (HH.out.ext hw9) HF1.out.bd (recsOk_wf hwf))
  unfold NewPost at HN1
  clear k0 k1 k2 hwz
  by_cases hqz : qe = 0
  rotate_left
  · have g1 : ((qe : Int) != 0) = true := by simpa using hqz
    clear hqz
    go_wp2_with fail
    refine HN1.out.mono ?_
    rintro e w10 (⟨_, R1, gv1, rfl, _, _, _, hE10⟩ | ⟨_, rfl, hE10⟩)
    all_goals
      go_wp2_with fail
      go_ret
      exact ⟨rfl, hw9.trans hE10⟩
  have g1 : ((qe : Int) != 0) = false := by rw [hqz]; rfl
  have HQd := Lib.hid (query_dec30 ht hc hi (HQe.out ▸ hqz))
  have HGR := Lib.hid (vote_read hwf HF1.out.1 ht hc hi hz HQd.out.1 HQd.out.2.1)
  clear hqz
  go_wp2_with fail
  refine HN1.out.mono ?_
  rintro e w10 (⟨hall, R1, gv1, rfl, _, hR1, ho1, hE10⟩ | ⟨_, rfl, hE10⟩)
  rotate_left
  · go_wp2_with fail
    go_ret
    exact ⟨rfl, hw9.trans hE10⟩
  have hw10 := hw9.trans hE10
  have HBad := Lib.hid (bad_code (groupR l) n ty cls)
  clear hall
  have r510 := (hE10.block _ (Array.getElem?_eq_some_iff.1 r49).1).trans r49
  have HA1 := Lib.hid (res_answer l gv1 R1 qs w10 (hg.ext hw10) (hb.ext hw10) (box_cell hR1 rfl) (ho1.sets.lower (Nat.zero_le _)) HF1.out.bd hwf (by rw [HQs.out]; have := HQd.out.2.2; omega))
  unfold StrPost at HA1
  rw [← HQs.out] at HGR
  obtain ⟨m, hmd, hml, hmi, hmc, hmf, hmp, hmv⟩ := HGR.out
  have HMd := Lib.hid hmd
  have HMc := Lib.hid hmc
  have HMi := Lib.hid hmi
  have HMf := Lib.hid hmf
  have HMp := Lib.hid hmp
  have HMv := Lib.hid hmv
  have HLk := Lib.hid (fun V (hV : Ext w V) => heard_look_g (resOf (groupR l) qs) n ty cls a b V (hg.ext hV) (hb.ext hV) (he.ext hV) (by omega) (fun m' hm' => by rw [hmd] at hm'; injection hm' with hm'; subst hm'; exact hmf) (by have := HN4.out; omega))
  clear hmc hmi hmf hmp hmv
  have HDec := Lib.hid (fun V (hV : Ext w V) => wire_decode _ V (hg.ext hV) (hb.ext hV) (show (resOf (groupR l) qs).length ≤ 1048576 by omega))
  generalize resOf (groupR l) qs = rs at *
  clear hmd hml
  go_wp2_with fail
  refine HA1.out.mono ?_
  rintro e w11 ⟨rfl, hE11⟩
  have hw11 := hw10.trans hE11
  go_wp2_with fail
  refine (HDec.out _ hw11).mono ?_
  rintro e Y ⟨⟨kk, hk0, hx, rfl⟩ | ⟨m', q, a', u, x, o, hm, rfl, hMO, hBd⟩, hEd⟩
  · exact absurd (HMd.out.symm.trans hx) (by simp)
  obtain rfl : m = m' := by have := HMd.out.symm.trans hm; injection this
  clear hm
  obtain ⟨⟨qA, qc, rfl, -⟩, ⟨aA, ac, rfl, -⟩, ⟨uA, uc, rfl, -⟩, ⟨xA, xc, rfl, -⟩, ⟨oA, oc, rfl, -⟩⟩ := hMO
  have hY := hw11.trans hEd
  dsimp only
  iterate 10 go_step
  obtain ⟨b14, hb14⟩ : ∃ b14, b14 = Y.heap.size := ⟨_, rfl⟩
  have hz4 : (Y.alloc (.cells msgZ 45)).heap[b14]? = some (.cells msgZ 45) := by rw [hb14]; exact heap_alloc_new _ _
  refine Go.Great.wpList_allocTo rfl (some 14) rfl (.pointer (some ⟨Y.heap.size, 0, none⟩)) (.cells msgZ 45) (by kernel_rfl) ?_
  rw [← hb14]
  refine Go.wpList_store_rowTo rfl 45 (.tmp 14) (.tmp 64) rfl rfl b14 #[.int .u16 m.hd.id, .bool m.hd.qr, .int .u8 m.hd.op, .bool m.hd.aa, .bool m.hd.tc, .bool m.hd.rd, .bool m.hd.ra, .bool m.hd.z, .bool m.hd.ad, .bool m.hd.cd, .int .u8 m.hd.code, .slice qA m.qs.length qc, .slice aA m.ans.length ac, .slice uA m.auth.length uc, .slice xA m.extra.length xc, .bool m.he, .int .u16 m.ed.size, .int .u8 m.ed.ext, .int .u8 m.ed.ver, .int .u16 m.ed.flags, .slice oA m.ed.opts.length oc] rfl rfl 45 _ hz4 (by kernel_rfl) rfl (by kernel_rfl) ?_
  rw [alloc_setRow7 Y msgZ #[.int .u16 m.hd.id, .bool m.hd.qr, .int .u8 m.hd.op, .bool m.hd.aa, .bool m.hd.tc, .bool m.hd.rd, .bool m.hd.ra, .bool m.hd.z, .bool m.hd.ad, .bool m.hd.cd, .int .u8 m.hd.code, .slice qA m.qs.length qc, .slice aA m.ans.length ac, .slice uA m.auth.length uc, .slice xA m.extra.length xc, .bool m.he, .int .u16 m.ed.size, .int .u8 m.ed.ext, .int .u8 m.ed.ver, .int .u16 m.ed.flags, .slice oA m.ed.opts.length oc] 45 b14 hb14]
  iterate 3 go_step
  refine wpList_nil ?_
  (try rw [← hb14])
  have r14 : (Y.alloc (.cells #[.int .u16 m.hd.id, .bool m.hd.qr, .int .u8 m.hd.op, .bool m.hd.aa, .bool m.hd.tc, .bool m.hd.rd, .bool m.hd.ra, .bool m.hd.z, .bool m.hd.ad, .bool m.hd.cd, .int .u8 m.hd.code, .slice qA m.qs.length qc, .slice aA m.ans.length ac, .slice uA m.auth.length uc, .slice xA m.extra.length xc, .bool m.he, .int .u16 m.ed.size, .int .u8 m.ed.ext, .int .u8 m.ed.ver, .int .u16 m.ed.flags, .slice oA m.ed.opts.length oc] 45)).heap[b14]? = some (.cells #[.int .u16 m.hd.id, .bool m.hd.qr, .int .u8 m.hd.op, .bool m.hd.aa, .bool m.hd.tc, .bool m.hd.rd, .bool m.hd.ra, .bool m.hd.z, .bool m.hd.ad, .bool m.hd.cd, .int .u8 m.hd.code, .slice qA m.qs.length qc, .slice aA m.ans.length ac, .slice uA m.auth.length uc, .slice xA m.extra.length xc, .bool m.he, .int .u16 m.ed.size, .int .u8 m.ed.ext, .int .u8 m.ed.ver, .int .u16 m.ed.flags, .slice oA m.ed.opts.length oc] 45) := by rw [hb14]; exact heap_alloc_new _ _
  have hYX : Ext Y (Y.alloc (.cells #[.int .u16 m.hd.id, .bool m.hd.qr, .int .u8 m.hd.op, .bool m.hd.aa, .bool m.hd.tc, .bool m.hd.rd, .bool m.hd.ra, .bool m.hd.z, .bool m.hd.ad, .bool m.hd.cd, .int .u8 m.hd.code, .slice qA m.qs.length qc, .slice aA m.ans.length ac, .slice uA m.auth.length uc, .slice xA m.extra.length xc, .bool m.he, .int .u16 m.ed.size, .int .u8 m.ed.ext, .int .u8 m.ed.ver, .int .u16 m.ed.flags, .slice oA m.ed.opts.length oc] 45)) := (Ext.refl _).alloc _
  obtain ⟨X5, hX⟩ : ∃ X5, X5 = Y.alloc (.cells #[.int .u16 m.hd.id, .bool m.hd.qr, .int .u8 m.hd.op, .bool m.hd.aa, .bool m.hd.tc, .bool m.hd.rd, .bool m.hd.ra, .bool m.hd.z, .bool m.hd.ad, .bool m.hd.cd, .int .u8 m.hd.code, .slice qA m.qs.length qc, .slice aA m.ans.length ac, .slice uA m.auth.length uc, .slice xA m.extra.length xc, .bool m.he, .int .u16 m.ed.size, .int .u8 m.ed.ext, .int .u8 m.ed.ver, .int .u16 m.ed.flags, .slice oA m.ed.opts.length oc] 45) := ⟨_, rfl⟩
  rw [← hX] at r14 hYX ⊢
  clear hX hz4 hb14
  have hX5 : Ext w X5 := hY.trans hYX
  have h105 : Ext w10 X5 := (hE11.trans hEd).trans hYX
  have r45 := (h105.block _ (Array.getElem?_eq_some_iff.1 r510).1).trans r510
  have c0 := box_cell (j := 0) r14 rfl
  have c10 := box_cell (j := 10) r14 rfl
  have c4 := box_cell (j := 4) r14 rfl
  change X5.cell? ⟨b14, 0, none⟩ = some (.int .u16 m.hd.id) at c0
  change X5.cell? ⟨b14, 10, none⟩ = some (.int .u8 m.hd.code) at c10
  change X5.cell? ⟨b14, 4, none⟩ = some (.bool m.hd.tc) at c4
  rw [HMi.out] at c0
  have z5 := (Array.getElem?_eq_some_iff.1 r14).1
  have q0 := box_cell (j := 0) r45 rfl
  have q1 := box_cell (j := 1) r45 rfl
  have q2 := box_cell (j := 2) r45 rfl
  change X5.cell? ⟨b5q, 0, none⟩ = some (S n) at q0
  change X5.cell? ⟨b5q, 1, none⟩ = some (.int .u16 ty) at q1
  change X5.cell? ⟨b5q, 2, none⟩ = some (.int .u16 cls) at q2
  have z4 := (Array.getElem?_eq_some_iff.1 r45).1
  have HB := Lib.hid (show ∀ V, Ext X5 V → V.cell? ⟨b14, 10, none⟩ = some (.int .u8 m.hd.code) ∧ V.cell? ⟨b14, 4, none⟩ = some (.bool m.hd.tc) ∧ V.cell? ⟨b5q, 0, none⟩ = some (S n) ∧ V.cell? ⟨b5q, 1, none⟩ = some (.int .u16 ty) ∧ V.cell? ⟨b5q, 2, none⟩ = some (.int .u16 cls) from fun V hV => ⟨(hV.cell (p := ⟨b14, 10, none⟩) z5).trans c10, (hV.cell (p := ⟨b14, 4, none⟩) z5).trans c4, (hV.cell (p := ⟨b5q, 0, none⟩) z4).trans q0, (hV.cell (p := ⟨b5q, 1, none⟩) z4).trans q1, (hV.cell (p := ⟨b5q, 2, none⟩) z4).trans q2⟩)
  have HG := Lib.hid (rrset_groupR 0 _ l X5 (hg.ext hX5) (HH.out.ext hX5) HF1.out.bd (recsOk_wf hwf))
  have HF := Lib.hid (fun W (hW : Ext X5 W) x g (hS : Sets W x g (groupR l)) => chain_follow x n ty cls g (groupR l) W (hg.ext (hX5.trans hW)) hS (groupR_bd HF1.out.bd) (by have := HN4.out; omega))
  unfold FollowPost at HF
  have HSoa := Lib.hid (fun W (hW : Ext X5 W) x g (hS : Sets W x g (groupR l)) (hl : (followOf n ty cls (groupR l)).here.length ≤ maxLen) => soa_find x g (groupR l) (followOf n ty cls (groupR l)).here cls W hS (groupR_bd HF1.out.bd) hl)
  unfold SoaPost at HSoa
  unfold GroupPost at HG
  have hLen : (followOf n ty cls (groupR l)).here.length ≤ maxLen := by have := follow_here n ty cls (groupR l); unfold maxLen; omega
  unfold badR at HBad
  have HRc := Lib.hid (show m.hd.code = 0 ∨ m.hd.code = 2 ∨ m.hd.code = 3 from by rw [HMc.out]; exact (rlook_ok l n ty cls).code)
  rw [← HMc.out] at HBad
  have HVo := Lib.hid (fun V (hV : Ext w V) => ver_of ⟨0, false, 0, false, false, false, false, false, false, false, none, 0, 0, none, 0, 0, false, 0, 0, 0, 0, none, 0, 0⟩ n ty cls m.hd.code 0 A c A c l l V (hg.ext hV) (HH.out.ext hV) (HH.out.ext hV) HF1.out.bd HF1.out.bd (recsOk_wf hwf) (recsOk_wf hwf) (by have := HN4.out; omega))
  clear HMc HMd HDec HA1 HN1 HQ ho1 hR1 c10 r14 r45 z4 z5 hBd HGR
  generalize verOf n ty cls m.hd.code l l = VR at *
  generalize followOf n ty cls (groupR l) = F at *
  obtain ⟨path, here, fin, fe⟩ := F
  dsimp only at *
  generalize replyOf rs n ty cls = RP at *
  generalize groupR l = sets at *
  go_wp2_with fail
  refine HG.out.mono ?_
  rintro e w12 ⟨g, rfl, hos, hE12⟩
  have HOs := Lib.hid (hos.sets.lower (Nat.zero_le _))
  obtain ⟨gA, gc, rfl, hg1, hg2⟩ := hos.shape30v
  have hq12 := HB.out _ hE12
  obtain ⟨d10, d4, e0, e1, e2⟩ := hq12
  go_wp2_with fail
  refine (HF.out _ hE12 _ _ HOs.out).mono ?_
  rintro e w13 ⟨v2, u2, wm, rfl, ho2, hEm, ho3, hEn⟩
  have hE13 : Ext X5 w13 := (hE12.trans hEm).trans hEn
  have HOs13 := Lib.hid (HOs.out.ext (hEm.trans hEn))
  obtain ⟨vA, vc, rfl, hv1, hv2⟩ := ho2.shape30v
  obtain ⟨uA2, uc2, rfl, hu1, hu2⟩ := ho3.shape30v
  clear d10 d4 e0 e1 e2 ho2 ho3 hos HG HF q0 q1 q2 c0 c4
  by_cases hfe : fe = 0
  rotate_left
  · have hz1 : ((fe : Int) == 0) = false := by simpa using hfe
    have hz2 : ((fe : Int) != 0) = true := by simpa using hfe
    have hc2 : m.hd.code = 2 := HBad.out.2 (by rw [if_neg (fun h => hfe h.1)]; exact hfe)
    have hpass := Lib.hid (HMp.out (.inr hc2))
    clear hfe
    obtain ⟨d10, d4, e0, e1, e2⟩ := HB.out _ (hE13)
    have HLk1 := Lib.hid (HLk.out _ (hX5.trans (hE13)))
    unfold LookH at HLk1
    go_upto_region 16 with (first | (go_at_call 43; refine HLk1.out.mono ?_; rintro e w3 ⟨vs, vo, rfl, hs, ho, _, hE3⟩; have Hs := Lib.hid hs; have Ho := Lib.hid ho; obtain ⟨ps, pA, pc, hps, rfl, _, _⟩ := hs; obtain ⟨po, tA, tc, hpo, rfl, _, _⟩ := ho) | fail)
    (try dsimp only at Hs Ho ⊢)
    obtain ⟨W3, hW3⟩ : ∃ W3, W3 = w3.alloc (.cells #[.int .u8 RP.kind, .int .u8 RP.ver.code, .slice pA ps.length pc, .slice tA po.length tc, .int .u32 RP.ver.time] 91) := ⟨_, rfl⟩
    obtain ⟨b21, hb21⟩ : ∃ b21, b21 = w3.heap.size := ⟨_, rfl⟩
    have rX : W3.heap[b21]? = some (.cells #[.int .u8 RP.kind, .int .u8 RP.ver.code, .slice pA ps.length pc, .slice tA po.length tc, .int .u32 RP.ver.time] 91) := by rw [hW3, hb21]; exact heap_alloc_new _ _
    have hE34 : Ext w3 W3 := by rw [hW3]; exact (Ext.refl _).alloc _
    rw [← hW3, ← hb21]
    have HSs := Lib.hid ((Hs.out.sets.lower (Nat.zero_le _)).ext hE34)
    have HSo := Lib.hid ((Ho.out.sets.lower (Nat.zero_le _)).ext hE34)
    clear hW3 hb21 hps hpo d10 d4 e0 e1 e2 Hs Ho
    have hE30 : Ext X5 W3 := ((hE13).trans hE3).trans hE34
    have hw3 : Ext w W3 := hX5.trans hE30
    obtain ⟨d10, d4, e0, e1, e2⟩ := HB.out _ hE30
    have x0 := box_cell (j := 0) rX rfl
    change W3.cell? ⟨b21, 0, none⟩ = some (.int .u8 RP.kind) at x0
    have hkd : RP.kind = 2 := by rw [hpass.out]; rfl
    rw [hkd] at x0
    rw [hc2] at d10
    clear hkd rX
    rcases htc : m.hd.tc with _ | _
    all_goals
      rw [htc] at d4
      go_wp2_with fail
      go_ret
      exact ⟨rfl, hw3⟩
  subst hfe
  by_cases hff : fin = []
  rotate_left
  · have hz1 : ((fin.length : Int) == 0) = false := by
      rw [beq_eq_false_iff_ne]; intro h'; exact hff (List.eq_nil_of_length_eq_zero (by omega))
    have hc2 : m.hd.code ≠ 2 := fun h' => HBad.out.1 h' (by rw [if_neg (fun h => hff h.2)])
    clear hff
    obtain ⟨d10, d4, e0, e1, e2⟩ := HB.out _ (hE13)
    have HLk1 := Lib.hid (HLk.out _ (hX5.trans (hE13)))
    unfold LookH at HLk1
    go_upto_region 16 with (first | (go_at_call 43; refine HLk1.out.mono ?_; rintro e w3 ⟨vs, vo, rfl, hs, ho, _, hE3⟩; have Hs := Lib.hid hs; have Ho := Lib.hid ho; obtain ⟨ps, pA, pc, hps, rfl, _, _⟩ := hs; obtain ⟨po, tA, tc, hpo, rfl, _, _⟩ := ho) | fail)
    (try dsimp only at Hs Ho ⊢)
    obtain ⟨W3, hW3⟩ : ∃ W3, W3 = w3.alloc (.cells #[.int .u8 RP.kind, .int .u8 RP.ver.code, .slice pA ps.length pc, .slice tA po.length tc, .int .u32 RP.ver.time] 91) := ⟨_, rfl⟩
    obtain ⟨b21, hb21⟩ : ∃ b21, b21 = w3.heap.size := ⟨_, rfl⟩
    have rX : W3.heap[b21]? = some (.cells #[.int .u8 RP.kind, .int .u8 RP.ver.code, .slice pA ps.length pc, .slice tA po.length tc, .int .u32 RP.ver.time] 91) := by rw [hW3, hb21]; exact heap_alloc_new _ _
    have hE34 : Ext w3 W3 := by rw [hW3]; exact (Ext.refl _).alloc _
    rw [← hW3, ← hb21]
    have HSs := Lib.hid ((Hs.out.sets.lower (Nat.zero_le _)).ext hE34)
    have HSo := Lib.hid ((Ho.out.sets.lower (Nat.zero_le _)).ext hE34)
    clear hW3 hb21 hps hpo d10 d4 e0 e1 e2 Hs Ho
    have hE30 : Ext X5 W3 := ((hE13).trans hE3).trans hE34
    have hw3 : Ext w W3 := hX5.trans hE30
    obtain ⟨d10, d4, e0, e1, e2⟩ := HB.out _ hE30
    have x0 := box_cell (j := 0) rX rfl
    change W3.cell? ⟨b21, 0, none⟩ = some (.int .u8 RP.kind) at x0
    have hcc : (m.hd.code == 2) = false := by rw [beq_eq_false_iff_ne]; exact hc2
    rcases htc : m.hd.tc with _ | _
    rotate_left
    · have hkd : RP.kind = 2 := by rw [HMp.out (.inl htc)]; rfl
      rw [hkd] at x0
      rw [htc] at d4
      clear hkd rX
      go_wp2_with fail
      all_goals
        go_ret
        exact ⟨rfl, hw3⟩
    rw [htc] at d4
    obtain ⟨hrp, herr⟩ := HMv.out (by rw [htc]; rintro (h' | h'); cases h'; exact hc2 h')
    have hkd : RP.kind = 3 := by rw [hrp]
    have hvr : RP.ver = VR := by rw [hrp]
    rw [hkd] at x0
    rw [hvr] at HSs HSo
    have HVo1 := Lib.hid (HVo.out _ hw3)
    unfold VerPost at HVo1
    rw [herr] at HVo1
    have htm : RP.ver.time = VR.time := by rw [hvr]
    have hcdv : RP.ver.code = VR.code := by rw [hvr]
    have rX2 : W3.heap[b21]? = some (.cells #[.int .u8 3, .int .u8 VR.code, .slice pA ps.length pc, .slice tA po.length tc, .int .u32 VR.time] 91) := by rw [rX, hkd, htm, hcdv]
    clear rX hkd hvr hrp herr htm hcdv
    go_upto_region 21 with (first | (go_at_call 48; refine HVo1.out.mono ?_; rintro e w4 ⟨vs4, vo4, rfl, hs4, ho4, _, hE4⟩; have Hs4 := Lib.hid hs4; have Ho4 := Lib.hid ho4; obtain ⟨ps4, pA4, pc4, hps4, rfl, _, _⟩ := hs4; obtain ⟨po4, tA4, tc4, hpo4, rfl, _, _⟩ := ho4) | fail)
    (try dsimp only at Hs4 Ho4 ⊢)
    obtain ⟨W4, hW4⟩ : ∃ W4, W4 = w4.alloc (.cells #[.int .u8 VR.code, .slice pA4 ps4.length pc4, .slice tA4 po4.length tc4] 24) := ⟨_, rfl⟩
    obtain ⟨b22, hb22⟩ : ∃ b22, b22 = w4.heap.size := ⟨_, rfl⟩
    have rV : W4.heap[b22]? = some (.cells #[.int .u8 VR.code, .slice pA4 ps4.length pc4, .slice tA4 po4.length tc4] 24) := by rw [hW4, hb22]; exact heap_alloc_new _ _
    have h44 : Ext w4 W4 := by rw [hW4]; exact (Ext.refl _).alloc _
    rw [← hW4, ← hb22]
    have h34 : Ext W3 W4 := hE4.trans h44
    have HSm := Lib.hid (ver_same 0 0 VR.code VR.code _ _ _ _ VR.sets VR.soa VR.sets VR.soa W4 ((Hs4.out.sets.lower (Nat.zero_le _)).ext h44) ((Ho4.out.sets.lower (Nat.zero_le _)).ext h44) (HSs.out.ext h34) (HSo.out.ext h34))
    rw [show verSame VR.code VR.sets VR.soa VR.code VR.sets VR.soa = true from by unfold verSame; simp] at HSm
    have rX4 := (h34.block _ (Array.getElem?_eq_some_iff.1 rX2).1).trans rX2
    clear hW4 hb22 x0 d10 d4 e0 e1 e2 Hs4 Ho4 rX2 hps4 hpo4
    have x0 := box_cell (j := 0) rX4 rfl
    have x1 := box_cell (j := 1) rX4 rfl
    have x2 := box_cell (j := 2) rX4 rfl
    have x3 := box_cell (j := 3) rX4 rfl
    have x4 := box_cell (j := 4) rX4 rfl
    have y0 := box_cell (j := 0) rV rfl
    have y1 := box_cell (j := 1) rV rfl
    have y2 := box_cell (j := 2) rV rfl
    go_wp2_with fail
    refine HSm.out.mono ?_
    rintro e w9 ⟨rfl, hE9⟩
    have x49 := box_cell (j := 4) ((hE9.block _ (Array.getElem?_eq_some_iff.1 rX4).1).trans rX4) rfl
    clear x0 x1 x2 x3 x4 y0 y1 y2
    go_wp2_with fail
    go_ret
    exact ⟨rfl, (hw3.trans h34).trans hE9⟩
  subst hff
  obtain ⟨d10, d4, e0, e1, e2⟩ := HB.out _ hE13
  have HSoa1 := Lib.hid (HSoa.out _ hE13 _ _ HOs13.out hLen)
  go_wp2_with fail
  refine HSoa1.out.mono ?_
  rintro e w14 ⟨sd, rfl, _, hE14⟩
  have hEs : Ext X5 w14 := hE13.trans hE14
  clear d10 d4 e0 e1 e2 HSoa1
  generalize soaFind sets here cls = SR at *
  obtain ⟨sset, se⟩ := SR
  dsimp only at *
  by_cases hse : se = 0
  rotate_left
  · have hz2 : ((se : Int) != 0) = true := by simpa using hse
    have hc2 : m.hd.code = 2 := HBad.out.2 (by simpa using hse)
    have hpass := Lib.hid (HMp.out (.inr hc2))
    clear hse
    obtain ⟨d10, d4, e0, e1, e2⟩ := HB.out _ (hEs)
    have HLk1 := Lib.hid (HLk.out _ (hX5.trans (hEs)))
    unfold LookH at HLk1
    go_upto_region 16 with (first | (go_at_call 43; refine HLk1.out.mono ?_; rintro e w3 ⟨vs, vo, rfl, hs, ho, _, hE3⟩; have Hs := Lib.hid hs; have Ho := Lib.hid ho; obtain ⟨ps, pA, pc, hps, rfl, _, _⟩ := hs; obtain ⟨po, tA, tc, hpo, rfl, _, _⟩ := ho) | fail)
    (try dsimp only at Hs Ho ⊢)
    obtain ⟨W3, hW3⟩ : ∃ W3, W3 = w3.alloc (.cells #[.int .u8 RP.kind, .int .u8 RP.ver.code, .slice pA ps.length pc, .slice tA po.length tc, .int .u32 RP.ver.time] 91) := ⟨_, rfl⟩
    obtain ⟨b21, hb21⟩ : ∃ b21, b21 = w3.heap.size := ⟨_, rfl⟩
    have rX : W3.heap[b21]? = some (.cells #[.int .u8 RP.kind, .int .u8 RP.ver.code, .slice pA ps.length pc, .slice tA po.length tc, .int .u32 RP.ver.time] 91) := by rw [hW3, hb21]; exact heap_alloc_new _ _
    have hE34 : Ext w3 W3 := by rw [hW3]; exact (Ext.refl _).alloc _
    rw [← hW3, ← hb21]
    have HSs := Lib.hid ((Hs.out.sets.lower (Nat.zero_le _)).ext hE34)
    have HSo := Lib.hid ((Ho.out.sets.lower (Nat.zero_le _)).ext hE34)
    clear hW3 hb21 hps hpo d10 d4 e0 e1 e2 Hs Ho
    have hE30 : Ext X5 W3 := ((hEs).trans hE3).trans hE34
    have hw3 : Ext w W3 := hX5.trans hE30
    obtain ⟨d10, d4, e0, e1, e2⟩ := HB.out _ hE30
    have x0 := box_cell (j := 0) rX rfl
    change W3.cell? ⟨b21, 0, none⟩ = some (.int .u8 RP.kind) at x0
    have hkd : RP.kind = 2 := by rw [hpass.out]; rfl
    rw [hkd] at x0
    rw [hc2] at d10
    clear hkd rX
    rcases htc : m.hd.tc with _ | _
    all_goals
      rw [htc] at d4
      go_wp2_with fail
      go_ret
      exact ⟨rfl, hw3⟩
  have hc2 : m.hd.code ≠ 2 := fun h' => HBad.out.1 h' (by simpa using hse)
  subst hse
  obtain ⟨d10, d4, e0, e1, e2⟩ := HB.out _ (hEs)
  have HLk1 := Lib.hid (HLk.out _ (hX5.trans (hEs)))
  unfold LookH at HLk1
  go_upto_region 16 with (first | (go_at_call 43; refine HLk1.out.mono ?_; rintro e w3 ⟨vs, vo, rfl, hs, ho, _, hE3⟩; have Hs := Lib.hid hs; have Ho := Lib.hid ho; obtain ⟨ps, pA, pc, hps, rfl, _, _⟩ := hs; obtain ⟨po, tA, tc, hpo, rfl, _, _⟩ := ho) | fail)
  (try dsimp only at Hs Ho ⊢)
  obtain ⟨W3, hW3⟩ : ∃ W3, W3 = w3.alloc (.cells #[.int .u8 RP.kind, .int .u8 RP.ver.code, .slice pA ps.length pc, .slice tA po.length tc, .int .u32 RP.ver.time] 91) := ⟨_, rfl⟩
  obtain ⟨b21, hb21⟩ : ∃ b21, b21 = w3.heap.size := ⟨_, rfl⟩
  have rX : W3.heap[b21]? = some (.cells #[.int .u8 RP.kind, .int .u8 RP.ver.code, .slice pA ps.length pc, .slice tA po.length tc, .int .u32 RP.ver.time] 91) := by rw [hW3, hb21]; exact heap_alloc_new _ _
  have hE34 : Ext w3 W3 := by rw [hW3]; exact (Ext.refl _).alloc _
  rw [← hW3, ← hb21]
  have HSs := Lib.hid ((Hs.out.sets.lower (Nat.zero_le _)).ext hE34)
  have HSo := Lib.hid ((Ho.out.sets.lower (Nat.zero_le _)).ext hE34)
  clear hW3 hb21 hps hpo d10 d4 e0 e1 e2 Hs Ho
  have hE30 : Ext X5 W3 := ((hEs).trans hE3).trans hE34
  have hw3 : Ext w W3 := hX5.trans hE30
  obtain ⟨d10, d4, e0, e1, e2⟩ := HB.out _ hE30
  have x0 := box_cell (j := 0) rX rfl
  change W3.cell? ⟨b21, 0, none⟩ = some (.int .u8 RP.kind) at x0
  have hcc : (m.hd.code == 2) = false := by rw [beq_eq_false_iff_ne]; exact hc2
  rcases htc : m.hd.tc with _ | _
  rotate_left
  · have hkd : RP.kind = 2 := by rw [HMp.out (.inl htc)]; rfl
    rw [hkd] at x0
    rw [htc] at d4
    clear hkd rX
    go_wp2_with fail
    all_goals
      go_ret
      exact ⟨rfl, hw3⟩
  rw [htc] at d4
  obtain ⟨hrp, herr⟩ := HMv.out (by rw [htc]; rintro (h' | h'); cases h'; exact hc2 h')
  have hkd : RP.kind = 3 := by rw [hrp]
  have hvr : RP.ver = VR := by rw [hrp]
  rw [hkd] at x0
  rw [hvr] at HSs HSo
  have HVo1 := Lib.hid (HVo.out _ hw3)
  unfold VerPost at HVo1
  rw [herr] at HVo1
  have htm : RP.ver.time = VR.time := by rw [hvr]
  have hcdv : RP.ver.code = VR.code := by rw [hvr]
  have rX2 : W3.heap[b21]? = some (.cells #[.int .u8 3, .int .u8 VR.code, .slice pA ps.length pc, .slice tA po.length tc, .int .u32 VR.time] 91) := by rw [rX, hkd, htm, hcdv]
  clear rX hkd hvr hrp herr htm hcdv
  go_upto_region 21 with (first | (go_at_call 48; refine HVo1.out.mono ?_; rintro e w4 ⟨vs4, vo4, rfl, hs4, ho4, _, hE4⟩; have Hs4 := Lib.hid hs4; have Ho4 := Lib.hid ho4; obtain ⟨ps4, pA4, pc4, hps4, rfl, _, _⟩ := hs4; obtain ⟨po4, tA4, tc4, hpo4, rfl, _, _⟩ := ho4) | fail)
  (try dsimp only at Hs4 Ho4 ⊢)
  obtain ⟨W4, hW4⟩ : ∃ W4, W4 = w4.alloc (.cells #[.int .u8 VR.code, .slice pA4 ps4.length pc4, .slice tA4 po4.length tc4] 24) := ⟨_, rfl⟩
  obtain ⟨b22, hb22⟩ : ∃ b22, b22 = w4.heap.size := ⟨_, rfl⟩
  have rV : W4.heap[b22]? = some (.cells #[.int .u8 VR.code, .slice pA4 ps4.length pc4, .slice tA4 po4.length tc4] 24) := by rw [hW4, hb22]; exact heap_alloc_new _ _
  have h44 : Ext w4 W4 := by rw [hW4]; exact (Ext.refl _).alloc _
  rw [← hW4, ← hb22]
  have h34 : Ext W3 W4 := hE4.trans h44
  have HSm := Lib.hid (ver_same 0 0 VR.code VR.code _ _ _ _ VR.sets VR.soa VR.sets VR.soa W4 ((Hs4.out.sets.lower (Nat.zero_le _)).ext h44) ((Ho4.out.sets.lower (Nat.zero_le _)).ext h44) (HSs.out.ext h34) (HSo.out.ext h34))
  rw [show verSame VR.code VR.sets VR.soa VR.code VR.sets VR.soa = true from by unfold verSame; simp] at HSm
  have rX4 := (h34.block _ (Array.getElem?_eq_some_iff.1 rX2).1).trans rX2
  clear hW4 hb22 x0 d10 d4 e0 e1 e2 Hs4 Ho4 rX2 hps4 hpo4
  have x0 := box_cell (j := 0) rX4 rfl
  have x1 := box_cell (j := 1) rX4 rfl
  have x2 := box_cell (j := 2) rX4 rfl
  have x3 := box_cell (j := 3) rX4 rfl
  have x4 := box_cell (j := 4) rX4 rfl
  have y0 := box_cell (j := 0) rV rfl
  have y1 := box_cell (j := 1) rV rfl
  have y2 := box_cell (j := 2) rV rfl
  go_wp2_with fail
  refine HSm.out.mono ?_
  rintro e w9 ⟨rfl, hE9⟩
  have x49 := box_cell (j := 4) ((hE9.block _ (Array.getElem?_eq_some_iff.1 rX4).1).trans rX4) rfl
  clear x0 x1 x2 x3 x4 y0 y1 y2
  go_wp2_with fail
  go_ret
  exact ⟨rfl, (hw3.trans h34).trans hE9⟩
end Go.Proofs.YtbmjfjgfognimaaGreatDoor
namespace Go.Proofs.YtbmjfjgfognimaaGreatDoor
set_option linter.unusedSimpArgs false
set_option linter.unusedVariables false
open Go.ChangeShapes Go.WideShapes Go.RowKit Go.Deep Go.Joins
set_option maxRecDepth 100000
end Go.Proofs.YtbmjfjgfognimaaGreatDoor
namespace Go.Proofs.YtbmjfjgfognimaaGreatDoor
set_option linter.unusedSimpArgs false
set_option linter.unusedVariables false
open Go.ChangeShapes Go.WideShapes Go.ChangeAt Go.RowKit
set_option maxRecDepth 100000

theorem resolverVotes_contract (H : Type) (enc : TypeId × Value → H) (W : World) (base : Nat) (args : Array Value) (ds gs : List (DataW H)) (before : List MemPlace)
    (hval : ∀ (j : Nat) t v, Tryz.f13.params[j]? = some t → args[j]? = some v → Value.okWide Tryz.prog W .any base t v)
    (hW : DataW.Whole enc Tryz.prog Tryz.f13.params.toList Rows.resolverVotesSpec.vars false W args.toList ds gs before)
    (hsz : (DataW.weightsEach Tryz.prog (Tryz.f13.params.toList ++ (OpenSpec.ofChange Rows.resolverVotesSpec).bare.plain.varTypes Tryz.prog) (ds ++ gs)).all (· ≤ reachBytes) = true)
    (hL : laidMetH Tryz.prog laidL W) :
    Calls Tryz.prog 13 args W fun e W' => ∃ v, e = .returned v ∧ Rows.resolverVotesSpec.post enc Tryz.prog Tryz.f13 false true false false W args v W' := by
  have hW' := hW
  have hp : ∀ t ∈ Tryz.f13.params.toList, Tryz.prog.readableRec t = true ∧ t < Tryz.prog.types.size := by
    have h : (Tryz.f13.params.toList.all fun t => Tryz.prog.readableRec t && decide (t < Tryz.prog.types.size)) = true := by kernel_rfl
    simpa only [List.all_eq_true, Bool.and_eq_true, decide_eq_true_eq] using h
  have hg := laid_of hL
  have hb := laidbits_of hL
  obtain ⟨p, q, hA0, hV, rfl, _, _⟩ := hW
  have hA : DataW.TrodAll enc Tryz.prog W 0 (fun _ => true) true Tryz.f13.params.toList args.toList ds p := hA0
  clear hA0
  rw [Tryz.params13] at hA hval hsz
  obtain ⟨rfl, rfl⟩ := trodVars_none hV
  obtain ⟨ea, eb, he⟩ := errs_of hL
  obtain ⟨v0, v1, v2, v3, d0, d1, d2, d3, p0, p1, p2, p3, rfl, rfl, rfl, h0, h1, h2, h3⟩ := trodAll_four hA
  obtain ⟨l, hr0, hlo⟩ := open_recsW (hval 0 _ _ rfl rfl) h0
  obtain ⟨n, ty, cl, rfl, hn, hq1, hq2⟩ := open_question (hval 1 _ _ rfl rfl) h1
  obtain ⟨id, rfl, hi1, hi2⟩ := open_u16 (hval 2 _ _ rfl rfl) h2
  obtain ⟨sz, rfl, hs1, hs2⟩ := open_u16 (hval 3 _ _ rfl rfl) h3
  refine (law30_votes v0 l n ty cl id sz ea eb W hg hb he hr0 (fun r hr => (hlo r hr).1.2.2) (fun r hr => ⟨Nat.le_trans (reach_of hsz (j := 0) rfl rfl (hlo r hr).2.1) (by unfold maxLen; decide), Nat.le_trans (reach_of hsz (j := 0) rfl rfl (hlo r hr).2.2) (by unfold maxLen; decide)⟩) hn hq1 hq2 ⟨hi1, hi2⟩ ⟨hs1, hs2⟩).mono ?_
  rintro e W' ⟨rfl, hE⟩
  exact ⟨_, rfl, post_true laid_out rfl (by kernel_rfl) Tryz.underlying4 hp hW' rfl hE⟩

theorem resolverVotes_reads (os : Os) {H : Type} (enc : TypeId × Value → H) : ∃ places, DataW.whole enc Tryz.prog ((laidWorld os).forCall (fun _ _ => 0) ⟨#[], #[.slice none 0 0, .agg #[.string ⟨#[]⟩, .int .u16 0, .int .u16 0], .int .u16 0, .int .u16 0], []⟩).memory Tryz.f13.params.toList Rows.resolverVotesSpec.vars false (#[.slice none 0 0, .agg #[.string ⟨#[]⟩, .int .u16 0, .int .u16 0], .int .u16 0, .int .u16 0] : Array Value).toList 8 = some ([.nil, .agg [.lit (.string []), .lit (.int .u16 0), .lit (.int .u16 0)], .lit (.int .u16 0), .lit (.int .u16 0)], [], places) :=
  ⟨[], by kernel_rfl⟩
theorem resolverVotes_lifted (os : Os) (started : os.Started) (H : Type) (enc : TypeId × Value → H) (F : Stop.Interp) :
    ReturnsInHanded {} Tryz.checked os 13 .any ((OpenSpec.ofChange Rows.resolverVotesSpec).preRow enc Tryz.prog Tryz.f13 Rows.resolverVotesRow.domain false Rows.resolverVotesRow.laid) (((OpenSpec.ofChange Rows.resolverVotesSpec).at F).post enc Tryz.prog Tryz.f13 false true false false) := by
  obtain ⟨places, hx⟩ := resolverVotes_reads os enc
  refine returnsInHanded_of_row (C := Tryz.checked) (s := OpenSpec.ofChange Rows.resolverVotesSpec) own_knob started (by kernel_rfl) Tryz.func13
    (witness_row_at (enc := enc) (C := Tryz.checked) false (laidWorld os) #[.slice none 0 0, .agg #[.string ⟨#[]⟩, .int .u16 0, .int .u16 0], .int .u16 0, .int .u16 0] rfl (by kernel_rfl) (by kernel_rfl) (by kernel_rfl)
      (OpenSpec.preRow_of_cond 8 hx (by kernel_rfl) (fun k hk => by cases hk) (by kernel_rfl) (laid_met os _))) ?_
  intro W base args ds gs before hval hW _ _ hsz hL _ _
  exact resolverVotes_contract H enc W base args ds gs before hval hW hsz hL
theorem band_card (a b : Bool) (h1 : a = true) (h2 : b = true) : (a && b) = true := by rw [h1, h2]; rfl
set_option maxHeartbeats 4000000 in
theorem resolverVotes_joined : joinedFacts Tryz.prog 13 Tryz.f13 (OpenSpec.ofChange Rows.resolverVotesSpec).bare Rows.resolverVotesRow = true := by
  unfold joinedFacts; repeat' (with_reducible refine band_card _ _ ?_ ?_)
  all_goals (as_aux_lemma => kernel_rfl)
set_option maxHeartbeats 4000000 in
theorem resolverVotes_said : Rows.ResolverVotesSaid :=
  OpenClaim.holds_of_cond 13 Tryz.f13 rfl rfl rfl rfl rfl rfl rfl ⟨rfl, rfl, rfl, rfl, rfl⟩ rfl rfl rfl rfl rfl (by kernel_rfl) Tryz.func13 resolverVotes_joined
    (of_decide_eq_true (by kernel_rfl)) (by unfold Func.isWrapper; first | (rw [if_pos (by decide +kernel)]; kernel_rfl) | (rw [if_neg (by decide +kernel)]; exact ⟨rfl, rfl⟩))
    (fun os started H enc _ F => by rw [OpenClaim.pre_eq_preRow]; exact resolverVotes_lifted os started H enc F)
/-- THE CARD. -/
theorem resolverVotes_card : Rows.ResolverVotesCardSaid :=
  Claim7.holds_tied_plain_at .later [] _ _ _ _ resolverVotes_said (fun _ h => by cases h) (by as_aux_lemma => kernel_rfl) (fun _ h => by cases h) resolverVotes_row_tie rfl ⟨rfl, rfl⟩ (by as_aux_lemma => kernel_rfl) rfl
    (fun f fn hf hfn => by
      obtain rfl : f = 13 := Option.some.inj ((show Tryz.prog.funcNamed Rows.resolverVotesRow.func = some 13 by kernel_rfl).symm.trans hf) |>.symm
      obtain rfl : fn = Tryz.f13 := (Option.some.inj (Tryz.func13.symm.trans hfn)).symm
      refine ⟨by kernel_rfl, fun j t ht => ?_⟩
      have h : (Tryz.f13.params.toList.all fun t => !Tryz.prog.wantsStandIn t) = true := by kernel_rfl
      have h2 := List.all_eq_true.1 h t (by simpa using Array.mem_of_getElem? ht)
      exact (by simpa using h2 : Tryz.prog.wantsStandIn t = false))
    (by as_aux_lemma => kernel_rfl)
#print axioms resolverVotes_card
end Go.Proofs.YtbmjfjgfognimaaGreatDoor
