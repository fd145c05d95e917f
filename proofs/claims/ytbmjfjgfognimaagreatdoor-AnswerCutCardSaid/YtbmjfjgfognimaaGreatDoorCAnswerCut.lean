/- hustingslaw28.AnswerCut returns true for every input, and every argument reads behind the call as it read before; the listed variables are tied to the program's text. No condition of ours. -/
import Derived.Test.YtbmjfjgfognimaaGreatDoorCards
import Derived.Test.YtbmjfjgfognimaaGreatDoorTie
import Derived.Test.YtbmjfjgfognimaaGreatDoorBb
import Derived.ProofKit
import Derived.OpenShut
import Derived.LaidHandle
import Derived.LaidLaws
import Derived.Test.YtbmjfjgfognimaaGreatDoorBwy
import Derived.Deep.DeepHandedRow
import Derived.Test.YtbmjfjgfognimaaGreatDoorBrw
import Derived.Test.YtbmjfjgfognimaaGreatDoorBrz
import Derived.Test.YtbmjfjgfognimaaGreatDoorBrr
import Derived.Test.YtbmjfjgfognimaaGreatDoorBhx
import Derived.Test.YtbmjfjgfognimaaGreatDoorBg
import Derived.Test.YtbmjfjgfognimaaGreatDoorBry
import Derived.Carry
namespace Go.Proofs.YtbmjfjgfognimaaGreatDoor
set_option linter.unusedSimpArgs false
set_option linter.unusedVariables false
open Go.ChangeShapes Go.WideShapes Go.ChangeAt Go.RowKit
set_option maxRecDepth 100000

theorem own_knob : ownKnob Tryz.prog.godebug = none := by kernel_rfl
theorem et_at : Tryz.prog.globalNamed "errors.errorType" = some 3 := by kernel_rfl
theorem one_row : ((List.range Tryz.prog.types.size).filter fun t => Tryz.prog.rowNamed t [101, 114, 114, 111, 114]) = [160] := by kernel_rfl
def laidL : List (String × DataW Unit) := [("errors.errorType", Rows.laid_errors_errorType), ("hustings/head.bits", Rows.laid_hustings_head_bits)]

theorem laid_of {W : World} (h : laidMetH Tryz.prog laidL W) : Laid W := by
  have h' : laidMet Tryz.prog [("hustings/head.bits", Rows.laid_hustings_head_bits)] W ∧ handlesMet Tryz.prog [("errors.errorType", Rows.laid_errors_errorType)] W := h
  obtain ⟨name, u, ty, e1, e2, e3, e4, e5⟩ := h'.2 _ (List.mem_singleton.2 rfl)
  have en : name = [101, 114, 114, 111, 114] := (Option.some.inj e1).symm
  subst en
  obtain rfl : u = 322 := Option.some.inj (e2.symm.trans (by kernel_rfl))
  have hm : ty ∈ (List.range Tryz.prog.types.size).filter fun t => Tryz.prog.rowNamed t [101, 114, 114, 111, 114] := List.mem_filter.2 ⟨List.mem_range.2 e3, e4⟩
  rw [one_row] at hm
  obtain rfl := List.mem_singleton.1 hm
  have hh : typeHandle Tryz.prog 160 = hdl 160 := by kernel_rfl
  rw [hh] at e5
  show W.cell? ⟨3, 0, none⟩ = _
  simpa using World.var?_cell et_at e5 0

theorem bits_at : Tryz.prog.globalNamed "hustings/head.bits" = some 2 := by kernel_rfl
theorem one_cell {l : List Value} {i : Nat} {v : Value} (h : (l.drop i).take 1 = [v]) : l[i]? = some v := by
  have h1 := congrArg (fun x : List Value => x[0]?) h
  simpa using h1
def bitsL : List Int := [32768, 1024, 512, 256, 128, 64, 32, 16]
theorem laidbits_of {W : World} (h : laidMetH Tryz.prog laidL W) : BitsAt W := by
  have h' : laidMet Tryz.prog [("hustings/head.bits", Rows.laid_hustings_head_bits)] W ∧ handlesMet Tryz.prog [("errors.errorType", Rows.laid_errors_errorType)] W := h
  obtain ⟨ps, hlv, _, _⟩ := h'.1
  obtain ⟨g, t, cs, fuel, p, q, e1, e2, e3, e4, _, _⟩ := hlv
  obtain rfl : 2 = g := Option.some.inj (bits_at.symm.trans e1)
  obtain rfl : 260 = t := Option.some.inj ((show (Tryz.prog.globals[2]?).map (·.type) = some 260 by kernel_rfl).symm.trans e2)
  obtain ⟨xs, n, _, hd, _, hlen, hf⟩ := DataW.trod_array Tryz.underlying260 e4
  have hd1 := (Prod.mk.inj hd).1
  have key : ∀ i, i < 8 → cs.toList[i]? = some (.int .u16 (bitsL.getD i 0)) := fun i hi => by
    have hx : (xs.map (·.1))[i]? = some (.lit (.int .u16 (bitsL.getD i 0))) := by
      have h1 : xs.map (·.1) = bitsL.map fun k => (.lit (.int .u16 k) : DataW Unit) := by
        injection hd1 with h1
        exact h1.symm
      rw [h1, List.getElem?_map, List.getElem?_eq_getElem (show i < bitsL.length from hi)]
      simp [List.getD, List.getElem?_eq_getElem (show i < bitsL.length from hi)]
    rw [List.getElem?_map] at hx
    obtain ⟨y, hy1, hy2⟩ := Option.map_eq_some_iff.1 hx
    have h2 := (hf i hi).trans hy1
    rw [show Tryz.prog.cellsOf 26 = 1 by kernel_rfl, Nat.mul_one] at h2
    obtain ⟨m, g1, g2, _⟩ := DataW.trod_int Tryz.underlying26 h2
    rw [g2] at hy2
    have hm : m = bitsL.getD i 0 := by
      injection hy2 with hy2
      injection hy2
    rw [← hm]
    exact one_cell g1
  have key2 : ∀ i, i < 8 → W.cell? ⟨2, i, none⟩ = some (.int .u16 (bitsL.getD i 0)) := fun i hi => by
    rw [World.var?_cell bits_at e3 i]
    simpa using key i hi
  exact ⟨key2 0 (by omega), key2 1 (by omega), key2 2 (by omega), key2 3 (by omega), key2 4 (by omega), key2 5 (by omega), key2 6 (by omega), key2 7 (by omega)⟩
noncomputable def laidWorld (os : Os) : World :=
  let w0 := World.holding Tryz.prog os ⟨#[], #[], []⟩
  { w0 with heap := (w0.heap.modify 3 fun
      | .cells _ t frozen => .cells #[errTy] t frozen
      | o => o).modify 2 fun
      | .cells _ t frozen => .cells #[.int .u16 32768, .int .u16 1024, .int .u16 512, .int .u16 256, .int .u16 128, .int .u16 64, .int .u16 32, .int .u16 16] t frozen
      | o => o }
theorem laid_met (os : Os) (args : Array Value) : laidMetH Tryz.prog laidL ((laidWorld os).forCall (fun _ _ => 0) ⟨#[], args, []⟩).memory :=
  laidMetH_of_parts (laidMet_of_run' 8 (by kernel_rfl) (by kernel_rfl)) (by kernel_rfl)

section
variable {H : Type} {enc : TypeId × Value → H} {P : Program}
theorem trodAll_stays (hl : laidOutB P = true) {W W' : World} (hb : Below W.heap.size W W') {sp : Nat → Bool} : ∀ {ts : List TypeId} {vs : List Value} {ds : List (DataW H)} {ps : List MemPlace},
    (∀ t ∈ ts, P.readableRec t = true ∧ t < P.types.size) → DataW.TrodAll enc P W 0 (fun _ => true) true ts vs ds ps → (∀ x ∈ ps, x.block < W.heap.size) → (∀ x ∈ ps, sp x.block = true) → DataW.TrodAll enc P W' 0 sp true ts vs ds ps
  | [], _, _, _, _, h, _, _ => by obtain ⟨rfl, rfl, rfl⟩ := trodAll_nil h; exact trodAll_mk0
  | t :: ts, _, _, _, ht, h, hlt, hs => by
    obtain ⟨v, vs, d, ds, p, q, rfl, rfl, rfl, h0, h1⟩ := trodAll_cons h
    have h2 := ht t (by simp)
    exact trodAll_cons_mk (WideElems.Trod_stays hl h2.1 h2.2 h0 (fun x hx => hb.same (hlt x (by simp [hx]))) (fun x hx => hs x (by simp [hx])))
      (trodAll_stays hl hb (fun t ht' => ht t (by simp [ht'])) h1 (fun x hx => hlt x (by simp [hx])) (fun x hx => hs x (by simp [hx])))
theorem post_of_below {f : Func} {s : ChangeSpec} {apart fresh handsOn again : Bool} {W W' : World} {args : Array Value} {v : Value} {ds gs : List (DataW H)} {before pa pv : List MemPlace}
    (hW : DataW.Whole enc P f.params.toList s.vars apart W args.toList ds gs before)
    (hres : ∀ (b : Nat) (sp : Nat → Bool) (hd : Bool), DataW.TrodAll enc P W' b sp hd f.resultTypes.toList (v.resultList f.resultTypes.size) (s.fn H (ds ++ gs)).results [])
    (hargs : ∀ sp : Nat → Bool, (∀ p ∈ before, sp p.block = true) → DataW.TrodAll enc P W' 0 sp true f.params.toList args.toList (s.fn H (ds ++ gs)).args pa)
    (hvars : ∀ sp : Nat → Bool, (∀ p ∈ before, sp p.block = true) → DataW.TrodVars enc P W' sp s.vars (s.fn H (ds ++ gs)).vars pv)
    (hps : before = pa ++ pv) (hb : Below W.heap.size W W')
    (hok : ∀ (j : Nat) (t : TypeId) (r : Value), f.resultTypes[j]? = some t → (v.resultList f.resultTypes.size)[j]? = some r → Value.okWide P W' .any 0 t r) :
    s.post enc P f apart fresh handsOn again W args v W' := by
  have hlt : ∀ p ∈ before, p.block < W.heap.size := fun p hp => hW.lt p hp
  have hold : ∀ p ∈ before, (fun b => decide (b < W.heap.size)) p.block = true := fun p hp => by simpa using hlt p hp
  refine ⟨ds, gs, before, [], pa, pv, hW, hres _ _ _, hargs _ hold, hvars _ hold, World.keptBut_mono (fun p hp => ⟨hp, ?_⟩) (hb.frame (· ∈ before)), fun _ => ?_⟩
  · rw [hps, List.mem_append] at hp
    exact Or.inr hp
  · obtain ⟨_, _, _, _, _, hz, hn⟩ := hW
    refine ⟨hok, _, _, ([] ++ pa) ++ pv, ⟨[] ++ pa, pv, trodAll_append (hargs _ (fun _ _ => rfl)) (hres _ _ _), hvars _ (fun _ _ => rfl), rfl, ?_, ?_⟩, ?_⟩
    · intro b off hp
      have hin : MemPlace.cell b off ∈ before := by rw [hps]; simpa using hp
      rw [hb.frozen (hlt _ hin)]
      exact hz b off hin
    · intro ha
      have := hn ha
      rw [hps] at this
      simpa using this
    · intro p hp _
      rw [hps]
      simpa using hp
/-- A law that returns true and only makes memory: its post. -/
theorem post_true {f : Func} {s : ChangeSpec} {apart fresh handsOn again : Bool} {W W' : World} {args : Array Value} {ds gs : List (DataW H)} {before : List MemPlace} {t : TypeId}
    (hl : laidOutB P = true) (hvn : s.vars = []) (hr : f.resultTypes = #[t]) (ht : P.underlying t = some .bool)
    (hp : ∀ t ∈ f.params.toList, P.readableRec t = true ∧ t < P.types.size)
    (hW : DataW.Whole enc P f.params.toList s.vars apart W args.toList ds gs before)
    (hfn : s.fn H ds = { results := [.lit (.bool true)], args := ds }) (hb : Ext W W') :
    s.post enc P f apart fresh handsOn again W args (.bool true) W' := by
  have hW' := hW
  obtain ⟨p, q, hA, hV, rfl, _, _⟩ := hW
  rw [hvn] at hV
  obtain ⟨rfl, rfl⟩ := trodVars_none hV
  have hlt : ∀ x ∈ p, x.block < W.heap.size := fun x hx => by simpa using hW'.lt x (by simp [hx])
  refine post_of_below (pa := p) (pv := []) hW' (fun _ _ _ => ?_) (fun sp hs => ?_) (fun _ _ => ?_) rfl hb (ok_one hr rfl (okWide_bool_mk ht _))
  · rw [List.append_nil, hfn, hr]; exact trodAll_mk1 (shut_bool ht true)
  · rw [List.append_nil, hfn]; exact trodAll_stays hl hb hp hA hlt (fun x hx => hs x (by simp [hx]))
  · rw [List.append_nil, hfn, hvn]; rfl
end
theorem laid_out : laidOutB Tryz.prog = true := by kernel_rfl
end Go.Proofs.YtbmjfjgfognimaaGreatDoor
namespace Go.Proofs.YtbmjfjgfognimaaGreatDoor
set_option linter.unusedSimpArgs false
set_option linter.unusedVariables false
/-- A message with another message's size of EDNS, if it has EDNS. -/
def sizeM (w m : MsgD) : MsgD := if w.he = true then { w with ed := { w.ed with size := m.ed.size } } else w
theorem full_sizeM (c : CameD) (code : Int) (sets soa : List SetD) (t a b : Int) : sizeM (fullOf c code sets soa t b) (fullOf c code sets soa t a) = fullOf c code sets soa t a := by
  unfold sizeM fullOf blankOf
  dsimp only
  cases c.hasE <;> simp
/-- AnswerCut, plainly: TC is set just if the message with all records has no room; with more room an answer is the same, but for its size of EDNS. -/
theorem cut_plain {d : List UInt8} {c : CameD} (hc : LookOk d c) {code : Int} {sets soa : List SetD} {ttl size : Int} (h1 : ∀ s ∈ sets, s.wfT) (h2 : ∀ s ∈ soa, s.wfT) (ht : 0 ≤ ttl ∧ ttl ≤ 4294967295) (s1 : SmL sets) (s2 : SmL soa)
    (h : ansOf c code sets soa ttl size ≠ []) :
    (ansOf c code sets soa ttl size).length ≤ 65535 ∧ ∃ m, decR (ansOf c code sets soa ttl size) = .ok m ∧ m.ans.length ≤ 65535 ∧ m.auth.length ≤ 65535 ∧
      ∃ wh : MsgD, wh = { m with hd := { m.hd with tc := false }, ans := recsT sets ttl, auth := recsT soa ttl } ∧ wh.wf ∧ (encErr wh = 0 ∨ encErr wh = 5) ∧ (m.hd.tc = false ↔ (encErr wh = 0 ∧ ((encOf wh).length : Int) ≤ roomOf c size)) ∧
      (m.hd.tc = false → ∀ more, size ≤ more → more ≤ 4096 → (ansOf c code sets soa ttl more).length ≤ 65535 ∧ ∃ w, decR (ansOf c code sets soa ttl more) = .ok w ∧ w.ans.length ≤ 65535 ∧ w.auth.length ≤ 65535 ∧ sizeM w m = m ∧ w = { m with ed := w.ed } ∧ w.ed = { m.ed with size := w.ed.size }) := by
  obtain ⟨⟨hM, hm⟩, hor⟩ := ans_read hc h1 h2 ht h
  have l1 : (recsT sets ttl).length ≤ 16000 := by rw [← rows_timed, List.length_map]; exact rows_len s1
  have l2 : (recsT soa ttl).length ≤ 16000 := by rw [← rows_timed, List.length_map]; exact rows_len s2
  have hbw := blank_wf hc.wf code size
  have hw : (fullOf c code sets soa ttl size).wf := ⟨hbw.id, hbw.op, hbw.code, hbw.qs, recsT_wf h1 ht, recsT_wf h2 ht, hbw.extra, hbw.size, hbw.ext, hbw.ver, hbw.flags, hbw.opts⟩
  have hee := may_err hm
  have hroom : roomy c code sets soa ttl size ↔ (encErr (fullOf c code sets soa ttl size) = 0 ∧ ((encOf (fullOf c code sets soa ttl size)).length : Int) ≤ roomOf c size) := by
    unfold roomy
    constructor
    · rintro ⟨a, b⟩; exact ⟨a, by rw [(enc_may a).2.2]; exact b⟩
    · rintro ⟨a, b⟩; exact ⟨a, by rw [(enc_may a).2.2] at b; exact b⟩
  rcases hor with ⟨hr, e, hd, _⟩ | ⟨hr, e, hd, hl⟩
  · have e1 := (enc_may hr.1).2
    refine ⟨by rw [e, e1.2]; exact e1.1, _, hd, ?_, ?_, fullOf c code sets soa ttl size, rfl, hw, hee, ⟨fun _ => hroom.1 hr, fun _ => rfl⟩, fun _ more hle hmm => ?_⟩
    · show (recsT sets ttl).length ≤ _; omega
    · show (recsT soa ttl).length ≤ _; omega
    · have hr2 := room_more hle hr
      have hg2 : ansMay c code sets soa ttl more ∧ mayM (fullOf c code sets soa ttl more) = true := ⟨⟨hM.1, ⟨by have := hM.2.1.1; omega, hmm⟩, hM.2.2⟩, (full_size c code sets soa ttl size more).1.trans hm⟩
      have hn2 : ansOf c code sets soa ttl more = encOf (fullOf c code sets soa ttl more) := by unfold ansOf; rw [if_pos hg2, if_pos hr2]
      have hne2 : ansOf c code sets soa ttl more ≠ [] := by rw [hn2]; exact enc_ne hr2.1
      obtain ⟨_, hor2⟩ := ans_read hc h1 h2 ht hne2
      rcases hor2 with ⟨_, _, hd2, _⟩ | ⟨hr3, _⟩
      · have e2 := (enc_may hr2.1).2
        refine ⟨by rw [hn2, e2.2]; exact e2.1, _, hd2, ?_, ?_, full_sizeM c code sets soa ttl size more, ?_, ?_⟩
        · show (recsT sets ttl).length ≤ _; omega
        · show (recsT soa ttl).length ≤ _; omega
        · rfl
        · unfold fullOf blankOf; dsimp only; cases c.hasE <;> rfl
      · exact absurd hr2 hr3
  · refine ⟨by omega, _, hd, Nat.zero_le _, Nat.zero_le _, fullOf c code sets soa ttl size, rfl, hw, hee, ⟨fun hx => ?_, fun hx => absurd (hroom.2 hx) hr⟩, fun hx => ?_⟩
    · cases hx
    · cases hx
end Go.Proofs.YtbmjfjgfognimaaGreatDoor
namespace Go.Proofs.YtbmjfjgfognimaaGreatDoor
set_option linter.unusedSimpArgs false
set_option linter.unusedVariables false
open Go.RowKit
set_option maxRecDepth 100000

theorem load_rowC {P : Program} {ops : Array Oper} {Q : Exit → Act → World → Prop} {rest : List Oper} {o : Oper} {a : Act} {w : World} (hwn : Region.wanted o (yielded ops a.tmps) = true) (ty : TypeId) (x : Operand) (ho : o.op = .load ty x)
    (g : Nat) (hx : a.eval x = .pointer (some ⟨g, 0, none⟩)) (t : TypeId) (cs : Array Value) (fr : Nat × Nat) (d : TypeDesc) (hg : w.heap[g]? = some (.cells cs t fr))
    (hu : P.underlying ty = some d) (hd : (match d with | .struct _ | .array _ _ => true | _ => false) = true) (hi : (P.info? ty).map (·.size) = some cs.size)
    (h : wpList P ops Q rest (a.put o.dst (.agg cs)) w) : wpList P ops Q (o :: rest) a w :=
  wpList_step fun K hK => by
    rw [if_pos hwn]
    exact wp_load_row ty x ho g hx t cs fr d hg hu hd hi (hK _ _ h)
theorem recsT_ok7 {l : List SetD} (h : SmL l) (t : Int) : ∀ r ∈ recsT l t, Rec7Ok r := fun r hr => by
  rw [← rows_timed] at hr
  obtain ⟨x, hx, rfl⟩ := List.mem_map.1 hr
  have := rows_sm h x hx
  exact ⟨by show x.name.length ≤ _; omega, by show x.data.length ≤ _; omega⟩
theorem cut_msg7 {m wh : MsgD} {Y X : World} {lo lo1 lo2 : Nat} {q a u x o v0 v1 : Value} {sets soa : List SetD} {ttl : Int} (hwh : wh = { m with hd := { m.hd with tc := false }, ans := recsT sets ttl, auth := recsT soa ttl })
    (hM : MsgO Y lo m q a u x o) (hE : Ext Y X) (h0 : ORec7 X lo1 v0 (recsT sets ttl)) (h1 : ORec7 X lo2 v1 (recsT soa ttl)) (hb : MsgBd m) (s1 : SmL sets) (s2 : SmL soa) : Msg7 X wh q v0 v1 x o := by
  have h8 := ((hM.lower (Nat.zero_le _)).ext hE).msg7 hb
  subst hwh
  exact ⟨h8.qs, h0.recs.lower (Nat.zero_le _), h1.recs.lower (Nat.zero_le _), h8.extra, h8.opts, hb.qok, recsT_ok7 s1 ttl, recsT_ok7 s2 ttl, hb.xok, hb.xl⟩
set_option maxHeartbeats 16000000 in
theorem law28_cut (d : List UInt8) (vc ttl n mo : Int) (vs vo : Value) (sets soa : List SetD) (w : World) (hg : Laid w) (hb : BitsAt w) (h : Arg28 w d vc ttl vs vo sets soa) (hn : 0 ≤ n ∧ n ≤ 65535) (hmo : 0 ≤ mo ∧ mo ≤ 65535) :
    Calls Tryz.prog 4 #[S d, .agg #[.int .u8 vc, vs, vo], .int .u32 ttl, .int .u16 n, .int .u16 mo] w (AwPost w) := by
  have HAw := Lib.hid (fun V (hV : Ext w V) => law28_awake V (hg.ext hV) (hb.ext hV))
  have HSm := Lib.hid (fun V (hV : Ext w V) => law28_small vc vs vo sets soa V (h.vs.ext hV) (h.vo.ext hV))
  have H := Lib.hid h
  obtain ⟨sps, sA, sc, hspe, rfl, hsp1, hsp2, hsrd, hsst⟩ := h.vs
  obtain ⟨ops, oA, oc, hope, rfl, hop1, hop2, hord, host⟩ := h.vo
  have Hspe := Lib.hid hspe
  have Hope := Lib.hid hope
  clear hspe hope
  have hdl := h.d
  unfold maxLen at hdl
  clear h
  obtain ⟨X0, hX0⟩ : ∃ X0, X0 = w.alloc (.cells #[.int .u8 vc, .slice sA sps.length sc, .slice oA ops.length oc] 24) := ⟨_, rfl⟩
  have hw0 : Ext w X0 := by rw [hX0]; exact (Ext.refl _).alloc _
  have r0 : X0.heap[w.heap.size]? = some (.cells #[.int .u8 vc, .slice sA sps.length sc, .slice oA ops.length oc] 24) := by rw [hX0]; exact heap_alloc_new _ _
  have z0 : X0.cell? ⟨w.heap.size, 0, none⟩ = some (.int .u8 vc) := box_cell r0 rfl
  have z1 : X0.cell? ⟨w.heap.size, 1, none⟩ = some (.slice sA sps.length sc) := box_cell r0 rfl
  have z2 : X0.cell? ⟨w.heap.size, 2, none⟩ = some (.slice oA ops.length oc) := box_cell r0 rfl
  go_enter Tryz.func4, Tryz.ntmps4
  go_upto_region 1 with fail
  have hzz : w.alloc (.cells #[.int .u8 vc, .slice sA sps.length sc, .slice oA ops.length oc] 24) = X0 := hX0.symm
  rw [hzz]
  clear hzz hX0
  by_cases hlong : 3000 < d.length
  · have hli : (3000 : Int) < (d.length : Int) := by omega
    clear z0 z1 z2
    go_wp2_with fail
    refine (HAw.out _ hw0).mono ?_
    rintro e w1 ⟨rfl, hE1⟩
    go_wp2_with fail
    go_ret
    exact ⟨rfl, hw0.trans hE1⟩
  have hli : ¬ (3000 : Int) < (d.length : Int) := by omega
  go_upto_region 2 with (first
    | (go_at_call 15; refine (HSm.out _ hw0).mono ?_; rintro e w1 ⟨B, rfl, hB, hE1⟩; (rcases B with _ | _))
    | (go_at_call 16; refine (HAw.out _ (hw0.trans hE1)).mono ?_; rintro e w2 ⟨rfl, hE2⟩)
    | fail)
  · go_wp2_with fail
    refine (HAw.out _ (hw0.trans hE1)).mono ?_
    rintro e w2 ⟨rfl, hE2⟩
    go_wp2_with fail
    go_ret
    exact ⟨rfl, hw0.trans (hE1.trans hE2)⟩
  obtain ⟨hsm1, hsm2⟩ : SmL sets ∧ SmL soa := by first | exact hB rfl | exact hB trivial | exact hB
  have hw2 : Ext w w2 := (hw0.trans hE1).trans hE2
  have HLk := Lib.hid (int_look d w2 (hg.ext hw2) (hb.ext hw2) (by omega))
  have HLo := Lib.hid (look_ok d)
  have hcn : (lookOf d).q.name.length ≤ 1048576 := by
    rcases hq : (lookOf d).hasQ with _ | _
    · rw [look_noq hq]; simp [qNone]
    · exact Nat.le_trans (may_le (HLo.out.q hq)) (by omega)
  obtain ⟨c, hc⟩ : ∃ c, c = lookOf d := ⟨_, rfl⟩
  rw [← hc] at HLk HLo hcn
  clear hc
  have hwz : wrap64 n = n := by unfold wrap64; omega
  have HOf := Lib.hid (fun t V (ht : 0 ≤ t ∧ t ≤ 4294967295) (hV : Ext w V) => ans_of c vc (.slice sA sps.length sc) (.slice oA ops.length oc) sets soa t n V (hg.ext hV) (hb.ext hV) HLo.out.wf hcn (H.out.vs.ext hV) (H.out.vo.ext hV) (hsm1.ok H.out.ws) (hsm2.ok H.out.wo) ht)
  refine HLk.out.mono ?_
  rintro e w3 ⟨rfl, hE3⟩
  dsimp only
  iterate 1 go_step
  obtain ⟨b11, hb11⟩ : ∃ b11, b11 = w3.heap.size := ⟨_, rfl⟩
  have hz11 : (w3.alloc (.cells cameZ 34)).heap[b11]? = some (.cells cameZ 34) := by rw [hb11]; exact heap_alloc_new _ _
  refine Go.Great.wpList_allocTo rfl (some 11) rfl (.pointer (some ⟨w3.heap.size, 0, none⟩)) (.cells cameZ 34) (by kernel_rfl) ?_
  rw [← hb11]
  refine Go.wpList_store_rowTo rfl 34 (.tmp 11) (.tmp 38) rfl rfl b11 (caRow c.kind c.code c.hd c.hasQ c.q c.hasE c.size) rfl rfl 34 _ hz11 (by kernel_rfl) rfl (by kernel_rfl) ?_
  rw [alloc_setRow7 w3 cameZ (caRow c.kind c.code c.hd c.hasQ c.q c.hasE c.size) 34 b11 hb11]
  refine wpList_nil ?_
  have r11 : (w3.alloc (.cells (caRow c.kind c.code c.hd c.hasQ c.q c.hasE c.size) 34)).heap[b11]? = some (.cells (caRow c.kind c.code c.hd c.hasQ c.q c.hasE c.size) 34) := by rw [hb11]; exact heap_alloc_new _ _
  have hw4 : Ext w (w3.alloc (.cells (caRow c.kind c.code c.hd c.hasQ c.q c.hasE c.size) 34)) := (hw2.trans hE3).alloc _
  have h03 : Ext X0 (w3.alloc (.cells (caRow c.kind c.code c.hd c.hasQ c.q c.hasE c.size) 34)) := ((hE1.trans hE2).trans hE3).alloc _
  obtain ⟨X4, hX⟩ : ∃ X4, X4 = w3.alloc (.cells (caRow c.kind c.code c.hd c.hasQ c.q c.hasE c.size) 34) := ⟨_, rfl⟩
  rw [← hX] at r11 hw4 h03 ⊢
  clear hX hz11 hb11 hE3 hE2 hE1 hB HLk HAw HSm z0 z1 z2 hw2 hli
  have r04 := (h03.block _ (Array.getElem?_eq_some_iff.1 r0).1).trans r0
  have hC0 : X4.cell? ⟨b11, 0, none⟩ = some (.int .u8 c.kind) := box_cell r11 rfl
  have hwm : wrap64 mo = mo := by unfold wrap64; omega
  have HOm := Lib.hid (fun V (hV : Ext w V) => ans_of c vc (.slice sA sps.length sc) (.slice oA ops.length oc) sets soa ttl mo V (hg.ext hV) (hb.ext hV) HLo.out.wf hcn (H.out.vs.ext hV) (H.out.vo.ext hV) (hsm1.ok H.out.ws) (hsm2.ok H.out.wo) H.out.ttl)
  go_upto_region 4 with fail
  have r114 := r11
  obtain ⟨s, hs⟩ : ∃ s, s = ansOf c vc sets soa ttl n := ⟨_, rfl⟩
  have HO1 := Lib.hid (fun V hV => HOf.out ttl V H.out.ttl hV)
  rw [← hs] at HO1
  unfold StrPost at HO1 HOm
  have Hs := Lib.hid hs
  clear hs hC0
  go_upto_region 5 with (first | (refine wpList_load_part (by rfl) 34 (.tmp 11) rfl b11 0 rfl [.int .u8 c.kind, .int .i64 c.code, .int .u16 c.hd.id, .bool c.hd.qr, .int .u8 c.hd.op, .bool c.hd.aa, .bool c.hd.tc, .bool c.hd.rd, .bool c.hd.ra, .bool c.hd.z, .bool c.hd.ad, .bool c.hd.cd, .int .u8 c.hd.code, .bool c.hasQ, S c.q.name, .int .u16 c.q.typ, .int .u16 c.q.cls, .bool c.hasE, .int .i64 c.size] (row_all r114) _ Tryz.underlying34 rfl (by kernel_rfl) ?_) | (refine wpList_load_part (by rfl) 24 (.tmp 6) rfl w.heap.size 0 rfl [.int .u8 vc, .slice sA sps.length sc, .slice oA ops.length oc] (row_all r04) _ Tryz.underlying24 rfl (by kernel_rfl) ?_) | (go_at_call 19; refine (HO1.out _ hw4).mono ?_; rintro e w5 ⟨rfl, hE5⟩) | fail)
  have hw5 : Ext w w5 := hw4.trans hE5
  have r115 := (hE5.block _ (Array.getElem?_eq_some_iff.1 r11).1).trans r11
  have r05 := (hE5.block _ (Array.getElem?_eq_some_iff.1 r04).1).trans r04
  clear r114 HO1
  by_cases hs0 : s = []
  · subst hs0
    go_wp2_with fail
    go_ret
    exact ⟨rfl, hw5⟩
  have hse : s.isEmpty = false := by cases s; exact absurd rfl hs0; rfl
  obtain ⟨hsl, m, hdm, hal, hul, wh, hwh, hwhw, hee, htc, hmo'⟩ := cut_plain HLo.out H.out.ws H.out.wo H.out.ttl hsm1 hsm2 (by rw [← Hs.out]; exact hs0)
  rw [← Hs.out] at hdm hsl
  have P := Lib.hid hdm
  have HWh := Lib.hid (And.intro hwh hwhw)
  have HEe := Lib.hid hee
  have HTc := Lib.hid htc
  have HMo := Lib.hid hmo'
  have HDs := Lib.hid (fun V (hV : Ext w V) => wire_decode s V (hg.ext hV) (hb.ext hV) (by omega))
  clear hdm hwh hwhw hee htc hmo' hs0
  go_upto_region 7 with fail
  go_upto_region 7 with fail
  go_wp2_with fail
  refine (HDs.out _ hw5).mono ?_
  rintro e Y13 ⟨⟨x, _, hx, _⟩ | ⟨m', q, a, u, x, o, hm, rfl, hMO, hBd⟩, hEd⟩
  · rw [P.out] at hx; cases hx
  obtain rfl : m = m' := by have := P.out; rw [hm] at this; injection this with this; exact this.symm
  clear hm
  have HM := Lib.hid hMO
  obtain ⟨⟨qA, qc, rfl, _⟩, ⟨aA, ac, rfl, _⟩, ⟨uA, uc, rfl, _⟩, ⟨xA, xc, rfl, _⟩, ⟨oA2, oc2, rfl, _⟩⟩ := hMO
  dsimp only
  iterate 10 go_step
  skip
  obtain ⟨b13, hb13⟩ : ∃ b13, b13 = Y13.heap.size := ⟨_, rfl⟩
  have hz : (Y13.alloc (.cells msgZ 45)).heap[b13]? = some (.cells msgZ 45) := by rw [hb13]; exact heap_alloc_new _ _
  refine Go.Great.wpList_allocTo rfl (some 13) rfl (.pointer (some ⟨Y13.heap.size, 0, none⟩)) (.cells msgZ 45) (by kernel_rfl) ?_
  rw [← hb13]
  refine Go.wpList_store_rowTo rfl 45 (.tmp 13) (.tmp 50) rfl rfl b13 #[.int .u16 m.hd.id, .bool m.hd.qr, .int .u8 m.hd.op, .bool m.hd.aa, .bool m.hd.tc, .bool m.hd.rd, .bool m.hd.ra, .bool m.hd.z, .bool m.hd.ad, .bool m.hd.cd, .int .u8 m.hd.code, .slice qA m.qs.length qc, .slice aA m.ans.length ac, .slice uA m.auth.length uc, .slice xA m.extra.length xc, .bool m.he, .int .u16 m.ed.size, .int .u8 m.ed.ext, .int .u8 m.ed.ver, .int .u16 m.ed.flags, .slice oA2 m.ed.opts.length oc2] rfl rfl 45 _ hz (by kernel_rfl) rfl (by kernel_rfl) ?_
  rw [alloc_setRow7 Y13 msgZ #[.int .u16 m.hd.id, .bool m.hd.qr, .int .u8 m.hd.op, .bool m.hd.aa, .bool m.hd.tc, .bool m.hd.rd, .bool m.hd.ra, .bool m.hd.z, .bool m.hd.ad, .bool m.hd.cd, .int .u8 m.hd.code, .slice qA m.qs.length qc, .slice aA m.ans.length ac, .slice uA m.auth.length uc, .slice xA m.extra.length xc, .bool m.he, .int .u16 m.ed.size, .int .u8 m.ed.ext, .int .u8 m.ed.ver, .int .u16 m.ed.flags, .slice oA2 m.ed.opts.length oc2] 45 b13 hb13]
  iterate 3 go_step
  refine wpList_nil ?_
  rw [← hb13]
  have r13 : (Y13.alloc (.cells #[.int .u16 m.hd.id, .bool m.hd.qr, .int .u8 m.hd.op, .bool m.hd.aa, .bool m.hd.tc, .bool m.hd.rd, .bool m.hd.ra, .bool m.hd.z, .bool m.hd.ad, .bool m.hd.cd, .int .u8 m.hd.code, .slice qA m.qs.length qc, .slice aA m.ans.length ac, .slice uA m.auth.length uc, .slice xA m.extra.length xc, .bool m.he, .int .u16 m.ed.size, .int .u8 m.ed.ext, .int .u8 m.ed.ver, .int .u16 m.ed.flags, .slice oA2 m.ed.opts.length oc2] 45)).heap[b13]? = some (.cells #[.int .u16 m.hd.id, .bool m.hd.qr, .int .u8 m.hd.op, .bool m.hd.aa, .bool m.hd.tc, .bool m.hd.rd, .bool m.hd.ra, .bool m.hd.z, .bool m.hd.ad, .bool m.hd.cd, .int .u8 m.hd.code, .slice qA m.qs.length qc, .slice aA m.ans.length ac, .slice uA m.auth.length uc, .slice xA m.extra.length xc, .bool m.he, .int .u16 m.ed.size, .int .u8 m.ed.ext, .int .u8 m.ed.ver, .int .u16 m.ed.flags, .slice oA2 m.ed.opts.length oc2] 45) := by rw [hb13]; exact heap_alloc_new _ _
  have hE9X : Ext w5 (Y13.alloc (.cells #[.int .u16 m.hd.id, .bool m.hd.qr, .int .u8 m.hd.op, .bool m.hd.aa, .bool m.hd.tc, .bool m.hd.rd, .bool m.hd.ra, .bool m.hd.z, .bool m.hd.ad, .bool m.hd.cd, .int .u8 m.hd.code, .slice qA m.qs.length qc, .slice aA m.ans.length ac, .slice uA m.auth.length uc, .slice xA m.extra.length xc, .bool m.he, .int .u16 m.ed.size, .int .u8 m.ed.ext, .int .u8 m.ed.ver, .int .u16 m.ed.flags, .slice oA2 m.ed.opts.length oc2] 45)) := hEd.alloc _
  have hY13 : Ext Y13 (Y13.alloc (.cells #[.int .u16 m.hd.id, .bool m.hd.qr, .int .u8 m.hd.op, .bool m.hd.aa, .bool m.hd.tc, .bool m.hd.rd, .bool m.hd.ra, .bool m.hd.z, .bool m.hd.ad, .bool m.hd.cd, .int .u8 m.hd.code, .slice qA m.qs.length qc, .slice aA m.ans.length ac, .slice uA m.auth.length uc, .slice xA m.extra.length xc, .bool m.he, .int .u16 m.ed.size, .int .u8 m.ed.ext, .int .u8 m.ed.ver, .int .u16 m.ed.flags, .slice oA2 m.ed.opts.length oc2] 45)) := (Ext.refl _).alloc _
  have hloY13 : Y13.heap.size ≤ b13 := by rw [hb13]; exact Nat.le_refl _
  have hlo13 : w5.heap.size ≤ b13 := by rw [hb13]; exact hEd.size
  obtain ⟨X9, hX⟩ : ∃ X9, X9 = Y13.alloc (.cells #[.int .u16 m.hd.id, .bool m.hd.qr, .int .u8 m.hd.op, .bool m.hd.aa, .bool m.hd.tc, .bool m.hd.rd, .bool m.hd.ra, .bool m.hd.z, .bool m.hd.ad, .bool m.hd.cd, .int .u8 m.hd.code, .slice qA m.qs.length qc, .slice aA m.ans.length ac, .slice uA m.auth.length uc, .slice xA m.extra.length xc, .bool m.he, .int .u16 m.ed.size, .int .u8 m.ed.ext, .int .u8 m.ed.ver, .int .u16 m.ed.flags, .slice oA2 m.ed.opts.length oc2] 45) := ⟨_, rfl⟩
  rw [← hX] at r13 hE9X hY13 ⊢
  clear hX hz hb13 hEd
  have hw9 : Ext w X9 := hw5.trans hE9X
  have r119 := (hE9X.block _ (Array.getElem?_eq_some_iff.1 r115).1).trans r115
  have r09 := (hE9X.block _ (Array.getElem?_eq_some_iff.1 r05).1).trans r05
  go_upto_region 10 with fail
  refine wp_region_lit ?_
  refine wpList_load_part (by rfl) 45 (.tmp 13) rfl b13 0 rfl [.int .u16 m.hd.id, .bool m.hd.qr, .int .u8 m.hd.op, .bool m.hd.aa, .bool m.hd.tc, .bool m.hd.rd, .bool m.hd.ra, .bool m.hd.z, .bool m.hd.ad, .bool m.hd.cd, .int .u8 m.hd.code, .slice qA m.qs.length qc, .slice aA m.ans.length ac, .slice uA m.auth.length uc, .slice xA m.extra.length xc, .bool m.he, .int .u16 m.ed.size, .int .u8 m.ed.ext, .int .u8 m.ed.ver, .int .u16 m.ed.flags, .slice oA2 m.ed.opts.length oc2] (row_all r13) _ Tryz.underlying45 rfl (by kernel_rfl) ?_
  obtain ⟨b15, hb15⟩ : ∃ b15, b15 = X9.heap.size := ⟨_, rfl⟩
  have hz15 : (X9.alloc (.cells msgZ 45)).heap[b15]? = some (.cells msgZ 45) := by rw [hb15]; exact heap_alloc_new _ _
  refine Go.Great.wpList_allocTo rfl (some 15) rfl (.pointer (some ⟨X9.heap.size, 0, none⟩)) (.cells msgZ 45) (by kernel_rfl) ?_
  rw [← hb15]
  refine Go.wpList_store_rowTo rfl 45 (.tmp 15) (.tmp 54) rfl rfl b15 #[.int .u16 m.hd.id, .bool m.hd.qr, .int .u8 m.hd.op, .bool m.hd.aa, .bool m.hd.tc, .bool m.hd.rd, .bool m.hd.ra, .bool m.hd.z, .bool m.hd.ad, .bool m.hd.cd, .int .u8 m.hd.code, .slice qA m.qs.length qc, .slice aA m.ans.length ac, .slice uA m.auth.length uc, .slice xA m.extra.length xc, .bool m.he, .int .u16 m.ed.size, .int .u8 m.ed.ext, .int .u8 m.ed.ver, .int .u16 m.ed.flags, .slice oA2 m.ed.opts.length oc2] rfl rfl 45 _ hz15 (by kernel_rfl) rfl (by kernel_rfl) ?_
  rw [alloc_setRow7 X9 msgZ #[.int .u16 m.hd.id, .bool m.hd.qr, .int .u8 m.hd.op, .bool m.hd.aa, .bool m.hd.tc, .bool m.hd.rd, .bool m.hd.ra, .bool m.hd.z, .bool m.hd.ad, .bool m.hd.cd, .int .u8 m.hd.code, .slice qA m.qs.length qc, .slice aA m.ans.length ac, .slice uA m.auth.length uc, .slice xA m.extra.length xc, .bool m.he, .int .u16 m.ed.size, .int .u8 m.ed.ext, .int .u8 m.ed.ver, .int .u16 m.ed.flags, .slice oA2 m.ed.opts.length oc2] 45 b15 hb15]
  refine wpList_nil ?_
  try rw [← hb15]
  have r15a : (X9.alloc (.cells #[.int .u16 m.hd.id, .bool m.hd.qr, .int .u8 m.hd.op, .bool m.hd.aa, .bool m.hd.tc, .bool m.hd.rd, .bool m.hd.ra, .bool m.hd.z, .bool m.hd.ad, .bool m.hd.cd, .int .u8 m.hd.code, .slice qA m.qs.length qc, .slice aA m.ans.length ac, .slice uA m.auth.length uc, .slice xA m.extra.length xc, .bool m.he, .int .u16 m.ed.size, .int .u8 m.ed.ext, .int .u8 m.ed.ver, .int .u16 m.ed.flags, .slice oA2 m.ed.opts.length oc2] 45)).heap[b15]? = some (.cells #[.int .u16 m.hd.id, .bool m.hd.qr, .int .u8 m.hd.op, .bool m.hd.aa, .bool m.hd.tc, .bool m.hd.rd, .bool m.hd.ra, .bool m.hd.z, .bool m.hd.ad, .bool m.hd.cd, .int .u8 m.hd.code, .slice qA m.qs.length qc, .slice aA m.ans.length ac, .slice uA m.auth.length uc, .slice xA m.extra.length xc, .bool m.he, .int .u16 m.ed.size, .int .u8 m.ed.ext, .int .u8 m.ed.ver, .int .u16 m.ed.flags, .slice oA2 m.ed.opts.length oc2] 45) := by rw [hb15]; exact heap_alloc_new _ _
  have hb159 : X9.heap.size ≤ b15 := by rw [hb15]; exact Nat.le_refl _
  have hE9a : Ext X9 (X9.alloc (.cells #[.int .u16 m.hd.id, .bool m.hd.qr, .int .u8 m.hd.op, .bool m.hd.aa, .bool m.hd.tc, .bool m.hd.rd, .bool m.hd.ra, .bool m.hd.z, .bool m.hd.ad, .bool m.hd.cd, .int .u8 m.hd.code, .slice qA m.qs.length qc, .slice aA m.ans.length ac, .slice uA m.auth.length uc, .slice xA m.extra.length xc, .bool m.he, .int .u16 m.ed.size, .int .u8 m.ed.ext, .int .u8 m.ed.ver, .int .u16 m.ed.flags, .slice oA2 m.ed.opts.length oc2] 45)) := (Ext.refl _).alloc _
  obtain ⟨X10, hX⟩ : ∃ X10, X10 = X9.alloc (.cells #[.int .u16 m.hd.id, .bool m.hd.qr, .int .u8 m.hd.op, .bool m.hd.aa, .bool m.hd.tc, .bool m.hd.rd, .bool m.hd.ra, .bool m.hd.z, .bool m.hd.ad, .bool m.hd.cd, .int .u8 m.hd.code, .slice qA m.qs.length qc, .slice aA m.ans.length ac, .slice uA m.auth.length uc, .slice xA m.extra.length xc, .bool m.he, .int .u16 m.ed.size, .int .u8 m.ed.ext, .int .u8 m.ed.ver, .int .u16 m.ed.flags, .slice oA2 m.ed.opts.length oc2] 45) := ⟨_, rfl⟩
  rw [← hX] at r15a hE9a ⊢
  clear hX hz15 hb15
  have c4 := box_cell (j := 4) r15a rfl
  have c12 := box_cell (j := 12) r15a rfl
  have c13 := box_cell (j := 13) r15a rfl
  have g4 := box_free (j := 4) r15a
  have g12 := box_free (j := 12) r15a
  have g13 := box_free (j := 13) r15a
  go_upto_region 12 with fail
  obtain ⟨X12, hX12⟩ : ∃ X12, X12 = ((X10.setCell ⟨b15, 4, none⟩ (.bool false)).setCell ⟨b15, 12, none⟩ (.slice none 0 0)).setCell ⟨b15, 13, none⟩ (.slice none 0 0) := ⟨_, rfl⟩
  rw [← hX12]
  have r15s : X12.heap[b15]? = some (.cells #[.int .u16 m.hd.id, .bool m.hd.qr, .int .u8 m.hd.op, .bool m.hd.aa, .bool false, .bool m.hd.rd, .bool m.hd.ra, .bool m.hd.z, .bool m.hd.ad, .bool m.hd.cd, .int .u8 m.hd.code, .slice qA m.qs.length qc, .slice none 0 0, .slice none 0 0, .slice xA m.extra.length xc, .bool m.he, .int .u16 m.ed.size, .int .u8 m.ed.ext, .int .u8 m.ed.ver, .int .u16 m.ed.flags, .slice oA2 m.ed.opts.length oc2] 45) := by rw [hX12]; exact row_set (row_set (row_set r15a 4 _) 12 _) 13 _
  have hX9E : Ext X9 X12 := by rw [hX12]; exact ((hE9a.setCell hb159 _).setCell hb159 _).setCell hb159 _
  clear hX12 c4 c12 c13 g4 g12 g13
  have hb15l : b15 < X12.heap.size := (Array.getElem?_eq_some_iff.1 r15s).1
  have hX9W : X9.heap.size ≤ X12.heap.size := hX9E.size
  have hwWs : w.heap.size ≤ X12.heap.size := Nat.le_trans hw9.size hX9W
  have hwne0 : w.heap.size < X9.heap.size := (Array.getElem?_eq_some_iff.1 r09).1
  have hwW : w.heap.size < X12.heap.size := Nat.lt_of_lt_of_le hwne0 hX9W
  have hwne : w.heap.size ≠ b15 := by omega
  have hbne : ∀ x, x < w.heap.size → x ≠ b15 := fun x hx => by omega
  have r0s := (hX9E.block _ hwne0).trans r09
  obtain ⟨i0, hi0, hz0, hz1, hz2⟩ := info_parts info_rec7
  have HT0 := Lib.hid (show recsT (sets.take 0) ttl = [] from rfl)
  have HPl := Lib.hid (show sps.length = sets.length from by rw [← Hspe.out, List.length_map])
  have hsl40 := hsm1.1
  go_wp2_with fail
  go_loopw [16, 17] (fun s16 s17 wr => ∃ (i : Nat) (B : Option Addr) (c9 : Nat), i ≤ sps.length ∧ s16 = .int .i64 i ∧ wr.heap[b15]? = some (.cells #[.int .u16 m.hd.id, .bool m.hd.qr, .int .u8 m.hd.op, .bool m.hd.aa, .bool false, .bool m.hd.rd, .bool m.hd.ra, .bool m.hd.z, .bool m.hd.ad, .bool m.hd.cd, .int .u8 m.hd.code, .slice qA m.qs.length qc, .slice B (recsT (sets.take i) ttl).length c9, .slice none 0 0, .slice xA m.extra.length xc, .bool m.he, .int .u16 m.ed.size, .int .u8 m.ed.ext, .int .u8 m.ed.ver, .int .u16 m.ed.flags, .slice oA2 m.ed.opts.length oc2] 45) ∧ Own wr X12.heap.size 56 5 B (recsT (sets.take i) ttl).length c9 ((recsT (sets.take i) ttl).flatMap recCells) ∧ Ext X9 wr ∧ X12.heap.size ≤ wr.heap.size ∧ (∀ x, x < X12.heap.size → x ≠ b15 → wr.heap[x]? = X12.heap[x]?)) (fun s16 _ _ => sps.length - (intOf s16).toNat)
  case atStart => exact ⟨0, none, 0, Nat.zero_le _, rfl, by rw [HT0.out]; exact r15s, by rw [HT0.out]; exact Own.nil _ _ _ _, hX9E, Nat.le_refl _, fun _ _ _ => rfl⟩
  case round =>
    obtain ⟨i, B, c9, hi, rfl, hr15, hown, hEq9, hwq, hkq⟩ := hrel
    obtain ⟨wo, rfl⟩ : ∃ wo : World, wo = wr := ⟨_, rfl⟩
    have hvo := (hkq w.heap.size hwW hwne).trans r0s
    have v1 := box_cell (j := 1) hvo rfl
    by_cases hil : i < sps.length
    · have hww : Ext w wo := hw9.trans hEq9
      obtain ⟨bs, os, rfl, _, hbsz, hbc0⟩ := hsrd.2 (by omega)
      have hbsw : bs < X12.heap.size := Nat.lt_of_lt_of_le hbsz hwWs
      have hbc : ∀ j u, (sps.flatMap setCells)[j]? = some u → wo.cell? ⟨bs, os + j, none⟩ = some u := fun j u hu => (hww.cell (p := ⟨bs, os + j, none⟩) hbsz).trans (hbc0 j u hu)
      have hp : sps[i]? = some sps[i] := List.getElem?_eq_getElem hil
      obtain ⟨x0, x1, x2, x3, x4⟩ := sets_cells hbc i sps[i] hp
      have hli : sets[i]? = some sps[i].1 := by rw [← Hspe.out, List.getElem?_map, hp]; rfl
      have hsd := hsst sps[i] (List.getElem_mem hil)
      have hsm := hsm1.2 sps[i].1 (List.mem_of_getElem? hli)
      have HTs := Lib.hid (recsT_step sets ttl i _ hli)
      have hacc : (recsT (sets.take i) ttl).length ≤ 16000 := by rw [← rows_timed, List.length_map]; exact rows_take_len hsm1 i
      generalize sps[i] = p at *
      obtain ⟨⟨nm, ty, cl, tt, da⟩, dv⟩ := p
      dsimp only at *
      have hdal : da.length ≤ 400 := hsm.2.1
      obtain ⟨dA, dc, rfl, hd1, hd2, hdrd⟩ := hsd
      unfold maxLen at hd2
      have HIl := Lib.hid hil
      have hi40 : i ≤ 40 := by have := HPl.out; omega
      have hki : (i : Int) < (sps.length : Int) := by omega
      have hk0 : (0 : Int) ≤ (i : Int) := by omega
      have HD0 := Lib.hid (show recs1 ⟨nm, ty, cl, tt, da⟩ ttl 0 = [] by simp [recs1])
      have X0c := Lib.hid (And.intro x0 (And.intro x1 (And.intro x2 x4)))
      have Vo1 := Lib.hid v1
      have hRo := hr15
      have hOo := hown
      have hEo := hEq9
      have hZo := hwq
      have hKo := hkq
      clear hbc hbc0 hp hli hsm hr15 hown hEq9 hwq hkq x3
      go_wp2_with fail
      go_loopw [17] (fun s17 wr => ∃ (k : Nat) (B : Option Addr) (c9 : Nat), k ≤ da.length ∧ s17 = .int .i64 k ∧ wr.heap[b15]? = some (.cells #[.int .u16 m.hd.id, .bool m.hd.qr, .int .u8 m.hd.op, .bool m.hd.aa, .bool false, .bool m.hd.rd, .bool m.hd.ra, .bool m.hd.z, .bool m.hd.ad, .bool m.hd.cd, .int .u8 m.hd.code, .slice qA m.qs.length qc, .slice B (recsT (sets.take i) ttl ++ recs1 ⟨nm, ty, cl, tt, da⟩ ttl k).length c9, .slice none 0 0, .slice xA m.extra.length xc, .bool m.he, .int .u16 m.ed.size, .int .u8 m.ed.ext, .int .u8 m.ed.ver, .int .u16 m.ed.flags, .slice oA2 m.ed.opts.length oc2] 45) ∧ Own wr X12.heap.size 56 5 B (recsT (sets.take i) ttl ++ recs1 ⟨nm, ty, cl, tt, da⟩ ttl k).length c9 ((recsT (sets.take i) ttl ++ recs1 ⟨nm, ty, cl, tt, da⟩ ttl k).flatMap recCells) ∧ Ext X9 wr ∧ X12.heap.size ≤ wr.heap.size ∧ (∀ x, x < X12.heap.size → x ≠ b15 → wr.heap[x]? = X12.heap[x]?)) (fun s17 _ => da.length - (intOf s17).toNat)
      case atStart => exact ⟨0, B, c9, Nat.zero_le _, rfl, by rw [HD0.out, List.append_nil]; exact hRo, by rw [HD0.out, List.append_nil]; exact hOo, hEo, hZo, hKo⟩
      case round =>
        obtain ⟨k, B, c9, hk, rfl, hr15, hown, hEq9, hwq, hkq⟩ := hrel
        obtain ⟨wq, rfl⟩ : ∃ wq : World, wq = wr := ⟨_, rfl⟩
        have hww' : Ext w wq := hw9.trans hEq9
        have cellK : ∀ (b_ o_ : Nat) (v_ : Value), b_ < X12.heap.size → b_ ≠ b15 → wo.cell? ⟨b_, o_, none⟩ = some v_ → ∀ V : World, (∀ x, x < X12.heap.size → x ≠ b15 → V.heap[x]? = wq.heap[x]?) → V.cell? ⟨b_, o_, none⟩ = some v_ := fun b_ o_ v_ h1 h2 h3 V hV => by
          have e1 := (hV b_ h1 h2).trans ((hkq b_ h1 h2).trans (hKo b_ h1 h2).symm)
          simp only [World.cell?, e1] at h3 ⊢
          exact h3
        have y4 := cellK bs (os + i * 5 + 4) _ hbsw (hbne bs hbsz) X0c.out.2.2.2 wq (fun _ _ _ => rfl)
        have y1 := cellK w.heap.size 1 _ hwW hwne Vo1.out wq (fun _ _ _ => rfl)
        clear v1 x0 x1 x2 x4
        by_cases hkl : k < da.length
        · obtain ⟨dg, dof, rfl, _, hdz, hdc⟩ := hdrd.2 (by omega)
          have hdj : da[k]? = some da[k] := List.getElem?_eq_getElem hkl
          have hck := hdc k (S da[k]) (by simp [hdj])
          have HT := Lib.hid (recs1_step ⟨nm, ty, cl, tt, da⟩ ttl k _ hdj)
          have hrl : (recs1 ⟨nm, ty, cl, tt, da⟩ ttl k).length ≤ 400 := by simp only [recs1, List.length_map, List.length_take]; omega
          generalize da[k] = y at *
          have HKl := Lib.hid hkl
          have hkk : (k : Int) < (da.length : Int) := by omega
          have hk00 : (0 : Int) ≤ (k : Int) := by omega
          generalize hAL : recsT (sets.take i) ttl ++ recs1 ⟨nm, ty, cl, tt, da⟩ ttl k = al at *
          have hal : al.length ≤ 16400 := by rw [← hAL, List.length_append]; omega
          have HAl := Lib.hid hAL
          have HS18 := Lib.hid (fun V (hV : ∀ x, x < X12.heap.size → x ≠ b15 → V.heap[x]? = wq.heap[x]?) => (show V.cell? ⟨w.heap.size, 1, none⟩ = some (.slice (some ⟨bs, os, none⟩) sps.length sc) ∧ (V.cell? ⟨bs, os + i * 5, none⟩ = some (S nm) ∧ V.cell? ⟨bs, os + i * 5 + 1, none⟩ = some (.int .u16 ty) ∧ V.cell? ⟨bs, os + i * 5 + 2, none⟩ = some (.int .u16 cl) ∧ V.cell? ⟨bs, os + i * 5 + 4, none⟩ = some (.slice (some ⟨dg, dof, none⟩) da.length dc)) ∧ V.cell? ⟨dg, dof + k, none⟩ = some (S y) from
            ⟨cellK _ _ _ hwW hwne Vo1.out V hV, ⟨cellK _ _ _ hbsw (hbne bs hbsz) X0c.out.1 V hV, cellK _ _ _ hbsw (hbne bs hbsz) X0c.out.2.1 V hV, cellK _ _ _ hbsw (hbne bs hbsz) X0c.out.2.2.1 V hV, cellK _ _ _ hbsw (hbne bs hbsz) X0c.out.2.2.2 V hV⟩,
             by
              have h1 := (hww'.cell (p := ⟨dg, dof + k, none⟩) hdz).trans hck
              have e1 := hV dg (Nat.lt_of_lt_of_le hdz hwWs) (hbne dg hdz)
              simp only [World.cell?, e1] at h1 ⊢
              exact h1⟩))
          have hS0 := HS18.out wq.drew (fun _ _ _ => rfl)
          clear hdc hdj hck hrl hAL
          go_upto_region 18 with fail
          clear y1 y4
          refine wp_region_noPanic ?_
          refine wp_region_tree (S := (fun V => V.cell? ⟨w.heap.size, 1, none⟩ = some (.slice (some ⟨bs, os, none⟩) sps.length sc) ∧ (V.cell? ⟨bs, os + i * 5, none⟩ = some (S nm) ∧ V.cell? ⟨bs, os + i * 5 + 1, none⟩ = some (.int .u16 ty) ∧ V.cell? ⟨bs, os + i * 5 + 2, none⟩ = some (.int .u16 cl) ∧ V.cell? ⟨bs, os + i * 5 + 4, none⟩ = some (.slice (some ⟨dg, dof, none⟩) da.length dc)) ∧ V.cell? ⟨dg, dof + k, none⟩ = some (S y))) (.take 0 (.take 2 (.take 3 (.take 4 (.take 5 (.take 6 (.take 7 (.take 8 (.take 9 (.take 10 (.take 11 (.take 12 (.take 13 (.take 14 (.take 15 (.take 16 (.take 17 (.take 18 (.take 19 (.take 20 (.take 21 (.take 22 (.take 23 (.take 24 (.take 25 (.take 26 (.take 27 (.take 28 (.take 29 (.take 30 (.run2 1 (.run 31 (.run 32 (.take 33 (.run 34 (.done))))) 31 (.run 1 (.run 32 (.take 33 (.run 34 (.done)))))))))))))))))))))))))))))))))))) (by kernel_rfl) (by kernel_rfl) (fun _ _ _ _ _ h => h) (hS0) ?_
          repeat ((with_reducible refine treeIs ?_); first
            | (refine treeTakeX (a' := ?_) ⟨_, hS0⟩ (by rfl) rfl (by kernel_rfl) rfl ?_ ?_; rotate_left; (focus (intro V Q' hV hq; obtain ⟨hV1, ⟨hV2, hV3, hV4, hV5⟩, hV6⟩ := hV; (repeat (first | go_guarded | go_skip | go_step)); (first | exact hq | exact wpList_nil hq)))))
          refine treeRun2 ?_ ?_
          · refine treeRun (by rfl) (fun K hK => ?_)
            have k12 := box_cell (j := 12) ((((show Ext wq (wq.drew) from (Ext.refl wq).drew).block _ (Nat.lt_of_lt_of_le hb15l hwq)).trans hr15)) rfl
            go_simp
            clear k12
            refine hK.out _ _ ?_ ?_
            · exact (HS18.out _ (fun x hx _ => (show Ext wq (wq.drew) from (Ext.refl wq).drew).block x (Nat.lt_of_lt_of_le hx hwq)))
            clear hK K
            (try simp only [Act.put, List.setIfInBounds_toArray, List.set_cons_zero, List.set_cons_succ])
            refine treeRun (by rfl) (fun K hK => ?_)
            go_simp
            refine hK.out _ _ ?_ ?_
            · exact (HS18.out _ (fun x hx _ => (show Ext wq ((wq.alloc (.cells #[S nm, .int .u16 ty, .int .u16 cl, .int .u32 ttl, S y] 56)).drew) from ((Ext.refl wq).alloc _).drew).block x (Nat.lt_of_lt_of_le hx hwq)))
            clear hK K
            (try simp only [Act.put, List.setIfInBounds_toArray, List.set_cons_zero, List.set_cons_succ])
            refine treeRun (by rfl) (fun K hK => ?_)
            refine step_app ((wq.alloc (.cells #[S nm, .int .u16 ty, .int .u16 cl, .int .u32 ttl, S y] 56)).drew) rfl (.tmp 78) (.tmp 108) _ rfl X12.heap.size 56 i0 _ 5 40 Tryz.underlying40 hi0 hz0 hz1 hz2 rfl (by omega) B al.length c9 (al.flatMap recCells) rfl (hown.ext (((Ext.refl wq).alloc _).drew)) 0 _ 1 1 (recCells ⟨nm, ty, cl, ttl, y⟩) rfl ((rd_new _ _ (by simp) _ _ 1 5 rfl).drew) (rec_one7 _) (by omega) (by omega) (by simp; omega) ?_
            intro A9 d9 w9 hown9 hg9 hb9 hat9
            have hk9 : ∀ x, x < X12.heap.size → w9.heap[x]? = wq.heap[x]? := fun x hx => (hb9.block x hx).trans ((((Ext.refl wq).alloc _).drew).block x (Nat.lt_of_lt_of_le hx hwq))
            have hE9 : Ext X9 w9 := (hEq9.trans (((Ext.refl wq).alloc _).drew)).then hb9 hX9W
            have hz9 : wq.heap.size ≤ w9.heap.size := Nat.le_trans (((Ext.refl wq).alloc _).drew).size hb9.size
            refine hK.out _ _ ?_ ?_
            · exact (HS18.out _ (fun x hx _ => hk9 x hx))
            clear hK K
            (try simp only [Act.put, List.setIfInBounds_toArray, List.set_cons_zero, List.set_cons_succ])
            repeat ((with_reducible refine treeIs ?_); first
              | (refine treeTakeX (a' := ?_) ⟨_, hS0⟩ (by rfl) rfl (by kernel_rfl) rfl ?_ ?_; rotate_left; (focus (intro V Q' hV hq; obtain ⟨hV1, ⟨hV2, hV3, hV4, hV5⟩, hV6⟩ := hV; (repeat (first | go_guarded | go_skip | go_step)); (first | exact hq | exact wpList_nil hq)))))
            refine treeRun (by rfl) (fun K hK => ?_)
            have r159 := (hk9 b15 hb15l).trans hr15
            have k9 := box_cell (j := 12) r159 rfl
            have g9 := box_free (j := 12) r159
            go_simp
            refine hK.out _ _ ?_ ?_
            · exact (HS18.out _ (fun x hx hne => (Below.heap_setCell _ ⟨b15, 12, none⟩ _ x hne).trans (hk9 x hx)))
            clear hK K
            (try simp only [Act.put, List.setIfInBounds_toArray, List.set_cons_zero, List.set_cons_succ])
            refine treeDone ?_
            refine NoPanic.normal ?_
            go_upto_region 17 with fail
            obtain ⟨W9, hW9⟩ : ∃ W9, W9 = w9.setCell ⟨b15, 12, none⟩ (.slice A9 (al.length + 1) d9) := ⟨_, rfl⟩
            rw [← hW9]
            have r15w : W9.heap[b15]? = some (.cells #[.int .u16 m.hd.id, .bool m.hd.qr, .int .u8 m.hd.op, .bool m.hd.aa, .bool false, .bool m.hd.rd, .bool m.hd.ra, .bool m.hd.z, .bool m.hd.ad, .bool m.hd.cd, .int .u8 m.hd.code, .slice qA m.qs.length qc, .slice A9 (al.length + 1) d9, .slice none 0 0, .slice xA m.extra.length xc, .bool m.he, .int .u16 m.ed.size, .int .u8 m.ed.ext, .int .u8 m.ed.ver, .int .u16 m.ed.flags, .slice oA2 m.ed.opts.length oc2] 45) := by rw [hW9]; exact row_set r159 12 _
            have hEW : Ext X9 W9 := by rw [hW9]; exact hE9.setCell hb159 _
            have hownW : Own W9 X12.heap.size 56 5 A9 (al.length + 1) d9 (al.flatMap recCells ++ recCells ⟨nm, ty, cl, ttl, y⟩) := by rw [hW9]; exact hown9.set_other hb15l _
            have hzW : X12.heap.size ≤ W9.heap.size := by
              have h1 : W9.heap.size = w9.heap.size := by rw [hW9]; simp [World.setCell]
              omega
            have hkW : ∀ x, x < X12.heap.size → x ≠ b15 → W9.heap[x]? = X12.heap[x]? := fun x hx hne => by
              rw [hW9]; exact ((Below.heap_setCell _ ⟨b15, 12, none⟩ _ x hne).trans (hk9 x hx)).trans (hkq x hx hne)
            clear hW9 hk9 k9 g9 r159 hg9 hb9 hat9 hown9
            go_wp2_with fail
            go_roundw
            case rel =>
              have hl1 : recsT (sets.take i) ttl ++ recs1 ⟨nm, ty, cl, tt, da⟩ ttl (k + 1) = al ++ [⟨nm, ty, cl, ttl, y⟩] := by rw [HT.out, ← List.append_assoc, HAl.out]
              refine ⟨k + 1, A9, d9, by have := HKl.out; omega, by go_num, ?_, ?_, hEW, hzW, hkW⟩
              · rw [hl1, List.length_append]; exact r15w
              · rw [hl1, List.length_append, List.flatMap_append]; simpa using hownW
            case measure => (have := HKl.out); simp [intOf]; omega
          · refine treeRun (by rfl) (fun K hK => ?_)
            go_simp
            refine hK.out _ _ ?_ ?_
            · exact (HS18.out _ (fun x hx _ => (show Ext wq ((wq.alloc (.cells #[S nm, .int .u16 ty, .int .u16 cl, .int .u32 ttl, S y] 56)).drew) from ((Ext.refl wq).alloc _).drew).block x (Nat.lt_of_lt_of_le hx hwq)))
            clear hK K
            (try simp only [Act.put, List.setIfInBounds_toArray, List.set_cons_zero, List.set_cons_succ])
            refine treeRun (by rfl) (fun K hK => ?_)
            have k12 := box_cell (j := 12) ((((show Ext wq ((wq.alloc (.cells #[S nm, .int .u16 ty, .int .u16 cl, .int .u32 ttl, S y] 56)).drew) from ((Ext.refl wq).alloc _).drew).block _ (Nat.lt_of_lt_of_le hb15l hwq)).trans hr15)) rfl
            go_simp
            clear k12
            refine hK.out _ _ ?_ ?_
            · exact (HS18.out _ (fun x hx _ => (show Ext wq ((wq.alloc (.cells #[S nm, .int .u16 ty, .int .u16 cl, .int .u32 ttl, S y] 56)).drew) from ((Ext.refl wq).alloc _).drew).block x (Nat.lt_of_lt_of_le hx hwq)))
            clear hK K
            (try simp only [Act.put, List.setIfInBounds_toArray, List.set_cons_zero, List.set_cons_succ])
            refine treeRun (by rfl) (fun K hK => ?_)
            refine step_app ((wq.alloc (.cells #[S nm, .int .u16 ty, .int .u16 cl, .int .u32 ttl, S y] 56)).drew) rfl (.tmp 78) (.tmp 108) _ rfl X12.heap.size 56 i0 _ 5 40 Tryz.underlying40 hi0 hz0 hz1 hz2 rfl (by omega) B al.length c9 (al.flatMap recCells) rfl (hown.ext (((Ext.refl wq).alloc _).drew)) 0 _ 1 1 (recCells ⟨nm, ty, cl, ttl, y⟩) rfl ((rd_new _ _ (by simp) _ _ 1 5 rfl).drew) (rec_one7 _) (by omega) (by omega) (by simp; omega) ?_
            intro A9 d9 w9 hown9 hg9 hb9 hat9
            have hk9 : ∀ x, x < X12.heap.size → w9.heap[x]? = wq.heap[x]? := fun x hx => (hb9.block x hx).trans ((((Ext.refl wq).alloc _).drew).block x (Nat.lt_of_lt_of_le hx hwq))
            have hE9 : Ext X9 w9 := (hEq9.trans (((Ext.refl wq).alloc _).drew)).then hb9 hX9W
            have hz9 : wq.heap.size ≤ w9.heap.size := Nat.le_trans (((Ext.refl wq).alloc _).drew).size hb9.size
            refine hK.out _ _ ?_ ?_
            · exact (HS18.out _ (fun x hx _ => hk9 x hx))
            clear hK K
            (try simp only [Act.put, List.setIfInBounds_toArray, List.set_cons_zero, List.set_cons_succ])
            repeat ((with_reducible refine treeIs ?_); first
              | (refine treeTakeX (a' := ?_) ⟨_, hS0⟩ (by rfl) rfl (by kernel_rfl) rfl ?_ ?_; rotate_left; (focus (intro V Q' hV hq; obtain ⟨hV1, ⟨hV2, hV3, hV4, hV5⟩, hV6⟩ := hV; (repeat (first | go_guarded | go_skip | go_step)); (first | exact hq | exact wpList_nil hq)))))
            refine treeRun (by rfl) (fun K hK => ?_)
            have r159 := (hk9 b15 hb15l).trans hr15
            have k9 := box_cell (j := 12) r159 rfl
            have g9 := box_free (j := 12) r159
            go_simp
            refine hK.out _ _ ?_ ?_
            · exact (HS18.out _ (fun x hx hne => (Below.heap_setCell _ ⟨b15, 12, none⟩ _ x hne).trans (hk9 x hx)))
            clear hK K
            (try simp only [Act.put, List.setIfInBounds_toArray, List.set_cons_zero, List.set_cons_succ])
            refine treeDone ?_
            refine NoPanic.normal ?_
            go_upto_region 17 with fail
            obtain ⟨W9, hW9⟩ : ∃ W9, W9 = w9.setCell ⟨b15, 12, none⟩ (.slice A9 (al.length + 1) d9) := ⟨_, rfl⟩
            rw [← hW9]
            have r15w : W9.heap[b15]? = some (.cells #[.int .u16 m.hd.id, .bool m.hd.qr, .int .u8 m.hd.op, .bool m.hd.aa, .bool false, .bool m.hd.rd, .bool m.hd.ra, .bool m.hd.z, .bool m.hd.ad, .bool m.hd.cd, .int .u8 m.hd.code, .slice qA m.qs.length qc, .slice A9 (al.length + 1) d9, .slice none 0 0, .slice xA m.extra.length xc, .bool m.he, .int .u16 m.ed.size, .int .u8 m.ed.ext, .int .u8 m.ed.ver, .int .u16 m.ed.flags, .slice oA2 m.ed.opts.length oc2] 45) := by rw [hW9]; exact row_set r159 12 _
            have hEW : Ext X9 W9 := by rw [hW9]; exact hE9.setCell hb159 _
            have hownW : Own W9 X12.heap.size 56 5 A9 (al.length + 1) d9 (al.flatMap recCells ++ recCells ⟨nm, ty, cl, ttl, y⟩) := by rw [hW9]; exact hown9.set_other hb15l _
            have hzW : X12.heap.size ≤ W9.heap.size := by
              have h1 : W9.heap.size = w9.heap.size := by rw [hW9]; simp [World.setCell]
              omega
            have hkW : ∀ x, x < X12.heap.size → x ≠ b15 → W9.heap[x]? = X12.heap[x]? := fun x hx hne => by
              rw [hW9]; exact ((Below.heap_setCell _ ⟨b15, 12, none⟩ _ x hne).trans (hk9 x hx)).trans (hkq x hx hne)
            clear hW9 hk9 k9 g9 r159 hg9 hb9 hat9 hown9
            go_wp2_with fail
            go_roundw
            case rel =>
              have hl1 : recsT (sets.take i) ttl ++ recs1 ⟨nm, ty, cl, tt, da⟩ ttl (k + 1) = al ++ [⟨nm, ty, cl, ttl, y⟩] := by rw [HT.out, ← List.append_assoc, HAl.out]
              refine ⟨k + 1, A9, d9, by have := HKl.out; omega, by go_num, ?_, ?_, hEW, hzW, hkW⟩
              · rw [hl1, List.length_append]; exact r15w
              · rw [hl1, List.length_append, List.flatMap_append]; simpa using hownW
            case measure => (have := HKl.out); simp [intOf]; omega
        · obtain rfl : k = da.length := by omega
          have hkk : ¬ ((da.length : Int) < (da.length : Int)) := by omega
          go_wp2_with fail
          go_roundw
          case rel =>
            refine ⟨i + 1, B, c9, by have := HIl.out; omega, by go_num, ?_, ?_, hEq9, hwq, hkq⟩
            · rw [HTs.out]; exact hr15
            · rw [HTs.out]; exact hown
          case measure => (have := HIl.out); simp [intOf]; omega
    · obtain rfl : i = sps.length := by omega
      obtain ⟨X19, rfl⟩ : ∃ X19 : World, X19 = wo := ⟨_, rfl⟩
      have HTe := Lib.hid (show recsT (sets.take sps.length) ttl = recsT sets ttl from by rw [HPl.out, List.take_length])
      rw [HTe.out] at hown hr15
      obtain ⟨v0A, rfl⟩ : ∃ v0A, v0A = B := ⟨_, rfl⟩
      obtain ⟨v0c, rfl⟩ : ∃ v0c, v0c = c9 := ⟨_, rfl⟩
      have ho0 := Lib.hid hown
      have hb15L : b15 < X12.heap.size := hb15l
      have r15s := hr15
      have hX9E : Ext X9 X19 := hEq9
      have hb15l : b15 < X19.heap.size := (Array.getElem?_eq_some_iff.1 r15s).1
      have hX9W : X9.heap.size ≤ X19.heap.size := hX9E.size
      have hwWs : w.heap.size ≤ X19.heap.size := Nat.le_trans hw9.size hX9W
      have hwW : w.heap.size < X19.heap.size := Nat.lt_of_lt_of_le hwne0 hX9W
      have r0s := hvo
      clear hown hr15 hkq hwq HT0 HPl hsl40
      have HT0 := Lib.hid (show recsT (soa.take 0) ttl = [] from rfl)
      have HPl := Lib.hid (show ops.length = soa.length from by rw [← Hope.out, List.length_map])
      have hsl40 := hsm2.1
      go_wp2_with fail
      go_loopw [18, 19] (fun s16 s17 wr => ∃ (i : Nat) (B : Option Addr) (c9 : Nat), i ≤ ops.length ∧ s16 = .int .i64 i ∧ wr.heap[b15]? = some (.cells #[.int .u16 m.hd.id, .bool m.hd.qr, .int .u8 m.hd.op, .bool m.hd.aa, .bool false, .bool m.hd.rd, .bool m.hd.ra, .bool m.hd.z, .bool m.hd.ad, .bool m.hd.cd, .int .u8 m.hd.code, .slice qA m.qs.length qc, .slice v0A (recsT sets ttl).length v0c, .slice B (recsT (soa.take i) ttl).length c9, .slice xA m.extra.length xc, .bool m.he, .int .u16 m.ed.size, .int .u8 m.ed.ext, .int .u8 m.ed.ver, .int .u16 m.ed.flags, .slice oA2 m.ed.opts.length oc2] 45) ∧ Own wr X19.heap.size 56 5 B (recsT (soa.take i) ttl).length c9 ((recsT (soa.take i) ttl).flatMap recCells) ∧ Ext X9 wr ∧ X19.heap.size ≤ wr.heap.size ∧ (∀ x, x < X19.heap.size → x ≠ b15 → wr.heap[x]? = X19.heap[x]?)) (fun s16 _ _ => ops.length - (intOf s16).toNat)
      case atStart => exact ⟨0, none, 0, Nat.zero_le _, rfl, by rw [HT0.out]; exact r15s, by rw [HT0.out]; exact Own.nil _ _ _ _, hX9E, Nat.le_refl _, fun _ _ _ => rfl⟩
      case round =>
        obtain ⟨i, B, c9, hi, rfl, hr15, hown, hEq9, hwq, hkq⟩ := hrel
        obtain ⟨wo, rfl⟩ : ∃ wo : World, wo = wr := ⟨_, rfl⟩
        have hvo := (hkq w.heap.size hwW hwne).trans r0s
        have v1 := box_cell (j := 2) hvo rfl
        by_cases hil : i < ops.length
        · have hww : Ext w wo := hw9.trans hEq9
          obtain ⟨bs, os, rfl, _, hbsz, hbc0⟩ := hord.2 (by omega)
          have hbsw : bs < X19.heap.size := Nat.lt_of_lt_of_le hbsz hwWs
          have hbc : ∀ j u, (ops.flatMap setCells)[j]? = some u → wo.cell? ⟨bs, os + j, none⟩ = some u := fun j u hu => (hww.cell (p := ⟨bs, os + j, none⟩) hbsz).trans (hbc0 j u hu)
          have hp : ops[i]? = some ops[i] := List.getElem?_eq_getElem hil
          obtain ⟨x0, x1, x2, x3, x4⟩ := sets_cells hbc i ops[i] hp
          have hli : soa[i]? = some ops[i].1 := by rw [← Hope.out, List.getElem?_map, hp]; rfl
          have hsd := host ops[i] (List.getElem_mem hil)
          have hsm := hsm2.2 ops[i].1 (List.mem_of_getElem? hli)
          have HTs := Lib.hid (recsT_step soa ttl i _ hli)
          have hacc : (recsT (soa.take i) ttl).length ≤ 16000 := by rw [← rows_timed, List.length_map]; exact rows_take_len hsm2 i
          generalize ops[i] = p at *
          obtain ⟨⟨nm, ty, cl, tt, da⟩, dv⟩ := p
          dsimp only at *
          have hdal : da.length ≤ 400 := hsm.2.1
          obtain ⟨dA, dc, rfl, hd1, hd2, hdrd⟩ := hsd
          unfold maxLen at hd2
          have HIl := Lib.hid hil
          have hi40 : i ≤ 40 := by have := HPl.out; omega
          have hki : (i : Int) < (ops.length : Int) := by omega
          have hk0 : (0 : Int) ≤ (i : Int) := by omega
          have HD0 := Lib.hid (show recs1 ⟨nm, ty, cl, tt, da⟩ ttl 0 = [] by simp [recs1])
          have X0c := Lib.hid (And.intro x0 (And.intro x1 (And.intro x2 x4)))
          have Vo1 := Lib.hid v1
          have hRo := hr15
          have hOo := hown
          have hEo := hEq9
          have hZo := hwq
          have hKo := hkq
          clear hbc hbc0 hp hli hsm hr15 hown hEq9 hwq hkq x3
          go_wp2_with fail
          go_loopw [19] (fun s17 wr => ∃ (k : Nat) (B : Option Addr) (c9 : Nat), k ≤ da.length ∧ s17 = .int .i64 k ∧ wr.heap[b15]? = some (.cells #[.int .u16 m.hd.id, .bool m.hd.qr, .int .u8 m.hd.op, .bool m.hd.aa, .bool false, .bool m.hd.rd, .bool m.hd.ra, .bool m.hd.z, .bool m.hd.ad, .bool m.hd.cd, .int .u8 m.hd.code, .slice qA m.qs.length qc, .slice v0A (recsT sets ttl).length v0c, .slice B (recsT (soa.take i) ttl ++ recs1 ⟨nm, ty, cl, tt, da⟩ ttl k).length c9, .slice xA m.extra.length xc, .bool m.he, .int .u16 m.ed.size, .int .u8 m.ed.ext, .int .u8 m.ed.ver, .int .u16 m.ed.flags, .slice oA2 m.ed.opts.length oc2] 45) ∧ Own wr X19.heap.size 56 5 B (recsT (soa.take i) ttl ++ recs1 ⟨nm, ty, cl, tt, da⟩ ttl k).length c9 ((recsT (soa.take i) ttl ++ recs1 ⟨nm, ty, cl, tt, da⟩ ttl k).flatMap recCells) ∧ Ext X9 wr ∧ X19.heap.size ≤ wr.heap.size ∧ (∀ x, x < X19.heap.size → x ≠ b15 → wr.heap[x]? = X19.heap[x]?)) (fun s17 _ => da.length - (intOf s17).toNat)
          case atStart => exact ⟨0, B, c9, Nat.zero_le _, rfl, by rw [HD0.out, List.append_nil]; exact hRo, by rw [HD0.out, List.append_nil]; exact hOo, hEo, hZo, hKo⟩
          case round =>
            obtain ⟨k, B, c9, hk, rfl, hr15, hown, hEq9, hwq, hkq⟩ := hrel
            obtain ⟨wq, rfl⟩ : ∃ wq : World, wq = wr := ⟨_, rfl⟩
            have hww' : Ext w wq := hw9.trans hEq9
            have cellK : ∀ (b_ o_ : Nat) (v_ : Value), b_ < X19.heap.size → b_ ≠ b15 → wo.cell? ⟨b_, o_, none⟩ = some v_ → ∀ V : World, (∀ x, x < X19.heap.size → x ≠ b15 → V.heap[x]? = wq.heap[x]?) → V.cell? ⟨b_, o_, none⟩ = some v_ := fun b_ o_ v_ h1 h2 h3 V hV => by
              have e1 := (hV b_ h1 h2).trans ((hkq b_ h1 h2).trans (hKo b_ h1 h2).symm)
              simp only [World.cell?, e1] at h3 ⊢
              exact h3
            have y4 := cellK bs (os + i * 5 + 4) _ hbsw (hbne bs hbsz) X0c.out.2.2.2 wq (fun _ _ _ => rfl)
            have y1 := cellK w.heap.size 2 _ hwW hwne Vo1.out wq (fun _ _ _ => rfl)
            clear v1 x0 x1 x2 x4
            by_cases hkl : k < da.length
            · obtain ⟨dg, dof, rfl, _, hdz, hdc⟩ := hdrd.2 (by omega)
              have hdj : da[k]? = some da[k] := List.getElem?_eq_getElem hkl
              have hck := hdc k (S da[k]) (by simp [hdj])
              have HT := Lib.hid (recs1_step ⟨nm, ty, cl, tt, da⟩ ttl k _ hdj)
              have hrl : (recs1 ⟨nm, ty, cl, tt, da⟩ ttl k).length ≤ 400 := by simp only [recs1, List.length_map, List.length_take]; omega
              generalize da[k] = y at *
              have HKl := Lib.hid hkl
              have hkk : (k : Int) < (da.length : Int) := by omega
              have hk00 : (0 : Int) ≤ (k : Int) := by omega
              generalize hAL : recsT (soa.take i) ttl ++ recs1 ⟨nm, ty, cl, tt, da⟩ ttl k = al at *
              have hal : al.length ≤ 16400 := by rw [← hAL, List.length_append]; omega
              have HAl := Lib.hid hAL
              have HS18 := Lib.hid (fun V (hV : ∀ x, x < X19.heap.size → x ≠ b15 → V.heap[x]? = wq.heap[x]?) => (show V.cell? ⟨w.heap.size, 2, none⟩ = some (.slice (some ⟨bs, os, none⟩) ops.length oc) ∧ (V.cell? ⟨bs, os + i * 5, none⟩ = some (S nm) ∧ V.cell? ⟨bs, os + i * 5 + 1, none⟩ = some (.int .u16 ty) ∧ V.cell? ⟨bs, os + i * 5 + 2, none⟩ = some (.int .u16 cl) ∧ V.cell? ⟨bs, os + i * 5 + 4, none⟩ = some (.slice (some ⟨dg, dof, none⟩) da.length dc)) ∧ V.cell? ⟨dg, dof + k, none⟩ = some (S y) from
                ⟨cellK _ _ _ hwW hwne Vo1.out V hV, ⟨cellK _ _ _ hbsw (hbne bs hbsz) X0c.out.1 V hV, cellK _ _ _ hbsw (hbne bs hbsz) X0c.out.2.1 V hV, cellK _ _ _ hbsw (hbne bs hbsz) X0c.out.2.2.1 V hV, cellK _ _ _ hbsw (hbne bs hbsz) X0c.out.2.2.2 V hV⟩,
                 by
                  have h1 := (hww'.cell (p := ⟨dg, dof + k, none⟩) hdz).trans hck
                  have e1 := hV dg (Nat.lt_of_lt_of_le hdz hwWs) (hbne dg hdz)
                  simp only [World.cell?, e1] at h1 ⊢
                  exact h1⟩))
              have hS0 := HS18.out wq.drew (fun _ _ _ => rfl)
              clear hdc hdj hck hrl hAL
              go_upto_region 25 with fail
              clear y1 y4
              refine wp_region_noPanic ?_
              refine wp_region_tree (S := (fun V => V.cell? ⟨w.heap.size, 2, none⟩ = some (.slice (some ⟨bs, os, none⟩) ops.length oc) ∧ (V.cell? ⟨bs, os + i * 5, none⟩ = some (S nm) ∧ V.cell? ⟨bs, os + i * 5 + 1, none⟩ = some (.int .u16 ty) ∧ V.cell? ⟨bs, os + i * 5 + 2, none⟩ = some (.int .u16 cl) ∧ V.cell? ⟨bs, os + i * 5 + 4, none⟩ = some (.slice (some ⟨dg, dof, none⟩) da.length dc)) ∧ V.cell? ⟨dg, dof + k, none⟩ = some (S y))) (.take 0 (.take 2 (.take 3 (.take 4 (.take 5 (.take 6 (.take 7 (.take 8 (.take 9 (.take 10 (.take 11 (.take 12 (.take 13 (.take 14 (.take 15 (.take 16 (.take 17 (.take 18 (.take 19 (.take 20 (.take 21 (.take 22 (.take 23 (.take 24 (.take 25 (.take 26 (.take 27 (.take 28 (.take 29 (.take 30 (.run2 1 (.run 31 (.run 32 (.take 33 (.run 34 (.done))))) 31 (.run 1 (.run 32 (.take 33 (.run 34 (.done)))))))))))))))))))))))))))))))))))) (by kernel_rfl) (by kernel_rfl) (fun _ _ _ _ _ h => h) (hS0) ?_
              repeat ((with_reducible refine treeIs ?_); first
                | (refine treeTakeX (a' := ?_) ⟨_, hS0⟩ (by rfl) rfl (by kernel_rfl) rfl ?_ ?_; rotate_left; (focus (intro V Q' hV hq; obtain ⟨hV1, ⟨hV2, hV3, hV4, hV5⟩, hV6⟩ := hV; (repeat (first | go_guarded | go_skip | go_step)); (first | exact hq | exact wpList_nil hq)))))
              refine treeRun2 ?_ ?_
              · refine treeRun (by rfl) (fun K hK => ?_)
                have k12 := box_cell (j := 13) ((((show Ext wq (wq.drew) from (Ext.refl wq).drew).block _ (Nat.lt_of_lt_of_le hb15l hwq)).trans hr15)) rfl
                go_simp
                clear k12
                refine hK.out _ _ ?_ ?_
                · exact (HS18.out _ (fun x hx _ => (show Ext wq (wq.drew) from (Ext.refl wq).drew).block x (Nat.lt_of_lt_of_le hx hwq)))
                clear hK K
                (try simp only [Act.put, List.setIfInBounds_toArray, List.set_cons_zero, List.set_cons_succ])
                refine treeRun (by rfl) (fun K hK => ?_)
                go_simp
                refine hK.out _ _ ?_ ?_
                · exact (HS18.out _ (fun x hx _ => (show Ext wq ((wq.alloc (.cells #[S nm, .int .u16 ty, .int .u16 cl, .int .u32 ttl, S y] 56)).drew) from ((Ext.refl wq).alloc _).drew).block x (Nat.lt_of_lt_of_le hx hwq)))
                clear hK K
                (try simp only [Act.put, List.setIfInBounds_toArray, List.set_cons_zero, List.set_cons_succ])
                refine treeRun (by rfl) (fun K hK => ?_)
                refine step_app ((wq.alloc (.cells #[S nm, .int .u16 ty, .int .u16 cl, .int .u32 ttl, S y] 56)).drew) rfl (.tmp 130) (.tmp 160) _ rfl X19.heap.size 56 i0 _ 5 40 Tryz.underlying40 hi0 hz0 hz1 hz2 rfl (by omega) B al.length c9 (al.flatMap recCells) rfl (hown.ext (((Ext.refl wq).alloc _).drew)) 0 _ 1 1 (recCells ⟨nm, ty, cl, ttl, y⟩) rfl ((rd_new _ _ (by simp) _ _ 1 5 rfl).drew) (rec_one7 _) (by omega) (by omega) (by simp; omega) ?_
                intro A9 d9 w9 hown9 hg9 hb9 hat9
                have hk9 : ∀ x, x < X19.heap.size → w9.heap[x]? = wq.heap[x]? := fun x hx => (hb9.block x hx).trans ((((Ext.refl wq).alloc _).drew).block x (Nat.lt_of_lt_of_le hx hwq))
                have hE9 : Ext X9 w9 := (hEq9.trans (((Ext.refl wq).alloc _).drew)).then hb9 hX9W
                have hz9 : wq.heap.size ≤ w9.heap.size := Nat.le_trans (((Ext.refl wq).alloc _).drew).size hb9.size
                refine hK.out _ _ ?_ ?_
                · exact (HS18.out _ (fun x hx _ => hk9 x hx))
                clear hK K
                (try simp only [Act.put, List.setIfInBounds_toArray, List.set_cons_zero, List.set_cons_succ])
                repeat ((with_reducible refine treeIs ?_); first
                  | (refine treeTakeX (a' := ?_) ⟨_, hS0⟩ (by rfl) rfl (by kernel_rfl) rfl ?_ ?_; rotate_left; (focus (intro V Q' hV hq; obtain ⟨hV1, ⟨hV2, hV3, hV4, hV5⟩, hV6⟩ := hV; (repeat (first | go_guarded | go_skip | go_step)); (first | exact hq | exact wpList_nil hq)))))
                refine treeRun (by rfl) (fun K hK => ?_)
                have r159 := (hk9 b15 hb15l).trans hr15
                have k9 := box_cell (j := 13) r159 rfl
                have g9 := box_free (j := 13) r159
                go_simp
                refine hK.out _ _ ?_ ?_
                · exact (HS18.out _ (fun x hx hne => (Below.heap_setCell _ ⟨b15, 13, none⟩ _ x hne).trans (hk9 x hx)))
                clear hK K
                (try simp only [Act.put, List.setIfInBounds_toArray, List.set_cons_zero, List.set_cons_succ])
                refine treeDone ?_
                refine NoPanic.normal ?_
                go_upto_region 24 with fail
                obtain ⟨W9, hW9⟩ : ∃ W9, W9 = w9.setCell ⟨b15, 13, none⟩ (.slice A9 (al.length + 1) d9) := ⟨_, rfl⟩
                rw [← hW9]
                have r15w : W9.heap[b15]? = some (.cells #[.int .u16 m.hd.id, .bool m.hd.qr, .int .u8 m.hd.op, .bool m.hd.aa, .bool false, .bool m.hd.rd, .bool m.hd.ra, .bool m.hd.z, .bool m.hd.ad, .bool m.hd.cd, .int .u8 m.hd.code, .slice qA m.qs.length qc, .slice v0A (recsT sets ttl).length v0c, .slice A9 (al.length + 1) d9, .slice xA m.extra.length xc, .bool m.he, .int .u16 m.ed.size, .int .u8 m.ed.ext, .int .u8 m.ed.ver, .int .u16 m.ed.flags, .slice oA2 m.ed.opts.length oc2] 45) := by rw [hW9]; exact row_set r159 13 _
                have hEW : Ext X9 W9 := by rw [hW9]; exact hE9.setCell hb159 _
                have hownW : Own W9 X19.heap.size 56 5 A9 (al.length + 1) d9 (al.flatMap recCells ++ recCells ⟨nm, ty, cl, ttl, y⟩) := by rw [hW9]; exact hown9.set_other hb15l _
                have hzW : X19.heap.size ≤ W9.heap.size := by
                  have h1 : W9.heap.size = w9.heap.size := by rw [hW9]; simp [World.setCell]
                  omega
                have hkW : ∀ x, x < X19.heap.size → x ≠ b15 → W9.heap[x]? = X19.heap[x]? := fun x hx hne => by
                  rw [hW9]; exact ((Below.heap_setCell _ ⟨b15, 13, none⟩ _ x hne).trans (hk9 x hx)).trans (hkq x hx hne)
                clear hW9 hk9 k9 g9 r159 hg9 hb9 hat9 hown9
                go_wp2_with fail
                go_roundw
                case rel =>
                  have hl1 : recsT (soa.take i) ttl ++ recs1 ⟨nm, ty, cl, tt, da⟩ ttl (k + 1) = al ++ [⟨nm, ty, cl, ttl, y⟩] := by rw [HT.out, ← List.append_assoc, HAl.out]
                  refine ⟨k + 1, A9, d9, by have := HKl.out; omega, by go_num, ?_, ?_, hEW, hzW, hkW⟩
                  · rw [hl1, List.length_append]; exact r15w
                  · rw [hl1, List.length_append, List.flatMap_append]; simpa using hownW
                case measure => (have := HKl.out); simp [intOf]; omega
              · refine treeRun (by rfl) (fun K hK => ?_)
                go_simp
                refine hK.out _ _ ?_ ?_
                · exact (HS18.out _ (fun x hx _ => (show Ext wq ((wq.alloc (.cells #[S nm, .int .u16 ty, .int .u16 cl, .int .u32 ttl, S y] 56)).drew) from ((Ext.refl wq).alloc _).drew).block x (Nat.lt_of_lt_of_le hx hwq)))
                clear hK K
                (try simp only [Act.put, List.setIfInBounds_toArray, List.set_cons_zero, List.set_cons_succ])
                refine treeRun (by rfl) (fun K hK => ?_)
                have k12 := box_cell (j := 13) ((((show Ext wq ((wq.alloc (.cells #[S nm, .int .u16 ty, .int .u16 cl, .int .u32 ttl, S y] 56)).drew) from ((Ext.refl wq).alloc _).drew).block _ (Nat.lt_of_lt_of_le hb15l hwq)).trans hr15)) rfl
                go_simp
                clear k12
                refine hK.out _ _ ?_ ?_
                · exact (HS18.out _ (fun x hx _ => (show Ext wq ((wq.alloc (.cells #[S nm, .int .u16 ty, .int .u16 cl, .int .u32 ttl, S y] 56)).drew) from ((Ext.refl wq).alloc _).drew).block x (Nat.lt_of_lt_of_le hx hwq)))
                clear hK K
                (try simp only [Act.put, List.setIfInBounds_toArray, List.set_cons_zero, List.set_cons_succ])
                refine treeRun (by rfl) (fun K hK => ?_)
                refine step_app ((wq.alloc (.cells #[S nm, .int .u16 ty, .int .u16 cl, .int .u32 ttl, S y] 56)).drew) rfl (.tmp 130) (.tmp 160) _ rfl X19.heap.size 56 i0 _ 5 40 Tryz.underlying40 hi0 hz0 hz1 hz2 rfl (by omega) B al.length c9 (al.flatMap recCells) rfl (hown.ext (((Ext.refl wq).alloc _).drew)) 0 _ 1 1 (recCells ⟨nm, ty, cl, ttl, y⟩) rfl ((rd_new _ _ (by simp) _ _ 1 5 rfl).drew) (rec_one7 _) (by omega) (by omega) (by simp; omega) ?_
                intro A9 d9 w9 hown9 hg9 hb9 hat9
                have hk9 : ∀ x, x < X19.heap.size → w9.heap[x]? = wq.heap[x]? := fun x hx => (hb9.block x hx).trans ((((Ext.refl wq).alloc _).drew).block x (Nat.lt_of_lt_of_le hx hwq))
                have hE9 : Ext X9 w9 := (hEq9.trans (((Ext.refl wq).alloc _).drew)).then hb9 hX9W
                have hz9 : wq.heap.size ≤ w9.heap.size := Nat.le_trans (((Ext.refl wq).alloc _).drew).size hb9.size
                refine hK.out _ _ ?_ ?_
                · exact (HS18.out _ (fun x hx _ => hk9 x hx))
                clear hK K
                (try simp only [Act.put, List.setIfInBounds_toArray, List.set_cons_zero, List.set_cons_succ])
                repeat ((with_reducible refine treeIs ?_); first
                  | (refine treeTakeX (a' := ?_) ⟨_, hS0⟩ (by rfl) rfl (by kernel_rfl) rfl ?_ ?_; rotate_left; (focus (intro V Q' hV hq; obtain ⟨hV1, ⟨hV2, hV3, hV4, hV5⟩, hV6⟩ := hV; (repeat (first | go_guarded | go_skip | go_step)); (first | exact hq | exact wpList_nil hq)))))
                refine treeRun (by rfl) (fun K hK => ?_)
                have r159 := (hk9 b15 hb15l).trans hr15
                have k9 := box_cell (j := 13) r159 rfl
                have g9 := box_free (j := 13) r159
                go_simp
                refine hK.out _ _ ?_ ?_
                · exact (HS18.out _ (fun x hx hne => (Below.heap_setCell _ ⟨b15, 13, none⟩ _ x hne).trans (hk9 x hx)))
                clear hK K
                (try simp only [Act.put, List.setIfInBounds_toArray, List.set_cons_zero, List.set_cons_succ])
                refine treeDone ?_
                refine NoPanic.normal ?_
                go_upto_region 24 with fail
                obtain ⟨W9, hW9⟩ : ∃ W9, W9 = w9.setCell ⟨b15, 13, none⟩ (.slice A9 (al.length + 1) d9) := ⟨_, rfl⟩
                rw [← hW9]
                have r15w : W9.heap[b15]? = some (.cells #[.int .u16 m.hd.id, .bool m.hd.qr, .int .u8 m.hd.op, .bool m.hd.aa, .bool false, .bool m.hd.rd, .bool m.hd.ra, .bool m.hd.z, .bool m.hd.ad, .bool m.hd.cd, .int .u8 m.hd.code, .slice qA m.qs.length qc, .slice v0A (recsT sets ttl).length v0c, .slice A9 (al.length + 1) d9, .slice xA m.extra.length xc, .bool m.he, .int .u16 m.ed.size, .int .u8 m.ed.ext, .int .u8 m.ed.ver, .int .u16 m.ed.flags, .slice oA2 m.ed.opts.length oc2] 45) := by rw [hW9]; exact row_set r159 13 _
                have hEW : Ext X9 W9 := by rw [hW9]; exact hE9.setCell hb159 _
                have hownW : Own W9 X19.heap.size 56 5 A9 (al.length + 1) d9 (al.flatMap recCells ++ recCells ⟨nm, ty, cl, ttl, y⟩) := by rw [hW9]; exact hown9.set_other hb15l _
                have hzW : X19.heap.size ≤ W9.heap.size := by
                  have h1 : W9.heap.size = w9.heap.size := by rw [hW9]; simp [World.setCell]
                  omega
                have hkW : ∀ x, x < X19.heap.size → x ≠ b15 → W9.heap[x]? = X19.heap[x]? := fun x hx hne => by
                  rw [hW9]; exact ((Below.heap_setCell _ ⟨b15, 13, none⟩ _ x hne).trans (hk9 x hx)).trans (hkq x hx hne)
                clear hW9 hk9 k9 g9 r159 hg9 hb9 hat9 hown9
                go_wp2_with fail
                go_roundw
                case rel =>
                  have hl1 : recsT (soa.take i) ttl ++ recs1 ⟨nm, ty, cl, tt, da⟩ ttl (k + 1) = al ++ [⟨nm, ty, cl, ttl, y⟩] := by rw [HT.out, ← List.append_assoc, HAl.out]
                  refine ⟨k + 1, A9, d9, by have := HKl.out; omega, by go_num, ?_, ?_, hEW, hzW, hkW⟩
                  · rw [hl1, List.length_append]; exact r15w
                  · rw [hl1, List.length_append, List.flatMap_append]; simpa using hownW
                case measure => (have := HKl.out); simp [intOf]; omega
            · obtain rfl : k = da.length := by omega
              have hkk : ¬ ((da.length : Int) < (da.length : Int)) := by omega
              go_wp2_with fail
              go_roundw
              case rel =>
                refine ⟨i + 1, B, c9, by have := HIl.out; omega, by go_num, ?_, ?_, hEq9, hwq, hkq⟩
                · rw [HTs.out]; exact hr15
                · rw [HTs.out]; exact hown
              case measure => (have := HIl.out); simp [intOf]; omega
        · obtain rfl : i = ops.length := by omega
          obtain ⟨X21, rfl⟩ : ∃ X21 : World, X21 = wo := ⟨_, rfl⟩
          have HTe1 := Lib.hid (show recsT (soa.take ops.length) ttl = recsT soa ttl from by rw [HPl.out, List.take_length])
          rw [HTe1.out] at hown hr15
          obtain ⟨v1A, rfl⟩ : ∃ v1A, v1A = B := ⟨_, rfl⟩
          obtain ⟨v1c, rfl⟩ : ∃ v1c, v1c = c9 := ⟨_, rfl⟩
          have hO0 : ORec7 X21 X12.heap.size (.slice v0A (recsT sets ttl).length v0c) (recsT sets ttl) := ORec7.by_ (w := X19) ⟨_, _, rfl, ho0.out⟩ fun k hk hk2 => hkq k hk2 (by omega)
          have hO1 : ORec7 X21 X19.heap.size (.slice v1A (recsT soa ttl).length v1c) (recsT soa ttl) := ⟨_, _, rfl, hown⟩
          have hX9E : Ext X9 X21 := hEq9
          have hw21 : Ext w X21 := hw9.trans hEq9
          have hm7 := cut_msg7 HWh.out.1 HM.out (hY13.trans hX9E) hO0 hO1 hBd hsm1 hsm2
          have HSz := Lib.hid (show Calls Tryz.prog 23 #[.agg #[.int .u16 m.hd.id, .bool m.hd.qr, .int .u8 m.hd.op, .bool m.hd.aa, .bool false, .bool m.hd.rd, .bool m.hd.ra, .bool m.hd.z, .bool m.hd.ad, .bool m.hd.cd, .int .u8 m.hd.code, .slice qA m.qs.length qc, .slice v0A (recsT sets ttl).length v0c, .slice v1A (recsT soa ttl).length v1c, .slice xA m.extra.length xc, .bool m.he, .int .u16 m.ed.size, .int .u8 m.ed.ext, .int .u8 m.ed.ver, .int .u16 m.ed.flags, .slice oA2 m.ed.opts.length oc2]] X21 (SizPost wh X21) from by
            have h := wire_size wh _ _ _ _ _ X21 (hg.ext hw21) (hb.ext hw21) HWh.out.2 hm7
            have e : msg7V wh.hd (.slice qA m.qs.length qc) (.slice v0A (recsT sets ttl).length v0c) (.slice v1A (recsT soa ttl).length v1c) (.slice xA m.extra.length xc) wh.he wh.ed (.slice oA2 m.ed.opts.length oc2) = .agg #[.int .u16 m.hd.id, .bool m.hd.qr, .int .u8 m.hd.op, .bool m.hd.aa, .bool false, .bool m.hd.rd, .bool m.hd.ra, .bool m.hd.z, .bool m.hd.ad, .bool m.hd.cd, .int .u8 m.hd.code, .slice qA m.qs.length qc, .slice v0A (recsT sets ttl).length v0c, .slice v1A (recsT soa ttl).length v1c, .slice xA m.extra.length xc, .bool m.he, .int .u16 m.ed.size, .int .u8 m.ed.ext, .int .u8 m.ed.ver, .int .u16 m.ed.flags, .slice oA2 m.ed.opts.length oc2] := by rw [HWh.out.1]
            rw [e] at h
            exact h)
          unfold SizPost at HSz
          go_upto_region 27 with (first | (refine wpList_load_part (by rfl) 45 (.tmp 15) rfl b15 0 rfl [.int .u16 m.hd.id, .bool m.hd.qr, .int .u8 m.hd.op, .bool m.hd.aa, .bool false, .bool m.hd.rd, .bool m.hd.ra, .bool m.hd.z, .bool m.hd.ad, .bool m.hd.cd, .int .u8 m.hd.code, .slice qA m.qs.length qc, .slice v0A (recsT sets ttl).length v0c, .slice v1A (recsT soa ttl).length v1c, .slice xA m.extra.length xc, .bool m.he, .int .u16 m.ed.size, .int .u8 m.ed.ext, .int .u8 m.ed.ver, .int .u16 m.ed.flags, .slice oA2 m.ed.opts.length oc2] (row_all hr15) _ Tryz.underlying45 rfl (by kernel_rfl) ?_) | (go_at_call 23; refine HSz.out.mono ?_; rintro e W26 ⟨rfl, hE2126⟩) | fail)
          have hw26 : Ext w W26 := hw21.trans hE2126
          have hE926 : Ext X9 W26 := hX9E.trans hE2126
          have r136 := (hE926.block _ (Array.getElem?_eq_some_iff.1 r13).1).trans r13
          have r116 := (hE926.block _ (Array.getElem?_eq_some_iff.1 r119).1).trans r119
          have r06 := (hE926.block _ (Array.getElem?_eq_some_iff.1 r09).1).trans r09
          have HRo := Lib.hid (fun V => int_room c n V)
          obtain ⟨ze, hze⟩ : ∃ ze, ze = encErr wh := ⟨_, rfl⟩
          obtain ⟨zl, hzl⟩ : ∃ zl : Int, zl = ((encOf wh).length : Int) := ⟨_, rfl⟩
          rw [← hze, ← hzl] at HTc
          rw [← hze] at HEe
          rw [← hze, ← hzl]
          obtain ⟨zi, hzi⟩ : ∃ zi : Int, zi = (ze : Int) := ⟨_, rfl⟩
          rw [← hzi]
          have HZi := Lib.hid hzi
          clear hze hzl hzi v1 hown hr15
          go_cut [189] (fun s189 wx => s189 = .bool false ∧ Ext W26 wx)
          case first =>
            rcases HEe.out with h0 | h5
            · by_cases hle : zl ≤ roomOf c n
              · have htcc : m.hd.tc = false := HTc.out.2 ⟨h0, hle⟩
                have b1 : (zi == 0) = true := by rw [HZi.out, h0]; rfl
                have b2 : (zi != 0) = false := by rw [HZi.out, h0]; rfl
                have hle1 : decide (zl ≤ roomOf c n) = true := decide_eq_true hle
                clear h0
                have HS27 := Lib.hid (fun V (hV : Ext W26 V) => (show V.cell? ⟨b13, 4, none⟩ = some (.bool false) ∧ V.heap[b11]? = some (.cells (caRow c.kind c.code c.hd c.hasQ c.q c.hasE c.size) 34) from
                  ⟨by rw [← htcc]; exact box_cell ((hV.block _ (Array.getElem?_eq_some_iff.1 r136).1).trans r136) rfl, (hV.block _ (Array.getElem?_eq_some_iff.1 r116).1).trans r116⟩))
                clear htcc
                refine wp_region_noPanic ?_
                refine wp_region_tree (S := (fun V => V.cell? ⟨b13, 4, none⟩ = some (.bool false) ∧ V.heap[b11]? = some (.cells (caRow c.kind c.code c.hd c.hasQ c.q c.hasE c.size) 34))) (.take 0 (.take 1 (.take 2 (.take 3 (.take 4 (.take 5 (.take 6 (.take 7 (.take 8 (.take 9 (.take 10 (.take 11 (.take 12 (.take 13 (.take 14 (.take 15 (.take 16 (.run 17 (.take 18 (.take 19 (.take 20 (.take 21 (.done))))))))))))))))))))))) (by kernel_rfl) (by kernel_rfl) (fun _ _ _ _ _ h => h) ((HS27.out _ (Ext.refl W26).drew)) ?_
                repeat ((with_reducible refine treeIs ?_); first
                  | (refine treeTakeX (a' := ?_) ⟨_, (HS27.out _ (Ext.refl W26).drew)⟩ (by rfl) rfl (by kernel_rfl) rfl ?_ ?_; rotate_left; (focus (intro V Q' hV hq; obtain ⟨hV1, hV2⟩ := hV; (repeat (first | go_guarded | go_skip | go_step)); (first | exact hq | exact wpList_nil hq))))
                  | (refine treeTake (v := ?_) (by rfl) (by rfl) ?_ ?_; rotate_left; (focus (intro V hV; refine exec_load_part 34 (.tmp 11) ?_ b11 0 ?_ [.int .u8 c.kind, .int .i64 c.code, .int .u16 c.hd.id, .bool c.hd.qr, .int .u8 c.hd.op, .bool c.hd.aa, .bool c.hd.tc, .bool c.hd.rd, .bool c.hd.ra, .bool c.hd.z, .bool c.hd.ad, .bool c.hd.cd, .int .u8 c.hd.code, .bool c.hasQ, S c.q.name, .int .u16 c.q.typ, .int .u16 c.q.cls, .bool c.hasE, .int .i64 c.size] (row_all hV.2) _ Tryz.underlying34 ?_ ?_; (focus rfl); (focus rfl); (focus rfl); (focus kernel_rfl))); (try simp only [Act.put, List.setIfInBounds_toArray, List.set_cons_zero, List.set_cons_succ])))
                refine treeRun (by rfl) (fun K hK => ?_)
                go_simp
                refine (HRo.out _).mono ?_
                rintro e wr ⟨rfl, hEq⟩
                have hEr : Ext W26 wr := ((Ext.refl W26).drew).trans hEq
                clear hEq
                refine hK.out _ _ ?_ ?_
                · exact (HS27.out _ hEr)
                clear hK K
                (try simp only [Act.put, List.setIfInBounds_toArray, List.set_cons_zero, List.set_cons_succ])
                repeat ((with_reducible refine treeIs ?_); first
                  | (refine treeTakeX (a' := ?_) ⟨_, (HS27.out _ (Ext.refl W26).drew)⟩ (by rfl) rfl (by kernel_rfl) rfl ?_ ?_; rotate_left; (focus (intro V Q' hV hq; obtain ⟨hV1, hV2⟩ := hV; (repeat (first | go_guarded | go_skip | go_step)); (first | exact hq | exact wpList_nil hq))))
                  | (refine treeTake (v := ?_) (by rfl) (by rfl) ?_ ?_; rotate_left; (focus (intro V hV; refine exec_load_part 34 (.tmp 11) ?_ b11 0 ?_ [.int .u8 c.kind, .int .i64 c.code, .int .u16 c.hd.id, .bool c.hd.qr, .int .u8 c.hd.op, .bool c.hd.aa, .bool c.hd.tc, .bool c.hd.rd, .bool c.hd.ra, .bool c.hd.z, .bool c.hd.ad, .bool c.hd.cd, .int .u8 c.hd.code, .bool c.hasQ, S c.q.name, .int .u16 c.q.typ, .int .u16 c.q.cls, .bool c.hasE, .int .i64 c.size] (row_all hV.2) _ Tryz.underlying34 ?_ ?_; (focus rfl); (focus rfl); (focus rfl); (focus kernel_rfl))); (try simp only [Act.put, List.setIfInBounds_toArray, List.set_cons_zero, List.set_cons_succ])))
                refine treeDone ?_
                refine NoPanic.normal ?_
                (try go_wp2_with fail)
                go_meet
                exact ⟨rfl, hEr⟩
              · have htcc : m.hd.tc = true := by
                  cases h : m.hd.tc
                  · exact absurd (HTc.out.1 h).2 hle
                  · rfl
                have b1 : (zi == 0) = true := by rw [HZi.out, h0]; rfl
                have b2 : (zi != 0) = false := by rw [HZi.out, h0]; rfl
                have hle1 : decide (zl ≤ roomOf c n) = false := decide_eq_false hle
                clear h0
                have HS27 := Lib.hid (fun V (hV : Ext W26 V) => (show V.cell? ⟨b13, 4, none⟩ = some (.bool true) ∧ V.heap[b11]? = some (.cells (caRow c.kind c.code c.hd c.hasQ c.q c.hasE c.size) 34) from
                  ⟨by rw [← htcc]; exact box_cell ((hV.block _ (Array.getElem?_eq_some_iff.1 r136).1).trans r136) rfl, (hV.block _ (Array.getElem?_eq_some_iff.1 r116).1).trans r116⟩))
                clear htcc
                refine wp_region_noPanic ?_
                refine wp_region_tree (S := (fun V => V.cell? ⟨b13, 4, none⟩ = some (.bool true) ∧ V.heap[b11]? = some (.cells (caRow c.kind c.code c.hd c.hasQ c.q c.hasE c.size) 34))) (.take 0 (.take 1 (.take 2 (.take 3 (.take 4 (.take 5 (.take 6 (.take 7 (.take 8 (.take 9 (.take 10 (.take 11 (.take 12 (.take 13 (.take 14 (.take 15 (.take 16 (.run 17 (.take 18 (.take 19 (.take 20 (.take 21 (.done))))))))))))))))))))))) (by kernel_rfl) (by kernel_rfl) (fun _ _ _ _ _ h => h) ((HS27.out _ (Ext.refl W26).drew)) ?_
                repeat ((with_reducible refine treeIs ?_); first
                  | (refine treeTakeX (a' := ?_) ⟨_, (HS27.out _ (Ext.refl W26).drew)⟩ (by rfl) rfl (by kernel_rfl) rfl ?_ ?_; rotate_left; (focus (intro V Q' hV hq; obtain ⟨hV1, hV2⟩ := hV; (repeat (first | go_guarded | go_skip | go_step)); (first | exact hq | exact wpList_nil hq))))
                  | (refine treeTake (v := ?_) (by rfl) (by rfl) ?_ ?_; rotate_left; (focus (intro V hV; refine exec_load_part 34 (.tmp 11) ?_ b11 0 ?_ [.int .u8 c.kind, .int .i64 c.code, .int .u16 c.hd.id, .bool c.hd.qr, .int .u8 c.hd.op, .bool c.hd.aa, .bool c.hd.tc, .bool c.hd.rd, .bool c.hd.ra, .bool c.hd.z, .bool c.hd.ad, .bool c.hd.cd, .int .u8 c.hd.code, .bool c.hasQ, S c.q.name, .int .u16 c.q.typ, .int .u16 c.q.cls, .bool c.hasE, .int .i64 c.size] (row_all hV.2) _ Tryz.underlying34 ?_ ?_; (focus rfl); (focus rfl); (focus rfl); (focus kernel_rfl))); (try simp only [Act.put, List.setIfInBounds_toArray, List.set_cons_zero, List.set_cons_succ])))
                refine treeRun (by rfl) (fun K hK => ?_)
                go_simp
                refine (HRo.out _).mono ?_
                rintro e wr ⟨rfl, hEq⟩
                have hEr : Ext W26 wr := ((Ext.refl W26).drew).trans hEq
                clear hEq
                refine hK.out _ _ ?_ ?_
                · exact (HS27.out _ hEr)
                clear hK K
                (try simp only [Act.put, List.setIfInBounds_toArray, List.set_cons_zero, List.set_cons_succ])
                repeat ((with_reducible refine treeIs ?_); first
                  | (refine treeTakeX (a' := ?_) ⟨_, (HS27.out _ (Ext.refl W26).drew)⟩ (by rfl) rfl (by kernel_rfl) rfl ?_ ?_; rotate_left; (focus (intro V Q' hV hq; obtain ⟨hV1, hV2⟩ := hV; (repeat (first | go_guarded | go_skip | go_step)); (first | exact hq | exact wpList_nil hq))))
                  | (refine treeTake (v := ?_) (by rfl) (by rfl) ?_ ?_; rotate_left; (focus (intro V hV; refine exec_load_part 34 (.tmp 11) ?_ b11 0 ?_ [.int .u8 c.kind, .int .i64 c.code, .int .u16 c.hd.id, .bool c.hd.qr, .int .u8 c.hd.op, .bool c.hd.aa, .bool c.hd.tc, .bool c.hd.rd, .bool c.hd.ra, .bool c.hd.z, .bool c.hd.ad, .bool c.hd.cd, .int .u8 c.hd.code, .bool c.hasQ, S c.q.name, .int .u16 c.q.typ, .int .u16 c.q.cls, .bool c.hasE, .int .i64 c.size] (row_all hV.2) _ Tryz.underlying34 ?_ ?_; (focus rfl); (focus rfl); (focus rfl); (focus kernel_rfl))); (try simp only [Act.put, List.setIfInBounds_toArray, List.set_cons_zero, List.set_cons_succ])))
                refine treeDone ?_
                refine NoPanic.normal ?_
                (try go_wp2_with fail)
                go_meet
                exact ⟨rfl, hEr⟩
            · have htcc : m.hd.tc = true := by
                cases h : m.hd.tc
                · have := (HTc.out.1 h).1; omega
                · rfl
              have b1 : (zi == 0) = false := by rw [HZi.out, h5]; rfl
              have b2 : (zi != 0) = true := by rw [HZi.out, h5]; rfl
              have b3 : (zi == 5) = true := by rw [HZi.out, h5]; rfl
              have b4 : (zi != 5) = false := by rw [HZi.out, h5]; rfl
              clear h5
              have HS27 := Lib.hid (fun V (hV : Ext W26 V) => (show V.cell? ⟨b13, 4, none⟩ = some (.bool true) ∧ V.heap[b11]? = some (.cells (caRow c.kind c.code c.hd c.hasQ c.q c.hasE c.size) 34) from
                ⟨by rw [← htcc]; exact box_cell ((hV.block _ (Array.getElem?_eq_some_iff.1 r136).1).trans r136) rfl, (hV.block _ (Array.getElem?_eq_some_iff.1 r116).1).trans r116⟩))
              clear htcc
              refine wp_region_noPanic ?_
              refine wp_region_tree (S := (fun V => V.cell? ⟨b13, 4, none⟩ = some (.bool true) ∧ V.heap[b11]? = some (.cells (caRow c.kind c.code c.hd c.hasQ c.q c.hasE c.size) 34))) (.take 0 (.take 1 (.take 2 (.take 3 (.take 4 (.take 5 (.take 6 (.take 7 (.take 8 (.take 9 (.take 10 (.take 11 (.take 12 (.take 13 (.take 14 (.take 15 (.take 16 (.take 17 (.take 18 (.take 19 (.take 20 (.take 21 (.done))))))))))))))))))))))) (by kernel_rfl) (by kernel_rfl) (fun _ _ _ _ _ h => h) ((HS27.out _ (Ext.refl W26).drew)) ?_
              repeat ((with_reducible refine treeIs ?_); first
                | (refine treeTakeX (a' := ?_) ⟨_, (HS27.out _ (Ext.refl W26).drew)⟩ (by rfl) rfl (by kernel_rfl) rfl ?_ ?_; rotate_left; (focus (intro V Q' hV hq; obtain ⟨hV1, hV2⟩ := hV; (repeat (first | go_guarded | go_skip | go_step)); (first | exact hq | exact wpList_nil hq))))
                | (refine treeSkip (by rfl) (by rfl) ?_; (try simp only [Act.put, List.setIfInBounds_toArray, List.set_cons_zero, List.set_cons_succ])))
              refine treeDone ?_
              refine NoPanic.normal ?_
              (try go_wp2_with fail)
              go_meet
              exact ⟨rfl, (Ext.refl W26).drew⟩
          case rest =>
            obtain ⟨rfl, hEc⟩ := hcut
            obtain ⟨W29, rfl⟩ : ∃ W29 : World, W29 = wc := ⟨_, rfl⟩
            have r139 := (hEc.block _ (Array.getElem?_eq_some_iff.1 r136).1).trans r136
            have t4 := box_cell (j := 4) r139 rfl
            change W29.cell? ⟨b13, 4, none⟩ = some (.bool m.hd.tc) at t4
            have hw29 : Ext w W29 := hw26.trans hEc
            rcases htcc : m.hd.tc with _ | _
            · rw [htcc] at t4
              by_cases hmn : mo < n
              · go_wp2_with fail
                go_ret
                exact ⟨rfl, hw29⟩
              by_cases hm4 : 4096 < mo
              · go_wp2_with fail
                go_ret
                exact ⟨rfl, hw29⟩
              obtain ⟨hsl2, m2, hdm2, hal2, hul2, hsz, hq1, hq2⟩ := HMo.out htcc mo (by omega) (by omega)
              clear htcc
              obtain ⟨s2, hs2⟩ : ∃ s2, s2 = ansOf c vc sets soa ttl mo := ⟨_, rfl⟩
              rw [← hs2] at hsl2 hdm2 HOm
              have P2 := Lib.hid hdm2
              have HQ := Lib.hid (And.intro hsz (And.intro hq1 hq2))
              have HD2 := Lib.hid (fun V (hV : Ext w V) => wire_decode s2 V (hg.ext hV) (hb.ext hV) (by omega))
              have r114 := (hEc.block _ (Array.getElem?_eq_some_iff.1 r116).1).trans r116
              have r04 := (hEc.block _ (Array.getElem?_eq_some_iff.1 r06).1).trans r06
              clear hdm2 hsz hq1 hq2 hs2
              go_wp2_with (first | (refine wpList_load_part (by rfl) 34 (.tmp 11) rfl b11 0 rfl [.int .u8 c.kind, .int .i64 c.code, .int .u16 c.hd.id, .bool c.hd.qr, .int .u8 c.hd.op, .bool c.hd.aa, .bool c.hd.tc, .bool c.hd.rd, .bool c.hd.ra, .bool c.hd.z, .bool c.hd.ad, .bool c.hd.cd, .int .u8 c.hd.code, .bool c.hasQ, S c.q.name, .int .u16 c.q.typ, .int .u16 c.q.cls, .bool c.hasE, .int .i64 c.size] (row_all r114) _ Tryz.underlying34 rfl (by kernel_rfl) ?_) | (refine wpList_load_part (by rfl) 24 (.tmp 6) rfl w.heap.size 0 rfl [.int .u8 vc, .slice sA sps.length sc, .slice oA ops.length oc] (row_all r04) _ Tryz.underlying24 rfl (by kernel_rfl) ?_) | fail)
              refine (HOm.out _ hw29).mono ?_
              rintro e W30 ⟨rfl, hE30⟩
              have hw30 : Ext w W30 := hw29.trans hE30
              go_wp2_with fail
              refine (HD2.out _ hw30).mono ?_
              rintro e Y22 ⟨⟨x, _, hx, _⟩ | ⟨m2', q, a, u, x, o, hm, rfl, hMO, hBd2⟩, hEd⟩
              · rw [P2.out] at hx; cases hx
              obtain rfl : m2 = m2' := by have := P2.out; rw [hm] at this; injection this with this; exact this.symm
              clear hm
              have HM2 := Lib.hid hMO
              obtain ⟨⟨qB, qd, rfl, _⟩, ⟨aB, ad, rfl, _⟩, ⟨uB, ud, rfl, _⟩, ⟨xB, xd, rfl, _⟩, ⟨oB2, od2, rfl, _⟩⟩ := hMO
              dsimp only
              iterate 10 go_step
              skip
              obtain ⟨b22, hb22⟩ : ∃ b22, b22 = Y22.heap.size := ⟨_, rfl⟩
              have hz : (Y22.alloc (.cells msgZ 45)).heap[b22]? = some (.cells msgZ 45) := by rw [hb22]; exact heap_alloc_new _ _
              refine Go.Great.wpList_allocTo rfl (some 22) rfl (.pointer (some ⟨Y22.heap.size, 0, none⟩)) (.cells msgZ 45) (by kernel_rfl) ?_
              rw [← hb22]
              refine Go.wpList_store_rowTo rfl 45 (.tmp 22) (.tmp 211) rfl rfl b22 #[.int .u16 m2.hd.id, .bool m2.hd.qr, .int .u8 m2.hd.op, .bool m2.hd.aa, .bool m2.hd.tc, .bool m2.hd.rd, .bool m2.hd.ra, .bool m2.hd.z, .bool m2.hd.ad, .bool m2.hd.cd, .int .u8 m2.hd.code, .slice qB m2.qs.length qd, .slice aB m2.ans.length ad, .slice uB m2.auth.length ud, .slice xB m2.extra.length xd, .bool m2.he, .int .u16 m2.ed.size, .int .u8 m2.ed.ext, .int .u8 m2.ed.ver, .int .u16 m2.ed.flags, .slice oB2 m2.ed.opts.length od2] rfl rfl 45 _ hz (by kernel_rfl) rfl (by kernel_rfl) ?_
              rw [alloc_setRow7 Y22 msgZ #[.int .u16 m2.hd.id, .bool m2.hd.qr, .int .u8 m2.hd.op, .bool m2.hd.aa, .bool m2.hd.tc, .bool m2.hd.rd, .bool m2.hd.ra, .bool m2.hd.z, .bool m2.hd.ad, .bool m2.hd.cd, .int .u8 m2.hd.code, .slice qB m2.qs.length qd, .slice aB m2.ans.length ad, .slice uB m2.auth.length ud, .slice xB m2.extra.length xd, .bool m2.he, .int .u16 m2.ed.size, .int .u8 m2.ed.ext, .int .u8 m2.ed.ver, .int .u16 m2.ed.flags, .slice oB2 m2.ed.opts.length od2] 45 b22 hb22]
              iterate 3 go_step
              refine wpList_nil ?_
              rw [← hb22]
              have r22 : (Y22.alloc (.cells #[.int .u16 m2.hd.id, .bool m2.hd.qr, .int .u8 m2.hd.op, .bool m2.hd.aa, .bool m2.hd.tc, .bool m2.hd.rd, .bool m2.hd.ra, .bool m2.hd.z, .bool m2.hd.ad, .bool m2.hd.cd, .int .u8 m2.hd.code, .slice qB m2.qs.length qd, .slice aB m2.ans.length ad, .slice uB m2.auth.length ud, .slice xB m2.extra.length xd, .bool m2.he, .int .u16 m2.ed.size, .int .u8 m2.ed.ext, .int .u8 m2.ed.ver, .int .u16 m2.ed.flags, .slice oB2 m2.ed.opts.length od2] 45)).heap[b22]? = some (.cells #[.int .u16 m2.hd.id, .bool m2.hd.qr, .int .u8 m2.hd.op, .bool m2.hd.aa, .bool m2.hd.tc, .bool m2.hd.rd, .bool m2.hd.ra, .bool m2.hd.z, .bool m2.hd.ad, .bool m2.hd.cd, .int .u8 m2.hd.code, .slice qB m2.qs.length qd, .slice aB m2.ans.length ad, .slice uB m2.auth.length ud, .slice xB m2.extra.length xd, .bool m2.he, .int .u16 m2.ed.size, .int .u8 m2.ed.ext, .int .u8 m2.ed.ver, .int .u16 m2.ed.flags, .slice oB2 m2.ed.opts.length od2] 45) := by rw [hb22]; exact heap_alloc_new _ _
              have hE31X : Ext W30 (Y22.alloc (.cells #[.int .u16 m2.hd.id, .bool m2.hd.qr, .int .u8 m2.hd.op, .bool m2.hd.aa, .bool m2.hd.tc, .bool m2.hd.rd, .bool m2.hd.ra, .bool m2.hd.z, .bool m2.hd.ad, .bool m2.hd.cd, .int .u8 m2.hd.code, .slice qB m2.qs.length qd, .slice aB m2.ans.length ad, .slice uB m2.auth.length ud, .slice xB m2.extra.length xd, .bool m2.he, .int .u16 m2.ed.size, .int .u8 m2.ed.ext, .int .u8 m2.ed.ver, .int .u16 m2.ed.flags, .slice oB2 m2.ed.opts.length od2] 45)) := hEd.alloc _
              have hY22 : Ext Y22 (Y22.alloc (.cells #[.int .u16 m2.hd.id, .bool m2.hd.qr, .int .u8 m2.hd.op, .bool m2.hd.aa, .bool m2.hd.tc, .bool m2.hd.rd, .bool m2.hd.ra, .bool m2.hd.z, .bool m2.hd.ad, .bool m2.hd.cd, .int .u8 m2.hd.code, .slice qB m2.qs.length qd, .slice aB m2.ans.length ad, .slice uB m2.auth.length ud, .slice xB m2.extra.length xd, .bool m2.he, .int .u16 m2.ed.size, .int .u8 m2.ed.ext, .int .u8 m2.ed.ver, .int .u16 m2.ed.flags, .slice oB2 m2.ed.opts.length od2] 45)) := (Ext.refl _).alloc _
              have hloY22 : Y22.heap.size ≤ b22 := by rw [hb22]; exact Nat.le_refl _
              have hlo22 : W30.heap.size ≤ b22 := by rw [hb22]; exact hEd.size
              obtain ⟨X31, hX⟩ : ∃ X31, X31 = Y22.alloc (.cells #[.int .u16 m2.hd.id, .bool m2.hd.qr, .int .u8 m2.hd.op, .bool m2.hd.aa, .bool m2.hd.tc, .bool m2.hd.rd, .bool m2.hd.ra, .bool m2.hd.z, .bool m2.hd.ad, .bool m2.hd.cd, .int .u8 m2.hd.code, .slice qB m2.qs.length qd, .slice aB m2.ans.length ad, .slice uB m2.auth.length ud, .slice xB m2.extra.length xd, .bool m2.he, .int .u16 m2.ed.size, .int .u8 m2.ed.ext, .int .u8 m2.ed.ver, .int .u16 m2.ed.flags, .slice oB2 m2.ed.opts.length od2] 45) := ⟨_, rfl⟩
              rw [← hX] at r22 hE31X hY22 ⊢
              clear hX hz hb22 hEd
              have hE2631 : Ext W26 X31 := hEc.trans (hE30.trans hE31X)
              have r13x := ((hE30.trans hE31X).block _ (Array.getElem?_eq_some_iff.1 r139).1).trans r139
              obtain ⟨hsz, hq1, hq2⟩ := HQ.out
              have hm2e : m2 = { m with ed := { m.ed with size := m2.ed.size } } := hq1.trans (congrArg (fun e => ({ m with ed := e } : MsgD)) hq2)
              have HM2E := Lib.hid hm2e
              have hb22x : b22 < X31.heap.size := (Array.getElem?_eq_some_iff.1 r22).1
              have hne22 : b13 ≠ b22 := by
                have h1 := (Array.getElem?_eq_some_iff.1 r139).1
                have h2 : W29.heap.size ≤ b22 := Nat.le_trans hE30.size hlo22
                omega
              have t15 := box_cell (j := 15) r22 rfl
              change X31.cell? ⟨b22, 15, none⟩ = some (.bool m2.he) at t15
              have hmhe : m2.he = m.he := by rw [hm2e]
              rcases hhe : m2.he with _ | _
              · have hmm : m = m2 := by
                  unfold sizeM at hsz
                  rw [hhe] at hsz
                  exact (show m2 = m by simpa using hsz).symm
                clear hm2e HM2E hq1 hq2 hmhe hsz
                subst hmm
                rw [hhe] at t15
                have HMF := Lib.hid hhe
                have r22z := r22
                have r13z := r13x
                have h7w := ((HM2.out.lower (Nat.zero_le _)).ext hY22).msg7 hBd2
                have h7m := (((HM.out.lower (Nat.zero_le _)).ext (hY13.trans ((hX9E.trans hE2126).trans (hE2631))))).msg7 hBd
                have HSame := Lib.hid (ref7_same m _ _ _ _ _ _ _ _ _ _ X31 h7w h7m)
                go_upto_region 34 with fail
                rw [HMF.out] at HSame
                refine wp_region_lit ?_
                iterate 9 go_step
                refine load_rowC (by rfl) 45 (.tmp 22) rfl b22 rfl 45 _ _ _ r22z Tryz.underlying45 rfl (by kernel_rfl) ?_
                refine load_rowC (by rfl) 45 (.tmp 13) rfl b13 rfl 45 _ _ _ r13z Tryz.underlying45 rfl (by kernel_rfl) ?_
                iterate 1 go_step
                refine HSame.out.mono ?_
                rintro e wS ⟨rfl, hES⟩
                dsimp only
                go_wp2_with fail
                go_ret
                exact ⟨rfl, (hw26.trans (hE2631)).trans hES⟩
              · rw [hhe] at t15
                have t16 := box_cell (j := 16) r22 rfl
                have g16 := box_free (j := 16) r22
                have s16 := box_cell (j := 16) r13x rfl
                change X31.cell? ⟨b13, 16, none⟩ = some (.int .u16 m.ed.size) at s16
                clear hm2e hmhe hq1 hq2 hsz
                go_upto_region 34 with fail
                obtain ⟨W33, hW33⟩ : ∃ W33, W33 = X31.setCell ⟨b22, 16, none⟩ (.int .u16 m.ed.size) := ⟨_, rfl⟩
                rw [← hW33]
                have hE33 : Ext W30 W33 := by rw [hW33]; exact hE31X.setCell hlo22 _
                have r22z : W33.heap[b22]? = some (.cells #[.int .u16 m.hd.id, .bool m.hd.qr, .int .u8 m.hd.op, .bool m.hd.aa, .bool m.hd.tc, .bool m.hd.rd, .bool m.hd.ra, .bool m.hd.z, .bool m.hd.ad, .bool m.hd.cd, .int .u8 m.hd.code, .slice qB m.qs.length qd, .slice aB m.ans.length ad, .slice uB m.auth.length ud, .slice xB m.extra.length xd, .bool m.he, .int .u16 m.ed.size, .int .u8 m.ed.ext, .int .u8 m.ed.ver, .int .u16 m.ed.flags, .slice oB2 m.ed.opts.length od2] 45) := by
                  rw [hW33]
                  have h := row_set r22 16 (.int .u16 m.ed.size)
                  have hm2e := HM2E.out
                  rw [hm2e] at h
                  exact h
                have r13z : W33.heap[b13]? = some (.cells #[.int .u16 m.hd.id, .bool m.hd.qr, .int .u8 m.hd.op, .bool m.hd.aa, .bool m.hd.tc, .bool m.hd.rd, .bool m.hd.ra, .bool m.hd.z, .bool m.hd.ad, .bool m.hd.cd, .int .u8 m.hd.code, .slice qA m.qs.length qc, .slice aA m.ans.length ac, .slice uA m.auth.length uc, .slice xA m.extra.length xc, .bool m.he, .int .u16 m.ed.size, .int .u8 m.ed.ext, .int .u8 m.ed.ver, .int .u16 m.ed.flags, .slice oA2 m.ed.opts.length oc2] 45) := by rw [hW33]; exact (Below.heap_setCell _ ⟨b22, 16, none⟩ _ b13 hne22).trans r13x
                have h7w : Msg7 W33 m (.slice qB m2.qs.length qd) (.slice aB m2.ans.length ad) (.slice uB m2.auth.length ud) (.slice xB m2.extra.length xd) (.slice oB2 m2.ed.opts.length od2) := by
                  have hEY : Ext Y22 W33 := by rw [hW33]; exact hY22.setCell hloY22 _
                  have h := ((HM2.out.lower (Nat.zero_le _)).ext hEY).msg7 hBd2
                  have hm2e := HM2E.out
                  rw [hm2e] at h ⊢
                  exact ⟨h.qs, h.ans, h.auth, h.extra, h.opts, h.qok, h.aok, h.uok, h.xok, h.xl⟩
                have eqs : m2.qs.length = m.qs.length ∧ m2.ans.length = m.ans.length ∧ m2.auth.length = m.auth.length ∧ m2.extra.length = m.extra.length ∧ m2.ed.opts.length = m.ed.opts.length := by rw [HM2E.out]; exact ⟨rfl, rfl, rfl, rfl, rfl⟩
                rw [eqs.1, eqs.2.1, eqs.2.2.1, eqs.2.2.2.1, eqs.2.2.2.2] at h7w
                have hE2633 : Ext W26 W33 := hEc.trans (hE30.trans hE33)
                clear t15 t16 g16 s16 hW33 eqs
                have h7m := (((HM.out.lower (Nat.zero_le _)).ext (hY13.trans ((hX9E.trans hE2126).trans (hE2633))))).msg7 hBd
                have HSame := Lib.hid (ref7_same m _ _ _ _ _ _ _ _ _ _ W33 h7w h7m)
                refine wp_region_lit ?_
                iterate 9 go_step
                refine load_rowC (by rfl) 45 (.tmp 22) rfl b22 rfl 45 _ _ _ r22z Tryz.underlying45 rfl (by kernel_rfl) ?_
                refine load_rowC (by rfl) 45 (.tmp 13) rfl b13 rfl 45 _ _ _ r13z Tryz.underlying45 rfl (by kernel_rfl) ?_
                iterate 1 go_step
                refine HSame.out.mono ?_
                rintro e wS ⟨rfl, hES⟩
                dsimp only
                go_wp2_with fail
                go_ret
                exact ⟨rfl, (hw26.trans (hE2633)).trans hES⟩
            · rw [htcc] at t4
              go_wp2_with fail
              go_ret
              exact ⟨rfl, hw29⟩
end Go.Proofs.YtbmjfjgfognimaaGreatDoor
namespace Go.Proofs.YtbmjfjgfognimaaGreatDoor
set_option linter.unusedSimpArgs false
set_option linter.unusedVariables false
open Go.ChangeShapes Go.WideShapes Go.RowKit Go.Deep Go.Joins
set_option maxRecDepth 100000

theorem wf_u8c {n : Int} (h : (Lit.int .u8 n).wf = true) : 0 ≤ n ∧ n ≤ 255 := by
  have h1 : IntKind.u8.min = 0 := rfl
  have h2 : IntKind.u8.max = 255 := rfl
  simp [Lit.wf] at h; omega
theorem some_atc {α : Type} {l : List α} {n j : Nat} (h : l.length = n) (hj : j < n) : ∃ x, l[j]? = some x := ⟨l[j]'(by omega), List.getElem?_eq_getElem _⟩
end Go.Proofs.YtbmjfjgfognimaaGreatDoor
namespace Go.Proofs.YtbmjfjgfognimaaGreatDoor
set_option linter.unusedSimpArgs false
set_option linter.unusedVariables false
open Go.ChangeShapes Go.WideShapes Go.RowKit Go.Deep Go.Joins
set_option maxRecDepth 100000

theorem bytes_set7 : Tryz.prog.bytesOf 54 = 48 := by kernel_rfl
theorem weights_row7 {H : Type} {d : DataW H} {elems sp : List (DataW H)} (h : d = .slice elems sp) : (elems.length + sp.length) * 48 ∈ d.weights Tryz.prog 22 := by
  subst h
  simp only [DataW.weights, Tryz.underlying22, bytes_set7, List.mem_cons, true_or]
theorem sets_trod7 {H : Type} {enc : TypeId × Value → H} {W : World} {fuel : Nat} {v : Value} {y : DataW H × List MemPlace}
    (hf : DataW.trod enc Tryz.prog W 0 (fun _ => true) true fuel 22 [v] = some y) :
    ∃ l : List SetD, Sets W 0 v l ∧ (∀ s ∈ l, SetIn s ∧ s.name.length ∈ y.1.weights Tryz.prog 22 ∧ ∀ x ∈ s.data, x.length ∈ y.1.weights Tryz.prog 22) ∧ (l.length = 0 ∨ ∃ m, m ∈ y.1.weights Tryz.prog 22 ∧ l.length ≤ m) := by
  rcases open_slice_fields Tryz.underlying22 Tryz.underlying54 (by kernel_rfl) (by kernel_rfl) hf with ⟨e, _⟩ | ⟨a, len, cap, m, D, Pl, e, _, hl, hm, hmm, hdp, hi⟩
  · simp only [List.cons.injEq, and_true] at e
    rw [e]
    exact ⟨[], ⟨[], none, 0, rfl, rfl, Nat.le_refl _, by unfold maxLen; omega, Rd.nil _ _ _ _, by simp⟩, by simp, .inl rfl⟩
  · simp only [List.cons.injEq, and_true] at e
    rw [e]
    have hmc : len ≤ m := by rw [hmm]; split <;> omega
    have hdd := (Prod.mk.inj hdp).1
    obtain ⟨l, hll, hq⟩ := pick ((SetD.zero, .slice none 0 0) : SetD × Value) len (fun i r => (W.cell? (a.add (i * 5 + 0)) = some (S r.1.name) ∧ W.cell? (a.add (i * 5 + 1)) = some (.int .u16 r.1.typ) ∧ W.cell? (a.add (i * 5 + 2)) = some (.int .u16 r.1.cls) ∧ W.cell? (a.add (i * 5 + 3)) = some (.int .u32 r.1.ttl) ∧ W.cell? (a.add (i * 5 + 4)) = some r.2) ∧ Strs W 0 r.2 r.1.data ∧ SetIn r.1 ∧ r.1.name.length ∈ y.1.weights Tryz.prog 22 ∧ ∀ x ∈ r.1.data, x.length ∈ y.1.weights Tryz.prog 22) (fun i hi' => by
      obtain ⟨ys, n, hD, _, _, hy⟩ := hi i (by omega)
      obtain ⟨v0, y0, c0, g0, t0⟩ := hy 0 _ rfl
      obtain ⟨v1, y1, c1, _, t1⟩ := hy 1 _ rfl
      obtain ⟨v2, y2, c2, _, t2⟩ := hy 2 _ rfl
      obtain ⟨v3, y3, c3, _, t3⟩ := hy 3 _ rfl
      obtain ⟨v4, y4, c4, g4, t4⟩ := hy 4 _ rfl
      obtain ⟨s, e0, z0, hs⟩ := DataW.trod_string Tryz.underlying9 t0
      obtain ⟨x1, e1, _, w1⟩ := DataW.trod_int Tryz.underlying26 t1
      obtain ⟨x2, e2, _, w2⟩ := DataW.trod_int Tryz.underlying26 t2
      obtain ⟨x3, e3, _, w3⟩ := DataW.trod_int Tryz.underlying25 t3
      obtain ⟨sl, hsl, hsw⟩ := open_strs t4
      injection e0 with e0 _
      injection e1 with e1 _
      injection e2 with e2 _
      injection e3 with e3 _
      subst e0 e1 e2 e3
      rw [S_of] at c0
      have hmem : D i ∈ (List.range len).map D := List.mem_map.2 ⟨i, List.mem_range.2 hi', rfl⟩
      refine ⟨(⟨s.data.toList, x1, x2, x3, sl⟩, v4), ⟨c0, c1, c2, c3, c4⟩, hsl, ⟨wf_u16 w1, wf_u16 w2, wf_u32 w3⟩, ?_, fun x hx => ?_⟩
      · rw [hdd]
        refine weights_elem Tryz.underlying22 hmem ?_
        rw [hD]
        refine weights_field (j := 0) (d := y0.1) Tryz.underlying54 rfl (by simp [g0]) ?_
        rw [z0]; exact weights_str _ s
      · rw [hdd]
        refine weights_elem Tryz.underlying22 hmem ?_
        rw [hD]
        exact weights_field (j := 4) (d := y4.1) Tryz.underlying54 rfl (by simp [g4]) (hsw x hx))
    subst hll
    refine ⟨l.map Prod.fst, ⟨l, some a, cap, rfl, rfl, hl, hm, ?_, fun p hp => ?_⟩, fun s hs => ?_, .inr ⟨_, weights_row7 (by rw [hdd]), by simp only [List.length_map, List.length_range]; omega⟩⟩
    · refine ⟨flatS_len l, fun h0 => ?_⟩
      have hz := (hq 0 h0).1.1
      rw [show a.add (0 * 5 + 0) = a from rfl] at hz
      obtain ⟨ea, hb⟩ := spot_of hz
      refine ⟨a.block, a.off, by rw [← ea], Nat.zero_le _, hb, sets_of fun i hi' => ?_⟩
      have := (hq i hi').1
      rw [ea] at this
      simp only [add_none] at this
      exact this
    · obtain ⟨i, hi', rfl⟩ := List.getElem_of_mem hp
      exact (hq i hi').2.1
    · obtain ⟨p, hp, rfl⟩ := List.mem_map.1 hs
      obtain ⟨i, hi', rfl⟩ := List.getElem_of_mem hp
      exact (hq i hi').2.2
/-- What the form's reach says of a text's length. -/
theorem open_verdict7 {H : Type} {enc : TypeId × Value → H} {W : World} {r : Reach} {b0 : Nat} {v : Value} {d : DataW H} {p : List MemPlace}
    (hv : Value.okWide Tryz.prog W r b0 24 v) (h : DataW.Trod enc Tryz.prog W 0 (fun _ => true) true 24 v d p) :
    ∃ (code : Int) (vs vo : Value) (ss oo : List SetD), v = .agg #[.int .u8 code, vs, vo] ∧ Sets W 0 vs ss ∧ Sets W 0 vo oo ∧ (0 ≤ code ∧ code ≤ 255) ∧
      (∀ s ∈ ss ++ oo, SetIn s ∧ s.name.length ∈ d.weights Tryz.prog 24 ∧ ∀ x ∈ s.data, x.length ∈ d.weights Tryz.prog 24) ∧
      (ss.length = 0 ∨ ∃ m, m ∈ d.weights Tryz.prog 24 ∧ ss.length ≤ m) ∧ (oo.length = 0 ∨ ∃ m, m ∈ d.weights Tryz.prog 24 ∧ oo.length ≤ m) := by
  obtain ⟨cs, rfl, hsz⟩ := okWide_struct Tryz.underlying24 hv
  obtain ⟨l⟩ := cs
  have hC : Tryz.prog.cellsOf 24 = 3 := by kernel_rfl
  match l, hsz.trans hC with
  | [c0, c1, c2], _ =>
    obtain ⟨fuel, hf⟩ := h
    obtain ⟨xs, n, _, hd, _, hlen, hg⟩ := DataW.trod_struct Tryz.underlying24 hf
    have hd1 := (Prod.mk.inj hd).1
    obtain ⟨y0, hy0⟩ := some_atc hlen (show 0 < _ by decide)
    obtain ⟨y1, hy1⟩ := some_atc hlen (show 1 < _ by decide)
    obtain ⟨y2, hy2⟩ := some_atc hlen (show 2 < _ by decide)
    have g0 : DataW.trod enc Tryz.prog W 0 (fun _ => true) true n 5 ((([c0, c1, c2] : List Value).drop 0).take (Tryz.prog.cellsOf 5)) = some y0 := (hg 0 _ rfl).trans hy0
    have g1 : DataW.trod enc Tryz.prog W 0 (fun _ => true) true n 22 ((([c0, c1, c2] : List Value).drop 1).take (Tryz.prog.cellsOf 22)) = some y1 := (hg 1 _ rfl).trans hy1
    have g2 : DataW.trod enc Tryz.prog W 0 (fun _ => true) true n 22 ((([c0, c1, c2] : List Value).drop 2).take (Tryz.prog.cellsOf 22)) = some y2 := (hg 2 _ rfl).trans hy2
    rw [show Tryz.prog.cellsOf 5 = 1 by kernel_rfl] at g0
    rw [show Tryz.prog.cellsOf 22 = 1 by kernel_rfl] at g1 g2
    simp only [List.drop_succ_cons, List.drop_zero, List.take_succ_cons, List.take_zero] at g0 g1 g2
    obtain ⟨x, e0, _, w0⟩ := DataW.trod_int Tryz.underlying5 g0
    simp only [List.cons.injEq, and_true] at e0
    subst e0
    obtain ⟨ss, hs, hsw, hsl⟩ := sets_trod7 g1
    obtain ⟨oo, ho, how, hol⟩ := sets_trod7 g2
    have up1 : ∀ {m : Nat}, m ∈ y1.1.weights Tryz.prog 22 → m ∈ d.weights Tryz.prog 24 := fun hm => by
      rw [hd1]; exact weights_field (j := 1) (d := y1.1) Tryz.underlying24 rfl (by simp [hy1]) hm
    have up2 : ∀ {m : Nat}, m ∈ y2.1.weights Tryz.prog 22 → m ∈ d.weights Tryz.prog 24 := fun hm => by
      rw [hd1]; exact weights_field (j := 2) (d := y2.1) Tryz.underlying24 rfl (by simp [hy2]) hm
    refine ⟨x, c1, c2, ss, oo, rfl, hs, ho, wf_u8c w0, fun s hm => ?_, ?_, ?_⟩
    · rcases List.mem_append.1 hm with hm | hm
      · exact ⟨(hsw s hm).1, up1 (hsw s hm).2.1, fun x hx => up1 ((hsw s hm).2.2 x hx)⟩
      · exact ⟨(how s hm).1, up2 (how s hm).2.1, fun x hx => up2 ((how s hm).2.2 x hx)⟩
    · exact hsl.imp id fun ⟨m, h1, h2⟩ => ⟨m, up1 h1, h2⟩
    · exact hol.imp id fun ⟨m, h1, h2⟩ => ⟨m, up2 h1, h2⟩
end Go.Proofs.YtbmjfjgfognimaaGreatDoor
namespace Go.Proofs.YtbmjfjgfognimaaGreatDoor
set_option linter.unusedSimpArgs false
set_option linter.unusedVariables false
open Go.ChangeShapes Go.WideShapes Go.RowKit Go.Deep Go.Joins
set_option maxRecDepth 100000
section
variable {H : Type} {enc : TypeId × Value → H} {P : Program} {w : World} {base : Nat} {spare : Nat → Bool} {held : Bool}
theorem trodAll_five {t0 t1 t2 t3 t4 : TypeId} {args : Array Value} {ds : List (DataW H)} {ps : List MemPlace} (h : DataW.TrodAll enc P w base spare held [t0, t1, t2, t3, t4] args.toList ds ps) :
    ∃ v0 v1 v2 v3 v4 d0 d1 d2 d3 d4 p0 p1 p2 p3 p4, args = #[v0, v1, v2, v3, v4] ∧ ds = [d0, d1, d2, d3, d4] ∧ ps = p0 ++ p1 ++ p2 ++ p3 ++ p4 ∧ DataW.Trod enc P w base spare held t0 v0 d0 p0 ∧ DataW.Trod enc P w base spare held t1 v1 d1 p1 ∧ DataW.Trod enc P w base spare held t2 v2 d2 p2 ∧ DataW.Trod enc P w base spare held t3 v3 d3 p3 ∧ DataW.Trod enc P w base spare held t4 v4 d4 p4 := by
  obtain ⟨v0, vs0, d0, ds0, p0, q0, hargs, rfl, rfl, h0, r0⟩ := trodAll_cons h
  obtain ⟨v1, vs1, d1, ds1, p1, q1, rfl, rfl, rfl, h1, r1⟩ := trodAll_cons r0
  obtain ⟨v2, vs2, d2, ds2, p2, q2, rfl, rfl, rfl, h2, r2⟩ := trodAll_cons r1
  obtain ⟨v3, vs3, d3, ds3, p3, q3, rfl, rfl, rfl, h3, r3⟩ := trodAll_cons r2
  obtain ⟨v4, vs4, d4, ds4, p4, q4, rfl, rfl, rfl, h4, r4⟩ := trodAll_cons r3
  obtain ⟨rfl, rfl, rfl⟩ := trodAll_nil r4
  exact ⟨v0, v1, v2, v3, v4, d0, d1, d2, d3, d4, p0, p1, p2, p3, p4, by cases args; simp_all, rfl, by simp, h0, h1, h2, h3, h4⟩
end
end Go.Proofs.YtbmjfjgfognimaaGreatDoor
namespace Go.Proofs.YtbmjfjgfognimaaGreatDoor
set_option linter.unusedSimpArgs false
set_option linter.unusedVariables false
open Go.ChangeShapes Go.WideShapes Go.ChangeAt Go.RowKit
set_option maxRecDepth 100000

theorem answerCut_contract (H : Type) (enc : TypeId × Value → H) (W : World) (base : Nat) (args : Array Value) (ds gs : List (DataW H)) (before : List MemPlace)
    (hval : ∀ (j : Nat) t v, Tryz.f4.params[j]? = some t → args[j]? = some v → Value.okWide Tryz.prog W .any base t v)
    (hW : DataW.Whole enc Tryz.prog Tryz.f4.params.toList Rows.answerCutSpec.vars false W args.toList ds gs before)
    (hsz : (DataW.weightsEach Tryz.prog (Tryz.f4.params.toList ++ (OpenSpec.ofChange Rows.answerCutSpec).bare.plain.varTypes Tryz.prog) (ds ++ gs)).all (· ≤ reachBytes) = true)
    (hL : laidMetH Tryz.prog laidL W) :
    Calls Tryz.prog 4 args W fun e W' => ∃ v, e = .returned v ∧ Rows.answerCutSpec.post enc Tryz.prog Tryz.f4 false true false false W args v W' := by
  have hW' := hW
  have hp : ∀ t ∈ Tryz.f4.params.toList, Tryz.prog.readableRec t = true ∧ t < Tryz.prog.types.size := by
    have h : (Tryz.f4.params.toList.all fun t => Tryz.prog.readableRec t && decide (t < Tryz.prog.types.size)) = true := by kernel_rfl
    simpa only [List.all_eq_true, Bool.and_eq_true, decide_eq_true_eq] using h
  have hg := laid_of hL
  have hb := laidbits_of hL
  obtain ⟨p, q, hA0, hV, rfl, _, _⟩ := hW
  have hA : DataW.TrodAll enc Tryz.prog W 0 (fun _ => true) true Tryz.f4.params.toList args.toList ds p := hA0
  clear hA0
  rw [Tryz.params4] at hA hval hsz
  obtain ⟨rfl, rfl⟩ := trodVars_none hV
  obtain ⟨v0, v1, v2, v3, v4, d0, d1, d2, d3, d4, p0, p1, p2, p3, p4, rfl, rfl, rfl, h0, h1, h2, h3, h4⟩ := trodAll_five hA
  obtain ⟨n, rfl, hn⟩ := open_str (hval 0 _ _ rfl rfl) h0
  obtain ⟨vc, vs, vo, ss, oo, rfl, hvs, hvo, hvc, hin, _, _⟩ := open_verdict7 (hval 1 _ _ rfl rfl) h1
  obtain ⟨tl, rfl, ht1, ht2⟩ := open_u32 (hval 2 _ _ rfl rfl) h2
  obtain ⟨sz, rfl, hs1, hs2⟩ := open_u16 (hval 3 _ _ rfl rfl) h3
  obtain ⟨mo, rfl, hm1, hm2⟩ := open_u16 (hval 4 _ _ rfl rfl) h4
  refine (law28_cut n vc tl sz mo vs vo ss oo W hg hb ⟨hn, hvc, ⟨ht1, ht2⟩, hvs, hvo, (fun s hs => ⟨(hin s (List.mem_append.2 (.inl hs))).1.1, (hin s (List.mem_append.2 (.inl hs))).1.2.1⟩), (fun s hs => ⟨(hin s (List.mem_append.2 (.inr hs))).1.1, (hin s (List.mem_append.2 (.inr hs))).1.2.1⟩)⟩ ⟨hs1, hs2⟩ ⟨hm1, hm2⟩).mono ?_
  rintro e W' ⟨rfl, hE⟩
  exact ⟨_, rfl, post_true laid_out rfl (by kernel_rfl) Tryz.underlying4 hp hW' rfl hE⟩

theorem answerCut_reads (os : Os) {H : Type} (enc : TypeId × Value → H) : ∃ places, DataW.whole enc Tryz.prog ((laidWorld os).forCall (fun _ _ => 0) ⟨#[], #[.string ⟨#[]⟩, .agg #[.int .u8 0, .slice none 0 0, .slice none 0 0], .int .u32 0, .int .u16 0, .int .u16 0], []⟩).memory Tryz.f4.params.toList Rows.answerCutSpec.vars false (#[.string ⟨#[]⟩, .agg #[.int .u8 0, .slice none 0 0, .slice none 0 0], .int .u32 0, .int .u16 0, .int .u16 0] : Array Value).toList 8 = some ([.lit (.string []), .agg [.lit (.int .u8 0), .nil, .nil], .lit (.int .u32 0), .lit (.int .u16 0), .lit (.int .u16 0)], [], places) :=
  ⟨[], by kernel_rfl⟩
theorem answerCut_lifted (os : Os) (started : os.Started) (H : Type) (enc : TypeId × Value → H) (F : Stop.Interp) :
    ReturnsInHanded {} Tryz.checked os 4 .any ((OpenSpec.ofChange Rows.answerCutSpec).preRow enc Tryz.prog Tryz.f4 Rows.answerCutRow.domain false Rows.answerCutRow.laid) (((OpenSpec.ofChange Rows.answerCutSpec).at F).post enc Tryz.prog Tryz.f4 false true false false) := by
  obtain ⟨places, hx⟩ := answerCut_reads os enc
  refine returnsInHanded_of_row (C := Tryz.checked) (s := OpenSpec.ofChange Rows.answerCutSpec) own_knob started (by kernel_rfl) Tryz.func4
    (witness_row_at (enc := enc) (C := Tryz.checked) false (laidWorld os) #[.string ⟨#[]⟩, .agg #[.int .u8 0, .slice none 0 0, .slice none 0 0], .int .u32 0, .int .u16 0, .int .u16 0] rfl (by kernel_rfl) (by kernel_rfl) (by kernel_rfl)
      (OpenSpec.preRow_of_cond 8 hx (by kernel_rfl) (fun k hk => by cases hk) (by kernel_rfl) (laid_met os _))) ?_
  intro W base args ds gs before hval hW _ _ hsz hL _ _
  exact answerCut_contract H enc W base args ds gs before hval hW hsz hL
theorem band_card (a b : Bool) (h1 : a = true) (h2 : b = true) : (a && b) = true := by rw [h1, h2]; rfl
set_option maxHeartbeats 4000000 in
theorem answerCut_joined : joinedFacts Tryz.prog 4 Tryz.f4 (OpenSpec.ofChange Rows.answerCutSpec).bare Rows.answerCutRow = true := by
  unfold joinedFacts; repeat' (with_reducible refine band_card _ _ ?_ ?_)
  all_goals (as_aux_lemma => kernel_rfl)
set_option maxHeartbeats 4000000 in
theorem answerCut_said : Rows.AnswerCutSaid :=
  OpenClaim.holds_of_cond 4 Tryz.f4 rfl rfl rfl rfl rfl rfl rfl ⟨rfl, rfl, rfl, rfl, rfl⟩ rfl rfl rfl rfl rfl (by kernel_rfl) Tryz.func4 answerCut_joined
    (of_decide_eq_true (by kernel_rfl)) (by unfold Func.isWrapper; first | (rw [if_pos (by decide +kernel)]; kernel_rfl) | (rw [if_neg (by decide +kernel)]; exact ⟨rfl, rfl⟩))
    (fun os started H enc _ F => by rw [OpenClaim.pre_eq_preRow]; exact answerCut_lifted os started H enc F)
/-- THE CARD. -/
theorem answerCut_card : Rows.AnswerCutCardSaid :=
  Claim7.holds_tied_plain_at .later [] _ _ _ _ answerCut_said (fun _ h => by cases h) (by as_aux_lemma => kernel_rfl) (fun _ h => by cases h) answerCut_row_tie rfl ⟨rfl, rfl⟩ (by as_aux_lemma => kernel_rfl) rfl
    (fun f fn hf hfn => by
      obtain rfl : f = 4 := Option.some.inj ((show Tryz.prog.funcNamed Rows.answerCutRow.func = some 4 by kernel_rfl).symm.trans hf) |>.symm
      obtain rfl : fn = Tryz.f4 := (Option.some.inj (Tryz.func4.symm.trans hfn)).symm
      refine ⟨by kernel_rfl, fun j t ht => ?_⟩
      have h : (Tryz.f4.params.toList.all fun t => !Tryz.prog.wantsStandIn t) = true := by kernel_rfl
      have h2 := List.all_eq_true.1 h t (by simpa using Array.mem_of_getElem? ht)
      exact (by simpa using h2 : Tryz.prog.wantsStandIn t = false))
    (by as_aux_lemma => kernel_rfl)
#print axioms answerCut_card
end Go.Proofs.YtbmjfjgfognimaaGreatDoor
