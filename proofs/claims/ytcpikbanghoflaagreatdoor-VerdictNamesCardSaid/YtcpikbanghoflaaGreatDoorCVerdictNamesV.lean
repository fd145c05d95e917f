/- hustingslaw11.VerdictNames returns true for every input, and every argument reads behind the call as it read before; the listed variable (errors.errorType) is tied to the program's text. No condition of ours. -/
import Derived.Test.YtcpikbanghoflaaGreatDoorCards
import Derived.Test.YtcpikbanghoflaaGreatDoorTie
import Derived.Test.YtcpikbanghoflaaGreatDoorVb
import Derived.ProofKit
import Derived.OpenShut
import Derived.LaidHandle
import Derived.LaidLaws
import Derived.Deep.DeepHandedRow
import Derived.Test.YtcpikbanghoflaaGreatDoorVg
import Derived.Test.YtcpikbanghoflaaGreatDoorVv
import Derived.Test.YtcpikbanghoflaaGreatDoorVu0
import Derived.BigRegion
import Derived.Test.YtcpikbanghoflaaGreatDoorVhx
import Derived.Test.YtcpikbanghoflaaGreatDoorVrl
import Derived.Test.YtcpikbanghoflaaGreatDoorVvp
import Derived.Great.Walk
import Derived.Great.BuildSlice
namespace Go.Proofs.YtcpikbanghoflaaGreatDoor
set_option linter.unusedSimpArgs false
set_option linter.unusedVariables false
open Go.ChangeShapes Go.WideShapes Go.ChangeAt Go.RowKit
set_option maxRecDepth 100000
theorem own_knob : ownKnob Tryz.prog.godebug = none := by kernel_rfl
theorem et_at : Tryz.prog.globalNamed "errors.errorType" = some 4 := by kernel_rfl
theorem one_row : ((List.range Tryz.prog.types.size).filter fun t => Tryz.prog.rowNamed t [101, 114, 114, 111, 114]) = [102] := by kernel_rfl
def laidL : List (String × DataW Unit) := [("errors.errorType", Rows.laid_errors_errorType)]

theorem laid_of {W : World} (h : laidMetH Tryz.prog laidL W) : Laid W := by
  have h' : laidMet Tryz.prog [] W ∧ handlesMet Tryz.prog laidL W := h
  obtain ⟨name, u, ty, e1, e2, e3, e4, e5⟩ := h'.2 _ (List.mem_singleton.2 rfl)
  have en : name = [101, 114, 114, 111, 114] := (Option.some.inj e1).symm
  subst en
  obtain rfl : u = 205 := Option.some.inj (e2.symm.trans (by kernel_rfl))
  have hm : ty ∈ (List.range Tryz.prog.types.size).filter fun t => Tryz.prog.rowNamed t [101, 114, 114, 111, 114] := List.mem_filter.2 ⟨List.mem_range.2 e3, e4⟩
  rw [one_row] at hm
  obtain rfl := List.mem_singleton.1 hm
  have hh : typeHandle Tryz.prog 102 = hdl 102 := by kernel_rfl
  rw [hh] at e5
  show W.cell? ⟨4, 0, none⟩ = _
  simpa using World.var?_cell et_at e5 0

noncomputable def laidWorld (os : Os) : World :=
  let w0 := World.holding Tryz.prog os ⟨#[], #[], []⟩
  { w0 with heap := w0.heap.modify 4 fun
      | .cells _ t frozen => .cells #[errTy] t frozen
      | o => o }
theorem laid_met (os : Os) (args : Array Value) : laidMetH Tryz.prog laidL ((laidWorld os).forCall (fun _ _ => 0) ⟨#[], args, []⟩).memory :=
  laidMetH_of_parts (laidMet_nil _ _) (by kernel_rfl)

section
variable {H : Type} {enc : TypeId × Value → H} {P : Program}
theorem trodAll_stays (hl : laidOutB P = true) {W W' : World} (hb : Below W.heap.size W W') {sp : Nat → Bool} : ∀ {ts : List TypeId} {vs : List Value} {ds : List (DataW H)} {ps : List MemPlace},
    (∀ t ∈ ts, P.readableRec t = true ∧ t < P.types.size) → DataW.TrodAll enc P W 0 (fun _ => true) true ts vs ds ps → (∀ x ∈ ps, x.block < W.heap.size) → (∀ x ∈ ps, sp x.block = true) → DataW.TrodAll enc P W' 0 sp true ts vs ds ps
  | [], _, _, _, _, h, _, _ => by obtain ⟨rfl, rfl, rfl⟩ := trodAll_nil h; exact trodAll_mk0
  | t :: ts, _, _, _, ht, h, hlt, hs => by
    obtain ⟨v, vs, d, ds, p, q, rfl, rfl, rfl, h0, h1⟩ := trodAll_cons h
    have h2 := ht t (by simp)
    exact trodAll_cons_mk (WideElems.Trod_stays hl h2.1 h2.2 h0 (fun x hx => hb.same (hlt x (by simp [hx]))) (fun x hx => hs x (by simp [hx])))
      (trodAll_stays hl hb (fun t ht' => ht t (by simp [ht'])) h1 (fun x hx => hlt x (by simp [hx])) (fun x hx => hs x (by simp [hx])))
theorem post_of_below {f : Func} {s : ChangeSpec} {apart fresh handsOn again : Bool} {W W' : World} {args : Array Value} {v : Value} {ds gs : List (DataW H)} {before pa pv : List MemPlace}
    (hW : DataW.Whole enc P f.params.toList s.vars apart W args.toList ds gs before)
    (hres : ∀ (b : Nat) (sp : Nat → Bool) (hd : Bool), DataW.TrodAll enc P W' b sp hd f.resultTypes.toList (v.resultList f.resultTypes.size) (s.fn H (ds ++ gs)).results [])
    (hargs : ∀ sp : Nat → Bool, (∀ p ∈ before, sp p.block = true) → DataW.TrodAll enc P W' 0 sp true f.params.toList args.toList (s.fn H (ds ++ gs)).args pa)
    (hvars : ∀ sp : Nat → Bool, (∀ p ∈ before, sp p.block = true) → DataW.TrodVars enc P W' sp s.vars (s.fn H (ds ++ gs)).vars pv)
    (hps : before = pa ++ pv) (hb : Below W.heap.size W W')
    (hok : ∀ (j : Nat) (t : TypeId) (r : Value), f.resultTypes[j]? = some t → (v.resultList f.resultTypes.size)[j]? = some r → Value.okWide P W' .any 0 t r) :
    s.post enc P f apart fresh handsOn again W args v W' := by
  have hlt : ∀ p ∈ before, p.block < W.heap.size := fun p hp => hW.lt p hp
  have hold : ∀ p ∈ before, (fun b => decide (b < W.heap.size)) p.block = true := fun p hp => by simpa using hlt p hp
  refine ⟨ds, gs, before, [], pa, pv, hW, hres _ _ _, hargs _ hold, hvars _ hold, World.keptBut_mono (fun p hp => ⟨hp, ?_⟩) (hb.frame (· ∈ before)), fun _ => ?_⟩
  · rw [hps, List.mem_append] at hp
    exact Or.inr hp
  · obtain ⟨_, _, _, _, _, hz, hn⟩ := hW
    refine ⟨hok, _, _, ([] ++ pa) ++ pv, ⟨[] ++ pa, pv, trodAll_append (hargs _ (fun _ _ => rfl)) (hres _ _ _), hvars _ (fun _ _ => rfl), rfl, ?_, ?_⟩, ?_⟩
    · intro b off hp
      have hin : MemPlace.cell b off ∈ before := by rw [hps]; simpa using hp
      rw [hb.frozen (hlt _ hin)]
      exact hz b off hin
    · intro ha
      have := hn ha
      rw [hps] at this
      simpa using this
    · intro p hp _
      rw [hps]
      simpa using hp
theorem post_true {f : Func} {s : ChangeSpec} {apart fresh handsOn again : Bool} {W W' : World} {args : Array Value} {ds gs : List (DataW H)} {before : List MemPlace} {t : TypeId}
    (hl : laidOutB P = true) (hvn : s.vars = []) (hr : f.resultTypes = #[t]) (ht : P.underlying t = some .bool)
    (hp : ∀ t ∈ f.params.toList, P.readableRec t = true ∧ t < P.types.size)
    (hW : DataW.Whole enc P f.params.toList s.vars apart W args.toList ds gs before)
    (hfn : s.fn H ds = { results := [.lit (.bool true)], args := ds }) (hb : Ext W W') :
    s.post enc P f apart fresh handsOn again W args (.bool true) W' := by
  have hW' := hW
  obtain ⟨p, q, hA, hV, rfl, _, _⟩ := hW
  rw [hvn] at hV
  obtain ⟨rfl, rfl⟩ := trodVars_none hV
  have hlt : ∀ x ∈ p, x.block < W.heap.size := fun x hx => by simpa using hW'.lt x (by simp [hx])
  refine post_of_below (pa := p) (pv := []) hW' (fun _ _ _ => ?_) (fun sp hs => ?_) (fun _ _ => ?_) rfl hb (ok_one hr rfl (okWide_bool_mk ht _))
  · rw [List.append_nil, hfn, hr]; exact trodAll_mk1 (shut_bool ht true)
  · rw [List.append_nil, hfn]; exact trodAll_stays hl hb hp hA hlt (fun x hx => hs x (by simp [hx]))
  · rw [List.append_nil, hfn, hvn]; rfl
end
theorem laid_out : laidOutB Tryz.prog = true := by kernel_rfl
end Go.Proofs.YtcpikbanghoflaaGreatDoor
namespace Go.Proofs.YtcpikbanghoflaaGreatDoor
set_option linter.unusedSimpArgs false
set_option linter.unusedVariables false
open Go.RowKit
set_option maxRecDepth 100000
def zoneD (t : UInt8) : List UInt8 := [0, 0, 0, 0, 0, 0, 0, 0, 0, 0, 0, 0, 0, 0, 0, 0, 0, 0, 0, 0, 0, t]
abbrev zeros19 : List UInt8 := [0, 0, 0, 0, 0, 0, 0, 0, 0, 0, 0, 0, 0, 0, 0, 0, 0, 0, 0]
set_option maxHeartbeats 2000000 in
theorem law11_zone (n : List UInt8) (ttl tm : Int) (t : UInt8) (ht : tm = t.toNat) (w : World) :
    Calls Tryz.prog 7 #[S n, .int .u32 ttl, .int .u8 tm] w fun e w' => e = .returned (.agg #[S n, .int .u16 6, .int .u16 1, .int .u32 ttl, S (zoneD t)]) ∧ Ext w w' := by
  subst ht
  have hmk : ∀ W : World, (Instr.makeSlice 62 (.int .i64 19) (.int .i64 19)).run Tryz.prog W = .ok (.slice (some ⟨W.heap.size, 0, none⟩) 19 19) (W.alloc (.cells #[.int .u8 0, .int .u8 0, .int .u8 0, .int .u8 0, .int .u8 0, .int .u8 0, .int .u8 0, .int .u8 0, .int .u8 0, .int .u8 0, .int .u8 0, .int .u8 0, .int .u8 0, .int .u8 0, .int .u8 0, .int .u8 0, .int .u8 0, .int .u8 0, .int .u8 0] 5)) := fun W => by kernel_rfl
  have hzr : ∀ (W : World) (g : Nat), g = W.heap.size → Rd (W.alloc (.cells #[.int .u8 0, .int .u8 0, .int .u8 0, .int .u8 0, .int .u8 0, .int .u8 0, .int .u8 0, .int .u8 0, .int .u8 0, .int .u8 0, .int .u8 0, .int .u8 0, .int .u8 0, .int .u8 0, .int .u8 0, .int .u8 0, .int .u8 0, .int .u8 0, .int .u8 0] 5)) 0 1 (some ⟨g, 0, none⟩) 19 (zeros19.map U8) := fun W g hg => rd_new W g hg 5 [.int .u8 0, .int .u8 0, .int .u8 0, .int .u8 0, .int .u8 0, .int .u8 0, .int .u8 0, .int .u8 0, .int .u8 0, .int .u8 0, .int .u8 0, .int .u8 0, .int .u8 0, .int .u8 0, .int .u8 0, .int .u8 0, .int .u8 0, .int .u8 0, .int .u8 0] 19 1 rfl
  have hor : ∀ (W : World) (g : Nat), g = W.heap.size → Rd (W.alloc (.cells #[.int .u8 (t.toNat : Int)] 5)) 0 1 (some ⟨g, 0, none⟩) 1 ([t].map U8) := fun W g hg => rd_new W g hg 5 [.int .u8 (t.toNat : Int)] 1 1 rfl
  have E1 := conv_str 19 ((hzr (w.alloc (.cells #[S [], .int .u16 0, .int .u16 0, .int .u32 0, S []] 28)) (w.heap.size + 1) (by simp)).ext ((Ext.refl _).drew))
  have E2 := conv_str 19 ((hzr (w.alloc (.cells #[S [], .int .u16 0, .int .u16 0, .int .u32 0, S []] 28)) (w.heap.size + 1) (by simp)).ext (((Ext.refl _).alloc (.cells #[.int .u8 (t.toNat : Int)] 5)).drew))
  have E3 := conv_str 1 ((hor ((w.alloc (.cells #[S [], .int .u16 0, .int .u16 0, .int .u32 0, S []] 28)).alloc (.cells #[.int .u8 0, .int .u8 0, .int .u8 0, .int .u8 0, .int .u8 0, .int .u8 0, .int .u8 0, .int .u8 0, .int .u8 0, .int .u8 0, .int .u8 0, .int .u8 0, .int .u8 0, .int .u8 0, .int .u8 0, .int .u8 0, .int .u8 0, .int .u8 0, .int .u8 0] 5)) (w.heap.size + 1 + 1) (by simp)).ext ((Ext.refl _).drew))
  have E4 := conv_str 1 ((hor (w.alloc (.cells #[S [], .int .u16 0, .int .u16 0, .int .u32 0, S []] 28)) (w.heap.size + 1) (by simp)).ext ((Ext.refl _).drew))
  have E5 := conv_str 1 ((hor (w.alloc (.cells #[S [], .int .u16 0, .int .u16 0, .int .u32 0, S []] 28)) (w.heap.size + 1) (by simp)).ext (((Ext.refl _).alloc (.cells #[.int .u8 0, .int .u8 0, .int .u8 0, .int .u8 0, .int .u8 0, .int .u8 0, .int .u8 0, .int .u8 0, .int .u8 0, .int .u8 0, .int .u8 0, .int .u8 0, .int .u8 0, .int .u8 0, .int .u8 0, .int .u8 0, .int .u8 0, .int .u8 0, .int .u8 0] 5)).drew))
  have E6 := conv_str 19 ((hzr ((w.alloc (.cells #[S [], .int .u16 0, .int .u16 0, .int .u32 0, S []] 28)).alloc (.cells #[.int .u8 (t.toNat : Int)] 5)) (w.heap.size + 1 + 1) (by simp)).ext ((Ext.refl _).drew))
  clear hzr hor
  go_enter Tryz.func7, Tryz.ntmps7
  go_wp2_with fail
  go_region
  all_goals
    go_wp2_with fail
    refine bodyPost_ret (v := .agg #[S n, .int .u16 6, .int .u16 1, .int .u32 ttl, S (zoneD t)]) (by simp [results, Tryz.results7, go_sem, zoneD]) rfl ⟨rfl, by (repeat (first | with_reducible exact Ext.refl _ | with_reducible assumption | with_reducible refine Ext.alloc ?_ _ | with_reducible refine Ext.drewN ?_ _ | with_reducible refine Ext.drew ?_ | (with_reducible refine Ext.setCell ?_ ?hp _; case hp => (simp <;> omega))))⟩
abbrev wwwN : List UInt8 := [3, 119, 119, 119, 2, 101, 120, 0]
def recA : RecD := ⟨[1, 97, 2, 101, 120, 0], 1, 1, 5, [10, 0, 0, 1]⟩
def recC : RecD := ⟨[3, 119, 119, 119, 2, 101, 120, 0], 5, 1, 9, [1, 97, 2, 101, 120, 0]⟩
def recZ : RecD := ⟨[2, 101, 120, 0], 6, 1, 9, zoneD 3⟩
def recO : RecD := ⟨[3, 119, 119, 119, 2, 101, 120, 0], 1, 1, 5, [10, 0, 0, 1]⟩
def R1 : VerR := ⟨0, [⟨[3, 119, 119, 119, 2, 101, 120, 0], 5, 1, 0, [[1, 97, 2, 101, 120, 0]]⟩, ⟨[1, 97, 2, 101, 120, 0], 1, 1, 0, [[10, 0, 0, 1]]⟩], [], 5, 0⟩
def R2 : VerR := ⟨3, [], [⟨[2, 101, 120, 0], 6, 1, 0, [zoneD 3]⟩], 3, 0⟩
def R3 : VerR := ⟨3, [], [], 0, 0⟩
abbrev x0 : MsgX := ⟨0, false, 0, false, false, false, false, false, false, false, none, 0, 0, none, 0, 0, false, 0, 0, 0, 0, none, 0, 0⟩
def VP (code : Int) (n m : Nat) (time : Int) (err : Nat) (w : World) (e : Ending) (w' : World) : Prop :=
  ∃ (A : Option Addr) (c : Nat) (B : Option Addr) (d : Nat), e = .returned (.tuple #[.agg #[.int .u8 code, .slice A n c, .slice B m d], .int .u32 time, .int .i64 err]) ∧ c ≤ maxLen ∧ d ≤ maxLen ∧ Ext w w'
theorem vp_of {R : VerR} {w w' : World} {e : Ending} (h : VerPost R w e w') : VP R.code R.sets.length R.soa.length R.time R.err w e w' := by
  obtain ⟨vs, vo, rfl, h1, h2, _, h4⟩ := h
  obtain ⟨A, c, rfl, _, hc⟩ := h1.shape
  obtain ⟨B, d, rfl, _, hd⟩ := h2.shape
  exact ⟨A, c, B, d, rfl, hc, hd, h4⟩
theorem recs_lit (w : World) (g lo : Nat) (hg : g = w.heap.size) (hlo : lo ≤ 0) (l : List RecD) (hl : l.length ≤ 4096) : Recs (w.alloc (.cells (l.flatMap recCells).toArray 28)) lo (.slice (some ⟨g, 0, none⟩) l.length l.length) l := by
  have h0 : lo = 0 := Nat.le_zero.1 hlo
  subst h0
  exact ⟨_, _, rfl, Nat.le_refl _, by unfold maxLen; omega, rd_new w g hg 28 (l.flatMap recCells) l.length 5 (flatR_len l)⟩
theorem sets_none (w : World) (A : Option Addr) (c : Nat) (h : c ≤ maxLen) : Sets w 0 (.slice A 0 c) [] := ⟨[], A, c, rfl, rfl, Nat.zero_le _, h, Rd.nil _ _ _ _, by simp⟩
theorem box3 {W : World} {g : Nat} {a0 a1 a2 : Value} (h : ∀ j, W.cell? ⟨g, j, none⟩ = #[a0, a1, a2][j]?) (u0 u1 u2 : Value) :
    ∀ j, (((W.setCell ⟨g, 0, none⟩ u0).setCell ⟨g, 1, none⟩ u1).setCell ⟨g, 2, none⟩ u2).cell? ⟨g, j, none⟩ = #[u0, u1, u2][j]? :=
  boxSet (boxSet (boxSet h 0 u0 (by simp)) 1 u1 (by simp)) 2 u2 (by simp)
theorem recs_none (w : World) : Recs w 0 (.slice none 0 0) [] := ⟨none, 0, rfl, Nat.le_refl _, by unfold maxLen; decide, Rd.nil _ _ _ _⟩
theorem of1 (w : World) (hg : Laid w) (g : Nat) (h : Recs w 0 (.slice (some ⟨g, 0, none⟩) 2 2) [recA, recC]) : Calls Tryz.prog 8 #[.agg #[S wwwN, .int .u16 1, .int .u16 1], .agg #[.int .u16 0, .bool false, .int .u8 0, .bool false, .bool false, .bool false, .bool false, .bool false, .bool false, .bool false, .int .u8 0, .slice none 0 0, .slice (some ⟨g, 0, none⟩) 2 2, .slice none 0 0, .slice none 0 0, .bool false, .int .u16 0, .int .u8 0, .int .u8 0, .int .u16 0, .slice none 0 0]] w (VP 0 2 0 5 0 w) := by
  have h := ver_of x0 wwwN 1 1 0 0 (some ⟨g, 0, none⟩) 2 none 0 [recA, recC] ([] : List RecD) w hg h (recs_none w) (by unfold RecsBd; decide) (by unfold RecsBd; decide) (by unfold RecsOk; decide) (by unfold RecsOk; decide) (by decide)
  rw [show verOf wwwN 1 1 0 [recA, recC] ([] : List RecD) = R1 by kernel_rfl] at h
  exact h.mono fun e w' hp => vp_of hp
theorem of2 (w : World) (hg : Laid w) (g : Nat) (h : Recs w 0 (.slice (some ⟨g, 0, none⟩) 1 1) [recZ]) : Calls Tryz.prog 8 #[.agg #[S wwwN, .int .u16 1, .int .u16 1], .agg #[.int .u16 0, .bool false, .int .u8 0, .bool false, .bool false, .bool false, .bool false, .bool false, .bool false, .bool false, .int .u8 3, .slice none 0 0, .slice none 0 0, .slice (some ⟨g, 0, none⟩) 1 1, .slice none 0 0, .bool false, .int .u16 0, .int .u8 0, .int .u8 0, .int .u16 0, .slice none 0 0]] w (VP 3 0 1 3 0 w) := by
  have h := ver_of x0 wwwN 1 1 3 0 none 0 (some ⟨g, 0, none⟩) 1 ([] : List RecD) [recZ] w hg (recs_none w) h (by unfold RecsBd; decide) (by unfold RecsBd; decide) (by unfold RecsOk; decide) (by unfold RecsOk; decide) (by decide)
  rw [show verOf wwwN 1 1 3 ([] : List RecD) [recZ] = R2 by kernel_rfl] at h
  exact h.mono fun e w' hp => vp_of hp
theorem of3 (w : World) (hg : Laid w)  : Calls Tryz.prog 8 #[.agg #[S wwwN, .int .u16 1, .int .u16 1], .agg #[.int .u16 0, .bool false, .int .u8 0, .bool false, .bool false, .bool false, .bool false, .bool false, .bool false, .bool false, .int .u8 3, .slice none 0 0, .slice none 0 0, .slice none 0 0, .slice none 0 0, .bool false, .int .u16 0, .int .u8 0, .int .u8 0, .int .u16 0, .slice none 0 0]] w (VP 3 0 0 0 0 w) := by
  have h := ver_of x0 wwwN 1 1 3 0 none 0 none 0 ([] : List RecD) ([] : List RecD) w hg (recs_none w) (recs_none w) (by unfold RecsBd; decide) (by unfold RecsBd; decide) (by unfold RecsOk; decide) (by unfold RecsOk; decide) (by decide)
  rw [show verOf wwwN 1 1 3 ([] : List RecD) ([] : List RecD) = R3 by kernel_rfl] at h
  exact h.mono fun e w' hp => vp_of hp
theorem of4 (w : World) (hg : Laid w)  : Calls Tryz.prog 8 #[.agg #[S wwwN, .int .u16 1, .int .u16 1], .agg #[.int .u16 0, .bool false, .int .u8 0, .bool false, .bool false, .bool false, .bool false, .bool false, .bool false, .bool false, .int .u8 2, .slice none 0 0, .slice none 0 0, .slice none 0 0, .slice none 0 0, .bool false, .int .u16 0, .int .u8 0, .int .u8 0, .int .u16 0, .slice none 0 0]] w (VP 0 0 0 0 1 w) := by
  have h := ver_of x0 wwwN 1 1 2 0 none 0 none 0 ([] : List RecD) ([] : List RecD) w hg (recs_none w) (recs_none w) (by unfold RecsBd; decide) (by unfold RecsBd; decide) (by unfold RecsOk; decide) (by unfold RecsOk; decide) (by decide)
  rw [show verOf wwwN 1 1 2 ([] : List RecD) ([] : List RecD) = (VerR.bad 1) by kernel_rfl] at h
  exact h.mono fun e w' hp => vp_of hp
theorem of5 (w : World) (hg : Laid w) (g : Nat) (h : Recs w 0 (.slice (some ⟨g, 0, none⟩) 1 1) [recO]) : Calls Tryz.prog 8 #[.agg #[S wwwN, .int .u16 1, .int .u16 1], .agg #[.int .u16 0, .bool false, .int .u8 0, .bool false, .bool false, .bool false, .bool false, .bool false, .bool false, .bool false, .int .u8 3, .slice none 0 0, .slice (some ⟨g, 0, none⟩) 1 1, .slice none 0 0, .slice none 0 0, .bool false, .int .u16 0, .int .u8 0, .int .u8 0, .int .u16 0, .slice none 0 0]] w (VP 0 0 0 0 3 w) := by
  have h := ver_of x0 wwwN 1 1 3 0 (some ⟨g, 0, none⟩) 1 none 0 [recO] ([] : List RecD) w hg h (recs_none w) (by unfold RecsBd; decide) (by unfold RecsBd; decide) (by unfold RecsOk; decide) (by unfold RecsOk; decide) (by decide)
  rw [show verOf wwwN 1 1 3 [recO] ([] : List RecD) = (VerR.bad 3) by kernel_rfl] at h
  exact h.mono fun e w' hp => vp_of hp

set_option maxHeartbeats 8000000 in
theorem law11_awake (w : World) (hg : Laid w) : Calls Tryz.prog 6 #[] w fun e w' => e = .returned (.bool true) ∧ Ext w w' := by
  go_enter Tryz.func6, Tryz.ntmps6
  go_wp2_with fail
  obtain ⟨X0, hX0⟩ : ∃ X, X = (w.alloc (.cells #[S [3, 119, 119, 119, 2, 101, 120, 0], .int .u16 1, .int .u16 1] 25)).alloc (.cells #[S [1, 97, 2, 101, 120, 0], .int .u16 1, .int .u16 1, .int .u32 5, S [10, 0, 0, 1], S [3, 119, 119, 119, 2, 101, 120, 0], .int .u16 5, .int .u16 1, .int .u32 9, S [1, 97, 2, 101, 120, 0]] 28) := ⟨_, rfl⟩
  rw [← hX0]
  have hwX0 : Ext w X0 := by rw [hX0]; exact ((Ext.refl _).alloc _).alloc _
  obtain ⟨kq, kqf, zq⟩ := ext_new_at w.heap.size rfl ((Ext.refl (w.alloc (.cells #[S [3, 119, 119, 119, 2, 101, 120, 0], .int .u16 1, .int .u16 1] 25))).alloc (.cells #[S [1, 97, 2, 101, 120, 0], .int .u16 1, .int .u16 1, .int .u32 5, S [10, 0, 0, 1], S [3, 119, 119, 119, 2, 101, 120, 0], .int .u16 5, .int .u16 1, .int .u32 9, S [1, 97, 2, 101, 120, 0]] 28))
  obtain ⟨kl, klf, zl⟩ := ext_new_at (w.heap.size + 1) (by simp) (Ext.refl ((w.alloc (.cells #[S [3, 119, 119, 119, 2, 101, 120, 0], .int .u16 1, .int .u16 1] 25)).alloc (.cells #[S [1, 97, 2, 101, 120, 0], .int .u16 1, .int .u16 1, .int .u32 5, S [10, 0, 0, 1], S [3, 119, 119, 119, 2, 101, 120, 0], .int .u16 5, .int .u16 1, .int .u32 9, S [1, 97, 2, 101, 120, 0]] 28)))
  have hrl : Recs X0 0 (.slice (some ⟨w.heap.size + 1, 0, none⟩) 2 2) [recA, recC] := by rw [hX0]; exact recs_lit (w.alloc (.cells #[S [3, 119, 119, 119, 2, 101, 120, 0], .int .u16 1, .int .u16 1] 25)) (w.heap.size + 1) 0 (by simp) (Nat.le_refl _) [recA, recC] (by decide)
  rw [← hX0] at kq kqf zq kl klf zl
  have HSq := Lib.hid (show ∀ V, Ext X0 V → V.cell? ⟨w.heap.size, 0, none⟩ = some (S [3, 119, 119, 119, 2, 101, 120, 0]) ∧ V.cell? ⟨w.heap.size, 1, none⟩ = some (.int .u16 1) ∧ V.cell? ⟨w.heap.size, 2, none⟩ = some (.int .u16 1) from fun V hV => ⟨(hV.cell (p := ⟨w.heap.size, 0, none⟩) zq).trans (kq 0), (hV.cell (p := ⟨w.heap.size, 1, none⟩) zq).trans (kq 1), (hV.cell (p := ⟨w.heap.size, 2, none⟩) zq).trans (kq 2)⟩)
  clear hX0
  refine (of1 X0 (hg.ext hwX0) (w.heap.size + 1) hrl).mono ?_; rintro e w1 ⟨A1, c1, B1, d1, rfl, hc1, hd1, hE1⟩
  go_wp2_with fail
  obtain ⟨X1, hX1⟩ : ∃ X, X = w1.alloc (.cells #[.int .u8 0, .slice A1 2 c1, .slice B1 0 d1] 44) := ⟨_, rfl⟩
  rw [← hX1]
  have hX01 : Ext X0 X1 := by rw [hX1]; exact hE1.alloc _
  obtain ⟨kv, kvf, zv⟩ := ext_new_at w1.heap.size rfl (Ext.refl (w1.alloc (.cells #[.int .u8 0, .slice A1 2 c1, .slice B1 0 d1] 44)))
  rw [← hX1] at kv kvf zv
  have hgX1 := hg.ext (hwX0.trans hX01)
  clear hX1
  go_upto_region 4 with fail
  go_cut [6, 7, 8] (fun s6 s7 s8 wx => ∃ (g : Nat) (A : Option Addr) (c : Nat) (B : Option Addr) (d : Nat), s6 = .pointer (some ⟨g, 0, none⟩) ∧ s7 = .int .u32 3 ∧ s8 = .int .i64 0 ∧ (∀ j, wx.cell? ⟨g, j, none⟩ = #[.int .u8 3, .slice A 0 c, .slice B 1 d][j]?) ∧ g < wx.heap.size ∧ Ext X1 wx)
  case first =>
    have hlz : (3 : Int) = (((3 : UInt8)).toNat : Int) := by decide
    have HZ := Lib.hid (fun W => law11_zone [2, 101, 120, 0] 9 3 3 hlz W)
    have HRa := Lib.hid (fun (W : World) (g : Nat) (h : g = W.heap.size) => show Recs (W.alloc (.cells #[S [2, 101, 120, 0], .int .u16 6, .int .u16 1, .int .u32 9, S (zoneD 3)] 28)) 0 (.slice (some ⟨g, 0, none⟩) 1 1) [recZ] from recs_lit W g 0 h (Nat.le_refl _) [recZ] (by decide))
    have HO2 := Lib.hid (fun (W : World) (g : Nat) (hW : Ext X1 W) (h : Recs W 0 (.slice (some ⟨g, 0, none⟩) 1 1) [recZ]) => of2 W (hgX1.ext hW) g h)
    clear hlz
    go_region_held3 (fun V => V.cell? ⟨w.heap.size, 0, none⟩ = some (S [3, 119, 119, 119, 2, 101, 120, 0]) ∧ V.cell? ⟨w.heap.size, 1, none⟩ = some (.int .u16 1) ∧ V.cell? ⟨w.heap.size, 2, none⟩ = some (.int .u16 1)) (exact HSq.out _ (hX01.trans (by (repeat (first | with_reducible exact Ext.refl _ | with_reducible assumption | with_reducible refine Ext.alloc ?_ _ | with_reducible refine Ext.drewN ?_ _ | with_reducible refine Ext.drew ?_ | (with_reducible refine Ext.setCell ?_ ?hp _; case hp => (simp <;> omega))))))) (first
      | (go_at_call 7; (with_reducible refine (HZ.out X1.drew).mono ?_); rintro e w5 ⟨rfl, hE5⟩; have h15 : Ext X1 w5 := Ext.trans (by (repeat (first | with_reducible exact Ext.refl _ | with_reducible assumption | with_reducible refine Ext.alloc ?_ _ | with_reducible refine Ext.drewN ?_ _ | with_reducible refine Ext.drew ?_ | (with_reducible refine Ext.setCell ?_ ?hp _; case hp => (simp <;> omega))))) hE5; have hz15 : X1.heap.size ≤ w5.heap.size := h15.size)
      | (go_at_call 7; (with_reducible refine (HZ.out _).mono ?_); rintro e w5 ⟨rfl, hE5⟩; have h15 : Ext X1 w5 := Ext.trans (by (repeat (first | with_reducible exact Ext.refl _ | with_reducible assumption | with_reducible refine Ext.alloc ?_ _ | with_reducible refine Ext.drewN ?_ _ | with_reducible refine Ext.drew ?_ | (with_reducible refine Ext.setCell ?_ ?hp _; case hp => (simp <;> omega))))) hE5; have hz15 : X1.heap.size ≤ w5.heap.size := h15.size; obtain ⟨bz, bf, bzz⟩ := ext_new (Ext.of_drewN 1 hE5))
      | (go_at_call 8; (with_reducible refine (HO2.out ((w5.alloc (.cells #[.int .u8 0, .slice none 0 0, .slice none 0 0] 44)).alloc (.cells #[S [2, 101, 120, 0], .int .u16 6, .int .u16 1, .int .u32 9, S (zoneD 3)] 28)) _ (by (repeat (first | with_reducible exact Ext.refl _ | with_reducible assumption | with_reducible refine Ext.alloc ?_ _ | with_reducible refine Ext.drewN ?_ _ | with_reducible refine Ext.drew ?_ | (with_reducible refine Ext.setCell ?_ ?hp _; case hp => (simp <;> omega))))) (HRa.out _ _ (by simp))).mono ?_); rintro e w6 ⟨A2, c2, B2, d2, rfl, hc2, hd2, hE6⟩; have h16 : Ext X1 w6 := Ext.trans (by (repeat (first | with_reducible exact Ext.refl _ | with_reducible assumption | with_reducible refine Ext.alloc ?_ _ | with_reducible refine Ext.drewN ?_ _ | with_reducible refine Ext.drew ?_ | (with_reducible refine Ext.setCell ?_ ?hp _; case hp => (simp <;> omega))))) hE6; obtain ⟨bz6, bf6, bzz6⟩ := ext_new_at w5.heap.size rfl (((Ext.refl (w5.alloc (.cells #[.int .u8 0, .slice none 0 0, .slice none 0 0] 44))).alloc (.cells #[S [2, 101, 120, 0], .int .u16 6, .int .u16 1, .int .u32 9, S (zoneD 3)] 28)).trans hE6))
      | (go_at_call 8; (with_reducible refine (HO2.out ((w5.alloc (.cells #[S [2, 101, 120, 0], .int .u16 6, .int .u16 1, .int .u32 9, S (zoneD 3)] 28)).alloc (.cells #[.int .u8 0, .slice none 0 0, .slice none 0 0] 44)) _ (by (repeat (first | with_reducible exact Ext.refl _ | with_reducible assumption | with_reducible refine Ext.alloc ?_ _ | with_reducible refine Ext.drewN ?_ _ | with_reducible refine Ext.drew ?_ | (with_reducible refine Ext.setCell ?_ ?hp _; case hp => (simp <;> omega))))) ((HRa.out _ _ rfl).ext ((Ext.refl _).alloc _))).mono ?_); rintro e w6 ⟨A2, c2, B2, d2, rfl, hc2, hd2, hE6⟩; have h16 : Ext X1 w6 := Ext.trans (by (repeat (first | with_reducible exact Ext.refl _ | with_reducible assumption | with_reducible refine Ext.alloc ?_ _ | with_reducible refine Ext.drewN ?_ _ | with_reducible refine Ext.drew ?_ | (with_reducible refine Ext.setCell ?_ ?hp _; case hp => (simp <;> omega))))) hE6; obtain ⟨bz6, bf6, bzz6⟩ := ext_new_at (w5.heap.size + 1) (by simp) hE6)
      | (go_at_call 8; (with_reducible refine (HO2.out (w5.alloc (.cells #[S [2, 101, 120, 0], .int .u16 6, .int .u16 1, .int .u32 9, S (zoneD 3)] 28)) _ (by (repeat (first | with_reducible exact Ext.refl _ | with_reducible assumption | with_reducible refine Ext.alloc ?_ _ | with_reducible refine Ext.drewN ?_ _ | with_reducible refine Ext.drew ?_ | (with_reducible refine Ext.setCell ?_ ?hp _; case hp => (simp <;> omega))))) (HRa.out _ _ rfl)).mono ?_); rintro e w6 ⟨A2, c2, B2, d2, rfl, hc2, hd2, hE6⟩; have h16 : Ext X1 w6 := Ext.trans (by (repeat (first | with_reducible exact Ext.refl _ | with_reducible assumption | with_reducible refine Ext.alloc ?_ _ | with_reducible refine Ext.drewN ?_ _ | with_reducible refine Ext.drew ?_ | (with_reducible refine Ext.setCell ?_ ?hp _; case hp => (simp <;> omega))))) hE6; (first | (revert bz; intro bz; have h56 : Ext w5 w6 := ((Ext.refl _).alloc _).trans hE6; have bz6 : ∀ j, w6.cell? ⟨X1.heap.size, j, none⟩ = _ := fun j => (h56.cell (p := ⟨X1.heap.size, j, none⟩) bzz).trans (bz j); have bf6 : ∀ j, w6.frozen? ⟨X1.heap.size, j, none⟩ = false := fun j => (h56.frozen (p := ⟨X1.heap.size, j, none⟩) bzz).trans (bf j); have bzz6 : X1.heap.size < w6.heap.size := Nat.lt_of_lt_of_le bzz h56.size) | skip)))
    all_goals
      go_wp2_with fail
      go_meet
    · exact ⟨w6.heap.size, A2, c2, B2, d2, rfl, rfl, rfl, (fun j => World.cell?_alloc_mark w6 _ _ _ j), by simp, h16.alloc _⟩
    · exact ⟨w5.heap.size + 1, A2, c2, B2, d2, rfl, rfl, rfl, box3 bz6 (.int .u8 3) (.slice A2 0 c2) (.slice B2 1 d2), by simp; omega, by (repeat (first | with_reducible exact Ext.refl _ | with_reducible assumption | with_reducible refine Ext.alloc ?_ _ | with_reducible refine Ext.drewN ?_ _ | with_reducible refine Ext.drew ?_ | (with_reducible refine Ext.setCell ?_ ?hp _; case hp => (simp <;> omega))))⟩
    · exact ⟨w5.heap.size, A2, c2, B2, d2, rfl, rfl, rfl, box3 bz6 (.int .u8 3) (.slice A2 0 c2) (.slice B2 1 d2), by simp; omega, by (repeat (first | with_reducible exact Ext.refl _ | with_reducible assumption | with_reducible refine Ext.alloc ?_ _ | with_reducible refine Ext.drewN ?_ _ | with_reducible refine Ext.drew ?_ | (with_reducible refine Ext.setCell ?_ ?hp _; case hp => (simp <;> omega))))⟩
    · exact ⟨X1.heap.size, A2, c2, B2, d2, rfl, rfl, rfl, box3 bz6 (.int .u8 3) (.slice A2 0 c2) (.slice B2 1 d2), by simp; omega, by (repeat (first | with_reducible exact Ext.refl _ | with_reducible assumption | with_reducible refine Ext.alloc ?_ _ | with_reducible refine Ext.drewN ?_ _ | with_reducible refine Ext.drew ?_ | (with_reducible refine Ext.setCell ?_ ?hp _; case hp => (simp <;> omega))))⟩
  case rest =>
    obtain ⟨g, A2, c2, B2, d2, rfl, rfl, rfl, hgc, hgz, hE2⟩ := hcut
    obtain ⟨Y, rfl⟩ : ∃ Y : World, Y = wc := ⟨_, rfl⟩
    have h0Y := hX01.trans hE2
    have hwY := hwX0.trans h0Y
    obtain ⟨q0, q1, q2⟩ := HSq.out Y h0Y
    go_wp2_with fail
    refine (of3 Y (hg.ext hwY)).mono ?_; rintro e w7 ⟨A3, c3, B3, d3, rfl, hc3, hd3, hE7⟩
    have hYX7 : Ext Y (w7.alloc (.cells #[.int .u8 3, .slice A3 0 c3, .slice B3 0 d3] 44)) := hE7.alloc _
    obtain ⟨q70, q71, q72⟩ := HSq.out w7 (h0Y.trans hE7)
    obtain ⟨q73, q74, q75⟩ := HSq.out _ (h0Y.trans hYX7)
    obtain ⟨km, kmf, zm⟩ := ext_new_at w7.heap.size rfl (Ext.refl (w7.alloc (.cells #[.int .u8 3, .slice A3 0 c3, .slice B3 0 d3] 44)))
    clear q0 q1 q2
    go_wp2_with fail
    refine (of4 _ (hg.ext (hwY.trans hYX7))).mono ?_; rintro e w8 ⟨A4, c4, B4, d4, rfl, hc4, hd4, hE8⟩
    have hY8 : Ext Y (w8.alloc (.cells #[.int .u8 0, .slice A4 0 c4, .slice B4 0 d4] 44)) := (hYX7.trans hE8).alloc _
    have h08 := h0Y.trans hY8
    have kl8 : ∀ j, (w8.alloc (.cells #[.int .u8 0, .slice A4 0 c4, .slice B4 0 d4] 44)).cell? ⟨w.heap.size + 1, j, none⟩ = _ := fun j => (h08.cell (p := ⟨w.heap.size + 1, j, none⟩) zl).trans (kl j)
    obtain ⟨q80, q81, q82⟩ := HSq.out _ h08
    clear q70 q71 q72 q73 q74 q75
    obtain ⟨X8, hX8⟩ : ∃ X, X = w8.alloc (.cells #[.int .u8 0, .slice A4 0 c4, .slice B4 0 d4] 44) := ⟨_, rfl⟩
    rw [← hX8] at hY8 h08 kl8 q80 q81 q82
    have kz8 : w.heap.size + 1 < X8.heap.size := Nat.lt_of_lt_of_le zl h08.size
    have hE78 : Ext (w7.alloc (.cells #[.int .u8 3, .slice A3 0 c3, .slice B3 0 d3] 44)) X8 := by rw [hX8]; exact hE8.alloc _
    go_upto_region 7 with fail
    rw [← hX8]
    clear hX8
    have hz78 : w7.heap.size < X8.heap.size := Nat.lt_of_lt_of_le zm hE78.size
    obtain ⟨q90, q91, q92⟩ := HSq.out (X8.alloc (.cells #[S [1, 97, 2, 101, 120, 0], .int .u16 1, .int .u16 1, .int .u32 5, S [10, 0, 0, 1]] 28)) (h08.alloc _)
    obtain ⟨q93, q94, q95⟩ := HSq.out (X8.alloc (.cells #[S [3, 119, 119, 119, 2, 101, 120, 0], .int .u16 1, .int .u16 1, .int .u32 5, S [10, 0, 0, 1]] 28)) (h08.alloc _)
    have hro : Recs ((X8.alloc (.cells #[S [3, 119, 119, 119, 2, 101, 120, 0], .int .u16 1, .int .u16 1, .int .u32 5, S [10, 0, 0, 1]] 28)).alloc (.cells #[S [3, 119, 119, 119, 2, 101, 120, 0], .int .u16 1, .int .u16 1, .int .u32 5, S [10, 0, 0, 1]] 28)) 0 (.slice (some ⟨X8.heap.size + 1, 0, none⟩) 1 1) [recO] := recs_lit (X8.alloc (.cells #[S [3, 119, 119, 119, 2, 101, 120, 0], .int .u16 1, .int .u16 1, .int .u32 5, S [10, 0, 0, 1]] 28)) (X8.heap.size + 1) 0 (by simp) (Nat.le_refl _) [recO] (by decide)
    go_wp2_with fail
    refine (of5 _ (hg.ext (hwX0.trans ((h08.alloc _).alloc _))) _ hro).mono ?_; rintro e w9 ⟨A5, c5, B5, d5, rfl, hc5, hd5, hE9⟩
    have hY9 : Ext X8 (w9.alloc (.cells #[.int .u8 0, .slice A5 0 c5, .slice B5 0 d5] 44)) := ((((Ext.refl X8).alloc _).alloc _).trans hE9).alloc _
    have hXv : Ext X1 (w9.alloc (.cells #[.int .u8 0, .slice A5 0 c5, .slice B5 0 d5] 44)) := (hE2.trans hY8).trans hY9
    have kv9 : ∀ j, (w9.alloc (.cells #[.int .u8 0, .slice A5 0 c5, .slice B5 0 d5] 44)).cell? ⟨w1.heap.size, j, none⟩ = _ := fun j => (hXv.cell (p := ⟨w1.heap.size, j, none⟩) zv).trans (kv j)
    have kg9 : ∀ j, (w9.alloc (.cells #[.int .u8 0, .slice A5 0 c5, .slice B5 0 d5] 44)).cell? ⟨g, j, none⟩ = _ := fun j => ((hY8.trans hY9).cell (p := ⟨g, j, none⟩) hgz).trans (hgc j)
    have km9 : ∀ j, (w9.alloc (.cells #[.int .u8 0, .slice A5 0 c5, .slice B5 0 d5] 44)).cell? ⟨w7.heap.size, j, none⟩ = _ := fun j => ((hE78.trans hY9).cell (p := ⟨w7.heap.size, j, none⟩) zm).trans (km j)
    have hK := Lib.hid (ver_key 0 3 (.slice A3 0 c3) (.slice B3 0 d3) [] [] (w9.alloc (.cells #[.int .u8 0, .slice A5 0 c5, .slice B5 0 d5] 44)) (sets_none _ A3 c3 hc3) (sets_none _ B3 d3 hd3) (by simp) (by simp) (by decide) (by decide))
    rw [show keyV3 3 [] [] = [3, 0, 0] from rfl] at hK
    go_wp2_with fail
    refine hK.out.mono ?_; rintro e wk ⟨rfl, hEk⟩
    go_wp2_with fail
    go_ret
    exact ⟨rfl, (hwX0.trans (h08.trans hY9)).trans hEk⟩
end Go.Proofs.YtcpikbanghoflaaGreatDoor
namespace Go.Proofs.YtcpikbanghoflaaGreatDoor
set_option linter.unusedSimpArgs false
set_option linter.unusedVariables false
section
variable {P : Program} {ops : Array Oper} {Q : Exit → Act → World → Prop} {S : World → Prop} {V : World}
def wpV (P : Program) (ops : Array Oper) (V : World) : List Nat → Act → Act → Prop
  | [], a, a' => a = a'
  | i :: is, a, a' => ∃ o d x, nth ops.toList i = some o ∧ o.dst = some d ∧ Nat.blt d a.tmps.size = true ∧ valOp o.op = true ∧ wpList P ops (fun e y z => e = .normal ∧ y = x ∧ z = V) [o] a V ∧ wpV P ops V is x a'
def dstsV (ops : Array Oper) (is : List Nat) : List (Option Nat) := is.map fun i => (nth ops.toList i).bind (·.dst)
def distV : List (Option Nat) → Bool
  | [] => true
  | x :: r => (!r.contains x) && distV r
theorem wpV_nil {a : Act} : wpV P ops V [] a a := rfl
theorem wpV_cons {i d : Nat} {is : List Nat} {a a' x : Act} {o : Oper} (ho : nth ops.toList i = some o) (hd : o.dst = some d) (hlt : Nat.blt d a.tmps.size = true) (hv : valOp o.op = true)
    (h1 : ∀ Q' : Exit → Act → World → Prop, Shut (Q' .normal x V) → wpList P ops Q' [o] a V) (h2 : wpV P ops V is x a') : wpV P ops V (i :: is) a a' :=
  ⟨o, d, x, ho, hd, hlt, hv, h1 _ ⟨rfl, rfl, rfl⟩, h2⟩
theorem wpV_key {o : Oper} {a x : Act} (hv : valOp o.op = true) (h1 : wpList P ops (fun e y z => e = .normal ∧ y = x ∧ z = V) [o] a V) :
    (Region.wanted o (yielded ops a.tmps) = true ∧ ∃ v, (execOp a.eval o).run P V = .ok (.value v) V ∧ a.put o.dst v = x) ∨ (Region.wanted o (yielded ops a.tmps) = false ∧ a.put o.dst undef = x) := by
  unfold wpList at h1
  split at h1
  · rename_i hw
    refine .inl ⟨hw, ?_⟩
    rcases h1 with h1 | ⟨_, x, y, hx, _⟩
    case inr => cases hx
    unfold Oper.wp at h1
    cases hr : (execOp a.eval o).run P V with
    | ok n w1 =>
      obtain ⟨v, rfl⟩ := valOp_run hv hr
      rw [hr] at h1
      obtain ⟨_, h2, h3⟩ := h1
      subst h3
      exact ⟨v, rfl, h2⟩
    | halt x w1 =>
      rw [hr] at h1
      cases x <;> first | exact h1.elim | (obtain ⟨h2, _⟩ := h1; cases h2)
  · rename_i hw
    obtain ⟨_, h2, _⟩ := h1
    exact .inr ⟨by simpa using hw, h2⟩
theorem put_other {a : Act} {d e : Nat} {v : Value} (h : e ≠ d) : (a.put (some e) v).tmps.getD d undef = a.tmps.getD d undef := by
  simp only [Act.put]
  by_cases hd : d < a.tmps.size
  · simp [hd, Array.getElem_setIfInBounds_ne hd h]
  · simp [hd]
theorem wpV_keep : ∀ (is : List Nat) (a a' : Act) (d : Nat), wpV P ops V is a a' → (dstsV ops is).contains (some d) = false → a'.tmps.getD d undef = a.tmps.getD d undef
  | [], a, a', d, h, _ => by cases h; rfl
  | i :: is, a, a', d, ⟨o, e, x, ho, hd, hlt, hv, h1, h2⟩, hc => by
    simp only [dstsV, List.map_cons, ho, Option.bind_some, hd, List.contains_cons, Bool.or_eq_false_iff, beq_eq_false_iff_ne] at hc
    have hne : e ≠ d := fun h => hc.1 (by rw [h])
    rw [wpV_keep is x a' d h2 hc.2]
    rcases wpV_key hv h1 with ⟨_, v, _, hx⟩ | ⟨_, hx⟩
    · rw [← hx, hd, put_other hne]
    · rw [← hx, hd, put_other hne]
theorem treeTakesV (hS0 : ∃ V, S V) {r : Tr} {w : World} : ∀ (is : List Nat) {a a' : Act}, distV (dstsV ops is) = true → (∀ V, S V → wpV P ops V is a a') → seqT P ops Q S r a' w → seqT P ops Q S (takesOf is r) a w
  | [], a, a', _, hy, h => by
    obtain ⟨V0, hV0⟩ := hS0
    cases hy V0 hV0
    exact h
  | i :: is, a, a', hd, hy, h => by
    have hd' := hd
    simp only [dstsV, List.map_cons, distV, Bool.and_eq_true, Bool.not_eq_true'] at hd
    obtain ⟨V0, hV0⟩ := id hS0
    obtain ⟨o, d, x, ho, hod, hlt, hv, h1, h2⟩ := hy V0 hV0
    have hlt' : d < a.tmps.size := by simpa [Nat.blt_eq] using hlt
    have hnc : (dstsV ops is).contains (some d) = false := by
      have := hd.1
      rw [ho, Option.bind_some, hod] at this
      exact this
    have hput : ∀ v y, a.put o.dst v = y → v = y.tmps.getD d undef := by
      intro v y e
      rw [← e, hod]
      simp [Act.put, hlt']
    have key : ∀ V, S V → wpV P ops V is x a' ∧ ((Region.wanted o (yielded ops a.tmps) = true ∧ (execOp a.eval o).run P V = .ok (.value (x.tmps.getD d undef)) V ∧ a.put o.dst (x.tmps.getD d undef) = x) ∨ (Region.wanted o (yielded ops a.tmps) = false ∧ a.put o.dst undef = x)) := by
      intro V hV
      obtain ⟨o2, d2, y, ho2, hod2, _, hv2, k1, k2⟩ := hy V hV
      rw [ho] at ho2
      injection ho2 with ho2
      subst ho2
      rw [hod] at hod2
      injection hod2 with hod2
      subst hod2
      have e1 := wpV_keep is x a' d h2 hnc
      have e2 := wpV_keep is y a' d k2 hnc
      have e3 : x.tmps.getD d undef = y.tmps.getD d undef := e1.symm.trans e2
      have hxy : y = x := by
        have fin : ∀ v u, a.put o.dst v = x → a.put o.dst u = y → y = x := by
          intro v u hx hu
          have : u = v := (hput u y hu).trans (e3.symm.trans (hput v x hx).symm)
          rw [← hx, ← hu, this]
        rcases wpV_key hv h1 with ⟨_, v, _, hx⟩ | ⟨_, hx⟩
        · rcases wpV_key hv k1 with ⟨_, u, _, hu⟩ | ⟨_, hu⟩
          · exact fin _ _ hx hu
          · exact fin _ _ hx hu
        · rcases wpV_key hv k1 with ⟨_, u, _, hu⟩ | ⟨_, hu⟩
          · exact fin _ _ hx hu
          · exact fin _ _ hx hu
      subst hxy
      refine ⟨k2, ?_⟩
      rcases wpV_key hv k1 with ⟨hw, u, hr, hu⟩ | ⟨hw, hu⟩
      · have := hput u y hu
        rw [← this]
        exact .inl ⟨hw, hr, hu⟩
      · exact .inr ⟨hw, hu⟩
    have ih := treeTakesV hS0 is (by simpa [dstsV] using hd.2) (fun V hV => (key V hV).1) h
    have ho' : ops[i]? = some o := by rw [nth_eq] at ho; simpa using ho
    rcases (key V0 hV0).2 with ⟨hw, _, hx⟩ | ⟨hw, hx⟩
    · refine ⟨o, x.tmps.getD d undef, ho', .inl ⟨hw, fun V hV => ?_⟩, by rw [hx]; exact ih⟩
      rcases (key V hV).2 with ⟨_, hr, _⟩ | ⟨hw', _⟩
      · exact hr
      · rw [hw] at hw'; cases hw'
    · exact ⟨o, undef, ho', .inr ⟨hw, rfl⟩, by rw [hx]; exact ih⟩
end
end Go.Proofs.YtcpikbanghoflaaGreatDoor
namespace Go.Proofs.YtcpikbanghoflaaGreatDoor
set_option linter.unusedSimpArgs false
set_option linter.unusedVariables false
section
variable {P : Program} {ops : Array Oper} {Q : Exit → Act → World → Prop} {S : World → Prop} {R : World → World → Prop}
end
end Go.Proofs.YtcpikbanghoflaaGreatDoor
namespace Go.Proofs.YtcpikbanghoflaaGreatDoor
set_option linter.unusedSimpArgs false
set_option linter.unusedVariables false
open Go.RowKit
set_option maxRecDepth 100000
def nA : RecD := ⟨[1, 97, 0], 1, 1, 7, [10, 0, 0, 1]⟩
def nF : RecD := ⟨[1, 97, 0], 1, 1, 2147483647, [10, 0, 0, 2]⟩
def nG : RecD := ⟨[1, 97, 0], 1, 1, 2147483648, [10, 0, 0, 1]⟩
def nL : RecD := ⟨[1, 97, 0], 5, 1, 4, [1, 97, 0]⟩
def nO : RecD := ⟨[1, 98, 0], 1, 1, 7, [10, 0, 0, 1]⟩
def nZ : RecD := ⟨[0], 6, 1, 9, zoneD 9⟩
def nY : RecD := ⟨[0], 6, 1, 9, 1 :: 120 :: zoneD 9⟩
def nB : RecD := ⟨[1, 98, 0], 6, 1, 9, zoneD 9⟩
def nX : RecD := ⟨[1, 97, 0], 6, 1, 5, zoneD 9⟩
structure RowN where
  code : Int
  ans : List RecD
  auth : List RecD
  n : Nat
  t : Int
  e : Nat
def rowsN : List RowN := [⟨0, [nA], [], 1, 7, 0⟩, ⟨0, [nA, nF, nO], [], 1, 7, 0⟩, ⟨0, [nF], [], 1, 2147483647, 0⟩, ⟨0, [nA, nG], [], 1, 0, 0⟩, ⟨3, [nA], [], 0, 0, 3⟩, ⟨2, [nA], [], 0, 0, 1⟩, ⟨19, [], [], 0, 0, 1⟩, ⟨0, [nL], [], 0, 0, 8⟩, ⟨0, [nL, nA], [], 0, 0, 3⟩, ⟨0, [], [nZ, nY], 0, 0, 3⟩, ⟨0, [nA], [nZ, nY], 1, 7, 0⟩, ⟨3, [], [nZ], 0, 9, 0⟩, ⟨0, [], [nB], 0, 0, 0⟩, ⟨0, [nO], [nA, nX], 0, 5, 0⟩]
def nQ : List UInt8 := [1, 65, 0]
def rowN_ok (r : RowN) : Bool :=
  let R := verOf nQ 1 1 r.code r.ans r.auth
  (R.err == r.e && (r.e == 0 || (R.sets.isEmpty && (R.soa.isEmpty && R.code == 0)))) && (R.time == r.t && (R.sets.length == r.n && ((decide (r.ans.length ≤ 9) && decide (r.auth.length ≤ 9)) && (decide (∀ x ∈ r.ans, x.name.length ≤ 9 ∧ x.data.length ≤ 99 ∧ (0 ≤ x.typ ∧ x.typ ≤ 65535) ∧ (0 ≤ x.cls ∧ x.cls ≤ 65535) ∧ (0 ≤ x.ttl ∧ x.ttl ≤ 4294967295)) && decide (∀ x ∈ r.auth, x.name.length ≤ 9 ∧ x.data.length ≤ 99 ∧ (0 ≤ x.typ ∧ x.typ ≤ 65535) ∧ (0 ≤ x.cls ∧ x.cls ≤ 65535) ∧ (0 ≤ x.ttl ∧ x.ttl ≤ 4294967295))))))
theorem rowsN_ok : (rowsN.all rowN_ok) = true := by kernel_rfl
theorem rowsN_len : rowsN.length = 14 := rfl
structure RowOk (r : RowN) : Prop where
  err : (verOf nQ 1 1 r.code r.ans r.auth).err = r.e
  bad : r.e ≠ 0 → (verOf nQ 1 1 r.code r.ans r.auth).sets = [] ∧ (verOf nQ 1 1 r.code r.ans r.auth).soa = [] ∧ (verOf nQ 1 1 r.code r.ans r.auth).code = 0
  time : (verOf nQ 1 1 r.code r.ans r.auth).time = r.t
  n : (verOf nQ 1 1 r.code r.ans r.auth).sets.length = r.n
  ab : RecsBd r.ans
  ub : RecsBd r.auth
  ao : RecsOk r.ans
  uo : RecsOk r.auth
theorem rowN_facts {r : RowN} (h : rowN_ok r = true) : RowOk r := by
  unfold rowN_ok at h
  simp only [Bool.and_eq_true, Bool.or_eq_true, beq_iff_eq, decide_eq_true_eq, List.isEmpty_iff] at h
  obtain ⟨⟨h1, h2⟩, h3, h4, ⟨h5, h6⟩, h7, h8⟩ := h
  exact ⟨h1, fun he => by rcases h2 with h2 | h2; exact absurd h2 he; exact h2, h3, h4, ⟨by omega, fun x hx => ⟨by have := (h7 x hx).1; omega, by have := (h7 x hx).2.1; omega⟩⟩, ⟨by omega, fun x hx => ⟨by have := (h8 x hx).1; omega, by have := (h8 x hx).2.1; omega⟩⟩, fun x hx => ⟨(h7 x hx).2.2.1, (h7 x hx).2.2.2.1⟩, fun x hx => ⟨(h8 x hx).2.2.1, (h8 x hx).2.2.2.1⟩⟩
theorem box_cellN {w : World} {g j : Nat} {cs : Array Value} {t : TypeId} {v : Value} (h : w.heap[g]? = some (.cells cs t)) (hj : cs[j]? = some v) : w.cell? ⟨g, j, none⟩ = some v := by simp [World.cell?, h, hj]
def vA : VerR := ⟨0, [⟨[1, 97, 0], 1, 1, 0, [[10, 0, 0, 1]]⟩], [], 7, 0⟩
theorem vN_of : verOf [] 1 1 0 [] [] = VerR.bad 1 := by kernel_rfl
theorem vA_key : keyV3 0 [⟨[1, 97, 0], 1, 1, 0, [[10, 0, 0, 1]]⟩] [] = [0, 1, 1, 97, 0, 0, 1, 0, 1, 0, 1, 0, 4, 10, 0, 0, 1, 0] := by kernel_rfl
abbrev msgC (c : Int) (a u x : Value) : List Value := [.int .u16 0, .bool false, .int .u8 0, .bool false, .bool false, .bool false, .bool false, .bool false, .bool false, .bool false, .int .u8 c, .slice none 0 0, a, u, x, .bool false, .int .u16 0, .int .u8 0, .int .u8 0, .int .u16 0, .slice none 0 0]
abbrev rowC (c : Int) (a u x : Value) (n : Nat) (t : Int) (e : Nat) : List Value := [.int .u16 0, .bool false, .int .u8 0, .bool false, .bool false, .bool false, .bool false, .bool false, .bool false, .bool false, .int .u8 c, .slice none 0 0, a, u, x, .bool false, .int .u16 0, .int .u8 0, .int .u8 0, .int .u16 0, .slice none 0 0, .int .i64 (n : Int), .int .u32 t, .int .i64 (e : Int)]
structure RowV where
  c : Int
  a : Value
  u : Value
  x : Value
  n : Nat
  t : Int
  e : Nat
def RowV.cells (p : RowV) : List Value := rowC p.c p.a p.u p.x p.n p.t p.e
def TabN (w : World) (g : Nat) : Prop := ∀ (k : Nat) (r : RowN), rowsN[k]? = some r → ∃ (a u x : Value) (xl : List RecD),
  (∀ j v, (rowC r.code a u x r.n r.t r.e)[j]? = some v → w.cell? ⟨g, k * 24 + j, none⟩ = some v) ∧ Recs w 0 a r.ans ∧ Recs w 0 u r.auth ∧ Recs w 0 x xl
theorem tabN_of {w w' : World} {T : TypeId} (ps : List RowV) (hE : Ext (w.alloc (.cells (ps.flatMap RowV.cells).toArray T)) w') (g : Nat) (hg : g = w.heap.size) (k : Nat) (p : RowV) (hp : ps[k]? = some p) : ∀ j v, p.cells[j]? = some v → w'.cell? ⟨g, k * 24 + j, none⟩ = some v := fun j v hv => by
  have hj : j < 24 := by
    have := (List.getElem?_eq_some_iff.1 hv).1
    exact this
  have h1 := flat_get RowV.cells 24 (fun _ => rfl) ps k j p hp hj
  rw [(ext_new_at g hg hE).1 (k * 24 + j), List.getElem?_toArray, h1, hv]
section
variable {P : Program} {ops : Array Oper} {Q : Exit → Act → World → Prop}
theorem wpList_load_atG {rest : List Oper} {o : Oper} {a : Act} {w : World} (hwn : Region.wanted o (yielded ops a.tmps) = true) (ty : TypeId) (x : Operand) (ho : o.op = .load ty x)
    (b off : Nat) (hx : a.eval x = .pointer (some ⟨b, off, none⟩)) (l : List Value) (hl : ∀ j v, l[j]? = some v → w.cell? ⟨b, off + j, none⟩ = some v) (d : TypeDesc)
    (hu : P.underlying ty = some d) (hd : (match d with | .struct _ | .array _ _ => true | _ => false) = true) (hi : (P.info? ty).map (·.size) = some l.length)
    (h : wpList P ops Q rest (a.put o.dst (.agg l.toArray)) w) : wpList P ops Q (o :: rest) a w := by
  have hload : (loadVar ty ⟨b, off, none⟩).run P w = .ok (.agg l.toArray) w := by
    have hlc : (loadCells ⟨b, off, none⟩ l.length).run P w = .ok l.toArray w :=
      run_loadCells_list (P := P) w ⟨b, off, none⟩ l (fun j v hv => by rw [add_none]; exact hl j v hv)
    cases hq : P.info? ty with
    | none => simp [hq] at hi
    | some i =>
      have hs : i.size = l.length := by simpa [hq] using hi
      have hagg : (isAgg ty).run P w = .ok true w := by
        unfold isAgg
        rw [Sem.run_bind, run_underlying hu w]
        cases d <;> simp_all
      simp [loadVar, Sem.run_bind, hagg, sizeOf, typeInfo, hq, hs, hlc]
  refine wpList_step fun K hK => ?_
  rw [if_pos hwn]
  unfold Oper.wp execOp
  simp only [ho, hx, Instr.loadAt, Instr.sureAddr, Sem.run_bind, Sem.run_pure, Result.andThen_ok, hload]
  exact hK _ _ h
end
theorem TabN.ext {w w' : World} {g : Nat} (h : TabN w g) (hE : Ext w w') (hz : g < w.heap.size) : TabN w' g := fun k r hr => by
  obtain ⟨a, u, x, xl, h1, h2, h3, h4⟩ := h k r hr
  exact ⟨a, u, x, xl, fun j v hv => (hE.cell (p := ⟨g, k * 24 + j, none⟩) hz).trans (h1 j v hv), h2.ext hE, h3.ext hE, h4.ext hE⟩
inductive FK where
  | slc : List RecD → FK
  | msg : Int → List RecD → List RecD → List RecD → FK
  | row : Int → List RecD → List RecD → List RecD → Nat → Int → Nat → FK
  | lit : Value → FK
  | tab : FK
def FK.ok : FK → Value → World → Prop
  | .slc l, v, V => Recs V 0 v l
  | .msg c la lu lx, v, V => ∃ a u x, v = .agg #[.int .u16 0, .bool false, .int .u8 0, .bool false, .bool false, .bool false, .bool false, .bool false, .bool false, .bool false, .int .u8 c, .slice none 0 0, a, u, x, .bool false, .int .u16 0, .int .u8 0, .int .u8 0, .int .u16 0, .slice none 0 0] ∧ Recs V 0 a la ∧ Recs V 0 u lu ∧ Recs V 0 x lx
  | .row c la lu lx n t e, v, V => ∃ a u x, v = .agg (rowC c a u x n t e).toArray ∧ Recs V 0 a la ∧ Recs V 0 u lu ∧ Recs V 0 x lx
  | .lit u, v, _ => v = u
  | .tab, v, V => ∃ g, v = .slice (some ⟨g, 0, none⟩) 14 14 ∧ TabN V g ∧ g < V.heap.size
theorem FK.mono {k : FK} {v : Value} {V V' : World} (hE : Ext V V') (h : k.ok v V) : k.ok v V' := by
  cases k with
  | slc l => exact Recs.ext h hE
  | msg c la lu lx =>
    obtain ⟨a, u, x, h1, h2, h3, h4⟩ := h
    exact ⟨a, u, x, h1, h2.ext hE, h3.ext hE, h4.ext hE⟩
  | row c la lu lx n t e =>
    obtain ⟨a, u, x, h1, h2, h3, h4⟩ := h
    exact ⟨a, u, x, h1, h2.ext hE, h3.ext hE, h4.ext hE⟩
  | lit u => exact h
  | tab =>
    obtain ⟨g, h1, h2, h3⟩ := h
    exact ⟨g, h1, h2.ext hE h3, Nat.lt_of_lt_of_le h3 hE.size⟩
def kindN : Nat → FK
  | 1 => .slc [nA]
  | 2 => .msg 0 [nA] [] []
  | 3 => .row 0 [nA] [] [] 1 7 0
  | 7 => .slc [nA, nF, nO]
  | 8 => .msg 0 [nA, nF, nO] [] []
  | 9 => .row 0 [nA, nF, nO] [] [] 1 7 0
  | 11 => .slc [nF]
  | 12 => .msg 0 [nF] [] []
  | 13 => .row 0 [nF] [] [] 1 2147483647 0
  | 16 => .slc [nA, nG]
  | 17 => .msg 0 [nA, nG] [] []
  | 18 => .row 0 [nA, nG] [] [] 1 0 0
  | 21 => .slc [nA]
  | 22 => .msg 3 [nA] [] []
  | 23 => .row 3 [nA] [] [] 0 0 3
  | 26 => .slc [nA]
  | 27 => .msg 2 [nA] [] []
  | 28 => .row 2 [nA] [] [] 0 0 1
  | 30 => .msg 19 [] [] []
  | 31 => .row 19 [] [] [] 0 0 1
  | 33 => .slc [nL]
  | 34 => .msg 0 [nL] [] []
  | 35 => .row 0 [nL] [] [] 0 0 8
  | 38 => .slc [nL, nA]
  | 39 => .msg 0 [nL, nA] [] []
  | 40 => .row 0 [nL, nA] [] [] 0 0 3
  | 42 => .msg 0 [] [nZ, nY] []
  | 43 => .row 0 [] [nZ, nY] [] 0 0 3
  | 45 => .slc [nA]
  | 47 => .msg 0 [nA] [nZ, nY] []
  | 48 => .row 0 [nA] [nZ, nY] [] 1 7 0
  | 52 => .msg 3 [] [nZ] []
  | 53 => .row 3 [] [nZ] [] 0 9 0
  | 54 => .lit (recVal nB)
  | 55 => .slc [nB]
  | 56 => .msg 0 [] [nB] []
  | 57 => .row 0 [] [nB] [] 0 0 0
  | 59 => .slc [nO]
  | 61 => .slc [nA]
  | 63 => .lit (recVal nX)
  | 64 => .slc [nA, nX]
  | 65 => .msg 0 [nO] [nA, nX] [nA]
  | 66 => .row 0 [nO] [nA, nX] [nA] 0 5 0
  | 67 => .tab
  | 68 => .lit (.int .i64 14)
  | _ => .lit undef
theorem wpList_buildN {P : Program} {ops : Array Oper} {rest : List Oper} {o : Oper} {a : Act} {w : World} {Q : Exit → Act → World → Prop} (hg : o.guard = none) (t : TypeId) (parts : Array (Nat × Operand)) (ho : o.op = .build t parts)
    (vs : List (Nat × Value)) (hv : (parts.map fun (i, x) => (i, a.eval x)).toList = vs) (cells : Array Value) (hc : P.built t vs = some cells) (dst : Option Tmp) (hd : o.dst = dst)
    (h : wpList P ops Q rest (a.put dst (.agg cells)) w) : wpList P ops Q (o :: rest) a w := by
  subst hd
  exact wpList_build hg t parts ho (by rw [hv, hc]; rfl) (by rw [hv, hc]; exact h)
theorem builtM2 (A2 : Option Addr) (n2 c2 : Nat) : Tryz.prog.built 38 [(2, .slice A2 n2 c2)] = some (msgC 0 (.slice A2 n2 c2) (.slice none 0 0) (.slice none 0 0)).toArray := by kernel_rfl
theorem builtM02 (k : Int) (A2 : Option Addr) (n2 c2 : Nat) : Tryz.prog.built 38 [(0, .agg #[.int .u16 0, .bool false, .int .u8 0, .bool false, .bool false, .bool false, .bool false, .bool false, .bool false, .bool false, .int .u8 k]), (2, .slice A2 n2 c2)] = some (msgC k (.slice A2 n2 c2) (.slice none 0 0) (.slice none 0 0)).toArray := by kernel_rfl
theorem builtM0 (k : Int) : Tryz.prog.built 38 [(0, .agg #[.int .u16 0, .bool false, .int .u8 0, .bool false, .bool false, .bool false, .bool false, .bool false, .bool false, .bool false, .int .u8 k])] = some (msgC k (.slice none 0 0) (.slice none 0 0) (.slice none 0 0)).toArray := by kernel_rfl
theorem builtM3 (A3 : Option Addr) (n3 c3 : Nat) : Tryz.prog.built 38 [(3, .slice A3 n3 c3)] = some (msgC 0 (.slice none 0 0) (.slice A3 n3 c3) (.slice none 0 0)).toArray := by kernel_rfl
theorem builtM23 (A2 : Option Addr) (n2 c2 : Nat) (A3 : Option Addr) (n3 c3 : Nat) : Tryz.prog.built 38 [(2, .slice A2 n2 c2), (3, .slice A3 n3 c3)] = some (msgC 0 (.slice A2 n2 c2) (.slice A3 n3 c3) (.slice none 0 0)).toArray := by kernel_rfl
theorem builtM03 (k : Int) (A3 : Option Addr) (n3 c3 : Nat) : Tryz.prog.built 38 [(0, .agg #[.int .u16 0, .bool false, .int .u8 0, .bool false, .bool false, .bool false, .bool false, .bool false, .bool false, .bool false, .int .u8 k]), (3, .slice A3 n3 c3)] = some (msgC k (.slice none 0 0) (.slice A3 n3 c3) (.slice none 0 0)).toArray := by kernel_rfl
theorem builtM243 (A2 : Option Addr) (n2 c2 : Nat) (A4 : Option Addr) (n4 c4 : Nat) (A3 : Option Addr) (n3 c3 : Nat) : Tryz.prog.built 38 [(2, .slice A2 n2 c2), (4, .slice A4 n4 c4), (3, .slice A3 n3 c3)] = some (msgC 0 (.slice A2 n2 c2) (.slice A3 n3 c3) (.slice A4 n4 c4)).toArray := by kernel_rfl
theorem built40 (c : Int) (a u x : Value) (n : Nat) (t : Int) (e : Nat) : Tryz.prog.built 40 [(0, .agg (msgC c a u x).toArray), (1, .int .i64 (n : Int)), (2, .int .u32 t), (3, .int .i64 (e : Int))] = some (rowC c a u x n t e).toArray := by kernel_rfl
theorem info40 : ∃ i, Tryz.prog.info? 40 = some i ∧ i.zero = some (.agg (rowC 0 (.slice none 0 0) (.slice none 0 0) (.slice none 0 0) 0 0 0).toArray) ∧ i.size = 24 := by
  have h : (Tryz.prog.info? 40).map (fun i => (i.zero, i.size)) = some (some (.agg (rowC 0 (.slice none 0 0) (.slice none 0 0) (.slice none 0 0) 0 0 0).toArray), 24) := by kernel_rfl
  cases hq : Tryz.prog.info? 40 with
  | none => rw [hq] at h; cases h
  | some i =>
    rw [hq] at h
    simp only [Option.map_some, Option.some.injEq, Prod.mk.injEq] at h
    exact ⟨i, rfl, h.1, h.2⟩
theorem fill40 (p0 p1 p2 p3 p4 p5 p6 p7 p8 p9 p10 p11 p12 p13 : RowV) : Instr.fill (fun i => some (i * 24, 24)) ((Array.range (14 * 24)).map ((Value.agg (rowC 0 (.slice none 0 0) (.slice none 0 0) (.slice none 0 0) 0 0 0).toArray).cells[· % (Value.agg (rowC 0 (.slice none 0 0) (.slice none 0 0) (.slice none 0 0) 0 0 0).toArray).cells.size]!)) [(0, .agg p0.cells.toArray), (1, .agg p1.cells.toArray), (2, .agg p2.cells.toArray), (3, .agg p3.cells.toArray), (4, .agg p4.cells.toArray), (5, .agg p5.cells.toArray), (6, .agg p6.cells.toArray), (7, .agg p7.cells.toArray), (8, .agg p8.cells.toArray), (9, .agg p9.cells.toArray), (10, .agg p10.cells.toArray), (11, .agg p11.cells.toArray), (12, .agg p12.cells.toArray), (13, .agg p13.cells.toArray)] = some ([p0, p1, p2, p3, p4, p5, p6, p7, p8, p9, p10, p11, p12, p13].flatMap RowV.cells).toArray := by kernel_rfl

set_option maxHeartbeats 40000000 in
theorem law_verdictNames (w : World) (hg : Laid w) : Calls Tryz.prog 3 #[] w fun e w' => e = .returned (.bool true) ∧ Ext w w' := by
  have hA := Lib.hid (law11_awake w hg)
  go_enter Tryz.func3, Tryz.ntmps3
  go_wp2_with fail
  refine hA.out.mono ?_; rintro e w1 ⟨rfl, hE1⟩
  clear hA
  go_upto_region 5 with fail
  obtain ⟨g1, hg1⟩ : ∃ g1, g1 = w1.heap.size := ⟨_, rfl⟩
  obtain ⟨X, hX⟩ : ∃ X, X = (w1.alloc (.cells #[S [1, 65, 0], .int .u16 1, .int .u16 1] 25)).alloc (.cells #[S [1, 97, 0], .int .u16 1, .int .u16 1, .int .u32 7, S [10, 0, 0, 1]] 28) := ⟨_, rfl⟩
  have hwX : Ext w X := by rw [hX]; exact (hE1.alloc _).alloc _
  have hX1 : X.heap[g1]? = some (.cells #[S [1, 65, 0], .int .u16 1, .int .u16 1] 25) := by
    rw [hX, hg1]; exact (heap_alloc_old _ _ (by simp)).trans (heap_alloc_new _ _)
  have hX2 : X.heap[g1 + 1]? = some (.cells #[S [1, 97, 0], .int .u16 1, .int .u16 1, .int .u32 7, S [10, 0, 0, 1]] 28) := by rw [hX]; exact heap_new_at _ _ _ (by rw [hg1]; simp)
  have hz1 := (Array.getElem?_eq_some_iff.1 hX1).1
  have hz2 := (Array.getElem?_eq_some_iff.1 hX2).1
  have H1 := Lib.hid (fun V (hV : Ext X V) => (hV.block g1 hz1).trans hX1)
  have H2 := Lib.hid (fun V (hV : Ext X V) => (hV.block (g1 + 1) hz2).trans hX2)
  rw [← hX, ← hg1]
  have c0 : X.cell? ⟨g1 + 1, 0, none⟩ = some (S [1, 97, 0]) := by simp [World.cell?, hX2]
  have c1 : X.cell? ⟨g1 + 1, 1, none⟩ = some (.int .u16 1) := by simp [World.cell?, hX2]
  have c2 : X.cell? ⟨g1 + 1, 2, none⟩ = some (.int .u16 1) := by simp [World.cell?, hX2]
  have c3 : X.cell? ⟨g1 + 1, 3, none⟩ = some (.int .u32 7) := by simp [World.cell?, hX2]
  have c4 : X.cell? ⟨g1 + 1, 4, none⟩ = some (S [10, 0, 0, 1]) := by simp [World.cell?, hX2]
  have hgX := hg.ext hwX
  clear hX hg1 hX1 hX2 hE1
  go_cut [3, 4] (fun s3 s4 wx => ∃ g3 g4 : Nat, s3 = .pointer (some ⟨g3, 0, none⟩) ∧ s4 = .pointer (some ⟨g4, 0, none⟩) ∧ wx.heap[g3]? = some (.cells #[S [1, 97, 0], .int .u16 1, .int .u16 1, .int .u32 7, S [10, 0, 0, 1]] 28) ∧ wx.heap[g4]? = some (.cells #[S [1, 97, 0], .int .u16 1, .int .u16 1, .int .u32 7, S [10, 0, 0, 1]] 28) ∧ g3 ≠ g4 ∧ X.heap.size ≤ g3 ∧ X.heap.size ≤ g4 ∧ Ext X wx)
  case first =>
    go_region
    all_goals
      go_wp2_with fail
      go_meet
    · exact ⟨X.heap.size, X.heap.size + 1, rfl, rfl, heap_alloc2_old X _ _, heap_alloc2_new X _ _, by omega, by omega, by omega, (((Ext.refl X).alloc _).alloc _).drew⟩
    · exact ⟨X.heap.size + 1, X.heap.size, rfl, rfl, heap_alloc2_new X _ _, heap_alloc2_old X _ _, by omega, by omega, by omega, (((Ext.refl X).alloc _).alloc _).drew⟩
  case rest =>
  obtain ⟨g3, g4, rfl, rfl, hY3, hY4, h34, hl3, hl4, hXY⟩ := hcut
  obtain ⟨Y, rfl⟩ : ∃ Y : World, Y = wc := ⟨_, rfl⟩
  clear c0 c1 c2 c3 c4
  have hz3 := (Array.getElem?_eq_some_iff.1 hY3).1
  have hz4 := (Array.getElem?_eq_some_iff.1 hY4).1
  have y33 : Y.cell? ⟨g3, 3, none⟩ = some (.int .u32 7) := cell_of_row Y g3 3 _ _ _ hY3
  have y34 : Y.cell? ⟨g3, 4, none⟩ = some (S [10, 0, 0, 1]) := cell_of_row Y g3 4 _ _ _ hY3
  have y43 : Y.cell? ⟨g4, 3, none⟩ = some (.int .u32 7) := cell_of_row Y g4 3 _ _ _ hY4
  have f33 : Y.frozen? ⟨g3, 3, none⟩ = false := frozen_of_row Y g3 3 _ _ hY3
  have f34 : Y.frozen? ⟨g3, 4, none⟩ = false := frozen_of_row Y g3 4 _ _ hY3
  have f43 : Y.frozen? ⟨g4, 3, none⟩ = false := frozen_of_row Y g4 3 _ _ hY4
  have h43 : g4 ≠ g3 := fun e => h34 e.symm
  have hne1 : (⟨g3, 4, none⟩ : Addr) ≠ ⟨g3, 3, none⟩ := by intro e; injection e with _ e _; omega
  have hne2 : (⟨g4, 3, none⟩ : Addr) ≠ ⟨g3, 3, none⟩ := by intro e; injection e with e _ _; omega
  have hne3 : (⟨g4, 3, none⟩ : Addr) ≠ ⟨g3, 4, none⟩ := by intro e; injection e with e _ _; omega
  go_upto_region 8 with fail
  obtain ⟨Y1, hY1⟩ : ∃ Y1, Y1 = ((Y.setCell ⟨g3, 3, none⟩ (.int .u32 2147483647)).setCell ⟨g3, 4, none⟩ (.string ⟨#[10, 0, 0, 2]⟩)).setCell ⟨g4, 3, none⟩ (.int .u32 2147483648) := ⟨_, rfl⟩
  have hXY1 : Ext X Y1 := by rw [hY1]; exact ((hXY.setCell hl3 _).setCell hl3 _).setCell hl4 _
  have r3 : Y1.heap[g3]? = some (.cells #[S [1, 97, 0], .int .u16 1, .int .u16 1, .int .u32 2147483647, S [10, 0, 0, 2]] 28) := by rw [hY1]; exact heap_off (heap_set (heap_set hY3 3 _) 4 _) 3 _ h34
  have r4 : Y1.heap[g4]? = some (.cells #[S [1, 97, 0], .int .u16 1, .int .u16 1, .int .u32 2147483648, S [10, 0, 0, 1]] 28) := by rw [hY1]; exact heap_set (heap_off (heap_off hY4 3 _ h43) 4 _ h43) 3 _
  have zy3 := (Array.getElem?_eq_some_iff.1 r3).1
  have zy4 := (Array.getElem?_eq_some_iff.1 r4).1
  have H3 := Lib.hid (fun V (hV : Ext Y1 V) => (hV.block g3 zy3).trans r3)
  have H4 := Lib.hid (fun V (hV : Ext Y1 V) => (hV.block g4 zy4).trans r4)
  rw [← hY1]
  clear hY1 r3 r4 y33 y34 y43 f33 f34 f43 hY3 hY4 hz3 hz4 hne1 hne2 hne3 hl3 hl4 hXY
  have hgY1 := hgX.ext hXY1
  go_upto_region 11 with (refine wpList_load_rowG (by rfl) 28 (.tmp 2) rfl (g1 + 1) rfl 28 _ _ _ (H2.out _ (hXY1.alloc _)) Tryz.underlying28 rfl (by kernel_rfl) ?_)
  obtain ⟨Y2, hY2⟩ : ∃ Y2, Y2 = (Y1.alloc (.cells #[S [1, 97, 0], .int .u16 5, .int .u16 1, .int .u32 4, S [1, 97, 0]] 28)).alloc (.cells #[S [1, 98, 0], .int .u16 1, .int .u16 1, .int .u32 7, S [10, 0, 0, 1]] 28) := ⟨_, rfl⟩
  obtain ⟨g5, hg5⟩ : ∃ g5, g5 = Y1.heap.size := ⟨_, rfl⟩
  have hY12 : Ext Y1 Y2 := by rw [hY2]; exact ((Ext.refl _).alloc _).alloc _
  have r5 : Y2.heap[g5]? = some (.cells #[S [1, 97, 0], .int .u16 5, .int .u16 1, .int .u32 4, S [1, 97, 0]] 28) := by rw [hY2, hg5]; exact heap_alloc2_old Y1 _ _
  have r6 : Y2.heap[g5 + 1]? = some (.cells #[S [1, 98, 0], .int .u16 1, .int .u16 1, .int .u32 7, S [10, 0, 0, 1]] 28) := by rw [hY2, hg5]; exact heap_alloc2_new Y1 _ _
  have zy5 := (Array.getElem?_eq_some_iff.1 r5).1
  have zy6 := (Array.getElem?_eq_some_iff.1 r6).1
  have H5 := Lib.hid (fun V (hV : Ext Y2 V) => (hV.block g5 zy5).trans r5)
  have H6 := Lib.hid (fun V (hV : Ext Y2 V) => (hV.block (g5 + 1) zy6).trans r6)
  rw [← hY2, ← hg5]
  clear hY2 hg5 r5 r6
  have hwY2 : Ext w Y2 := (hwX.trans hXY1).trans hY12
  have hlz : (9 : Int) = (((9 : UInt8)).toNat : Int) := by decide
  have HZ := Lib.hid (fun W => law11_zone [0] 9 9 9 hlz W)
  have HZb := Lib.hid (fun W => law11_zone [1, 98, 0] 9 9 9 hlz W)
  have HZa := Lib.hid (fun W => law11_zone [1, 97, 0] 5 9 9 hlz W)
  clear hlz
  go_wp2_with fail
  refine (HZ.out _).mono ?_; rintro e wa ⟨rfl, hEa⟩
  go_wp2_with fail
  refine (HZ.out _).mono ?_; rintro e wb ⟨rfl, hEb⟩
  have hY2b : Ext Y2 wb := hEa.trans hEb
  have H1b := Lib.hid (fun V (hV : Ext wb V) => H1.out V (hXY1.trans ((hY12.trans hY2b).trans hV)))
  have H2b := Lib.hid (fun V (hV : Ext wb V) => H2.out V (hXY1.trans ((hY12.trans hY2b).trans hV)))
  have H3b := Lib.hid (fun V (hV : Ext wb V) => H3.out V ((hY12.trans hY2b).trans hV))
  have H4b := Lib.hid (fun V (hV : Ext wb V) => H4.out V ((hY12.trans hY2b).trans hV))
  have H5b := Lib.hid (fun V (hV : Ext wb V) => H5.out V (hY2b.trans hV))
  have H6b := Lib.hid (fun V (hV : Ext wb V) => H6.out V (hY2b.trans hV))
  clear H1 H2 H3 H4 H5 H6 hEa hEb
  have hzl : (zoneD 9).length = 22 := rfl
  have hzq : ¬ ((9223372036854775807 : Nat) < 2 + (zoneD 9).length) := by omega
  clear hzl
  obtain ⟨g7, hg7⟩ : ∃ g7, g7 = wb.heap.size := ⟨_, rfl⟩
  go_upto_region 13 with fail
  obtain ⟨Xb, hXb0⟩ : ∃ Xb : World, Xb = wb.alloc (.cells ([nZ, nY].flatMap recCells).toArray 28) := ⟨_, rfl⟩
  have hXb : Ext wb Xb := by rw [hXb0]; exact (Ext.refl _).alloc _
  have hR2 : Recs Xb 0 (.slice (some ⟨g7, 0, none⟩) 2 2) [nZ, nY] := by rw [hXb0]; exact recs_lit wb g7 0 hg7 (Nat.le_refl 0) [nZ, nY] (by decide)
  have hT2 := Lib.hid (fun V (hV : Ext Xb V) => hR2.ext hV)
  have hT1 := Lib.hid (fun V (hV : Ext Xb V) => (show Recs V 0 (.slice (some ⟨g7, 0, none⟩) 1 2) [nZ] from by
    obtain ⟨A, c, e, h1, h2, hl, hr⟩ := hR2.ext hV
    injection e with e1 e2 e3
    subst e1
    obtain ⟨b, off, e4, h3, h4, h5⟩ := hr (by decide)
    refine ⟨_, 2, rfl, by decide, by unfold maxLen; decide, rfl, fun _ => ⟨b, off, e4, h3, h4, fun j u hu => h5 j u ?_⟩⟩
    have hj := (List.getElem?_eq_some_iff.1 hu).1
    have e5 : ([nZ, nY] : List RecD).flatMap recCells = [nZ].flatMap recCells ++ [nY].flatMap recCells := rfl
    rw [e5, List.getElem?_append_left hj]
    exact hu))
  have hzz : wb.alloc (.cells #[S [0], .int .u16 6, .int .u16 1, .int .u32 9, S (zoneD 9), S [0], .int .u16 6, .int .u16 1, .int .u32 9, S (1 :: 120 :: zoneD 9)] 28) = Xb := by rw [hXb0]; rfl
  rw [hzz]
  (try rw [← hg7])
  clear hzz hR2 hg7
  go_cut [117, 118, 119] (fun s117 s118 s119 wx => ∃ g : Nat, s117 = .slice (some ⟨g, 0, none⟩) 14 14 ∧ s118 = .int .i64 14 ∧ s119 = .int .i64 0 ∧ TabN wx g ∧ g < wx.heap.size ∧ Ext Xb wx)
  case first =>
    refine wp_region_noPanic ?_
    refine wp_region_tree (S := fun V => Ext Xb V) (takesOf [0, 4, 5, 6, 10, 14, 15, 19, 20, 24, 25, 29, 32, 36, 37, 41, 44, 46, 49, 50, 51, 58, 60, 62, 69] (.any 45 #[true, false, false, false, true, true, true, false, false, false, true, false, false, false, true, true, false, false, false, true, true, false, false, false, true, true, false, false, false, true, false, false, true, false, false, false, true, true, false, false, false, true, false, false, true, false, true, false, false, true, true, true, false, false, false, false, false, false, true, false, true, false, true, false, false, false, false, false, false, true])) (by kernel_rfl) (by rw [Bool.and_eq_true]; refine ⟨by kernel_rfl, ?_⟩; refine okT_takes [0, 4, 5, 6, 10, 14] _ _ 64 _ #[true, false, false, false, true, true, true, false, false, false, true, false, false, false, true, false, false, false, false, false, false, false, false, false, false, false, false, false, false, false, false, false, false, false, false, false, false, false, false, false, false, false, false, false, false, false, false, false, false, false, false, false, false, false, false, false, false, false, false, false, false, false, false, false, false, false, false, false, false, false] (by as_aux_lemma => kernel_rfl) (by kernel_rfl) (by kernel_rfl) ?_; refine okT_takes [15, 19, 20, 24, 25, 29] _ _ 58 _ #[true, false, false, false, true, true, true, false, false, false, true, false, false, false, true, true, false, false, false, true, true, false, false, false, true, true, false, false, false, true, false, false, false, false, false, false, false, false, false, false, false, false, false, false, false, false, false, false, false, false, false, false, false, false, false, false, false, false, false, false, false, false, false, false, false, false, false, false, false, false] (by as_aux_lemma => kernel_rfl) (by kernel_rfl) (by kernel_rfl) ?_; refine okT_takes [32, 36, 37, 41, 44, 46] _ _ 52 _ #[true, false, false, false, true, true, true, false, false, false, true, false, false, false, true, true, false, false, false, true, true, false, false, false, true, true, false, false, false, true, false, false, true, false, false, false, true, true, false, false, false, true, false, false, true, false, true, false, false, false, false, false, false, false, false, false, false, false, false, false, false, false, false, false, false, false, false, false, false, false] (by as_aux_lemma => kernel_rfl) (by kernel_rfl) (by kernel_rfl) ?_; refine okT_takes [49, 50, 51, 58, 60, 62] _ _ 46 _ #[true, false, false, false, true, true, true, false, false, false, true, false, false, false, true, true, false, false, false, true, true, false, false, false, true, true, false, false, false, true, false, false, true, false, false, false, true, true, false, false, false, true, false, false, true, false, true, false, false, true, true, true, false, false, false, false, false, false, true, false, true, false, true, false, false, false, false, false, false, false] (by as_aux_lemma => kernel_rfl) (by kernel_rfl) (by kernel_rfl) ?_; refine okT_takes [69] _ _ 45 _ #[true, false, false, false, true, true, true, false, false, false, true, false, false, false, true, true, false, false, false, true, true, false, false, false, true, true, false, false, false, true, false, false, true, false, false, false, true, true, false, false, false, true, false, false, true, false, true, false, false, true, true, true, false, false, false, false, false, false, true, false, true, false, true, false, false, false, false, false, false, true] (by as_aux_lemma => kernel_rfl) (by kernel_rfl) (by kernel_rfl) ?_; as_aux_lemma => kernel_rfl) (fun _ _ _ _ _ h => h) ((Ext.refl Xb).drew) ?_
    refine treeTakesV (a' := ?_) ⟨_, ((Ext.refl Xb).drew)⟩ [0, 4, 5, 6, 10, 14, 15, 19, 20, 24, 25, 29, 32, 36, 37, 41, 44, 46, 49, 50, 51, 58, 60, 62, 69] (by kernel_rfl) ?_ ?_
    rotate_left
    · intro V hV
      repeat (refine wpV_cons (x := ?_) (by rfl) rfl (by kernel_rfl) rfl ?_ ?_; rotate_left; (focus (intro Q' hq; (repeat (first | (refine wpList_load_rowG (by rfl) 28 _ rfl _ rfl 28 _ _ _ (H2b.out _ (hXb.trans hV)) Tryz.underlying28 rfl (by kernel_rfl) ?_) | (refine wpList_load_rowG (by rfl) 28 _ rfl _ rfl 28 _ _ _ (H3b.out _ (hXb.trans hV)) Tryz.underlying28 rfl (by kernel_rfl) ?_) | (refine wpList_load_rowG (by rfl) 28 _ rfl _ rfl 28 _ _ _ (H4b.out _ (hXb.trans hV)) Tryz.underlying28 rfl (by kernel_rfl) ?_) | (refine wpList_load_rowG (by rfl) 28 _ rfl _ rfl 28 _ _ _ (H5b.out _ (hXb.trans hV)) Tryz.underlying28 rfl (by kernel_rfl) ?_) | (refine wpList_load_rowG (by rfl) 28 _ rfl _ rfl 28 _ _ _ (H6b.out _ (hXb.trans hV)) Tryz.underlying28 rfl (by kernel_rfl) ?_) | go_guarded | go_skip | go_step)); (first | exact hq | exact wpList_nil hq))))
      exact wpV_nil
    refine treeAny ?_
    refine invStart (R := fun V V' => Ext V V') (F := fun i v V => (kindN i).ok v V) (js := [(1, 51), (2, 52), (3, 53), (7, 57), (8, 58), (9, 59), (11, 61), (12, 62), (13, 63), (16, 66), (17, 67), (18, 68), (21, 71), (22, 72), (23, 73), (26, 76), (27, 77), (28, 78), (30, 80), (31, 81), (33, 83), (34, 84), (35, 85), (38, 88), (39, 89), (40, 90), (42, 92), (43, 93), (45, 95), (47, 97), (48, 98), (52, 102), (53, 103), (54, 104), (55, 105), (56, 106), (57, 107), (59, 109), (61, 111), (63, 113), (64, 114), (65, 115), (66, 116), (67, 117), (68, 118)]) (by kernel_rfl) (by kernel_rfl) (fun V V' h1 h2 => h1.trans h2) (fun i v V V' _ hE h => FK.mono hE h) ((Ext.refl Xb).drew) (fun mk hmk0 => ?_)
    have hmk : ∀ xs, mk xs = putXs [(1, 51), (2, 52), (3, 53), (7, 57), (8, 58), (9, 59), (11, 61), (12, 62), (13, 63), (16, 66), (17, 67), (18, 68), (21, 71), (22, 72), (23, 73), (26, 76), (27, 77), (28, 78), (30, 80), (31, 81), (33, 83), (34, 84), (35, 85), (38, 88), (39, 89), (40, 90), (42, 92), (43, 93), (45, 95), (47, 97), (48, 98), (52, 102), (53, 103), (54, 104), (55, 105), (56, 106), (57, 107), (59, 109), (61, 111), (63, 113), (64, 114), (65, 115), (66, 116), (67, 117), (68, 118)] _ xs := fun xs => by rw [hmk0]
    simp only [putXs, Act.put, List.setIfInBounds_toArray, List.set_cons_zero, List.set_cons_succ] at hmk
    refine ⟨⟨?_, ?_, ?_, ?_, ?_, ?_, ?_, ?_, ?_, ?_, ?_, ?_, ?_, ?_, ?_, ?_, ?_, ?_, ?_, ?_, ?_, ?_, ?_, ?_, ?_, ?_, ?_, ?_, ?_, ?_, ?_, ?_, ?_, ?_, ?_, ?_, ?_, ?_, ?_, ?_, ?_, ?_, ?_, ?_, ?_, trivial⟩, ?_⟩
    · refine stepI hmk0 (by rfl) rfl (by as_aux_lemma => kernel_rfl) ?_
      intro xs V Q' hS hf hq hP
      rw [hmk xs] at hq ⊢
      simp only [Act.put, List.setIfInBounds_toArray, List.set_cons_zero, List.set_cons_succ] at hq
      clear hf hP
      (repeat (first | go_guarded | go_step))
      (try with_reducible refine wpList_nil ?_)
      refine hq.out _ _ ((Ext.refl V).alloc _) ?_
      exact recs_lit V V.heap.size 0 rfl (Nat.le_refl 0) [nA] (by decide)
    · refine stepI hmk0 (by rfl) rfl (by as_aux_lemma => kernel_rfl) ?_
      intro xs V Q' hS hf hq hP
      have f1 : Recs V 0 (xs 1) [nA] := hf 1 (by as_aux_lemma => kernel_rfl)
      rw [hmk xs] at hq ⊢
      simp only [Act.put, List.setIfInBounds_toArray, List.set_cons_zero, List.set_cons_succ] at hq
      clear hf hP
      generalize xs 1 = y1 at *
      obtain ⟨A1, c1, e1, -⟩ := id f1
      replace e1 : y1 = .slice A1 1 c1 := e1
      subst e1
      refine wpList_buildN rfl 38 _ rfl [(2, .slice A1 1 c1)] (by simp only [List.map_toArray, List.map_cons, List.map_nil]; rfl) (msgC 0 (.slice A1 1 c1) (.slice none 0 0) (.slice none 0 0)).toArray (builtM2 _ _ _) (some 52) rfl ?_
      (try with_reducible refine wpList_nil ?_)
      refine hq.out _ _ (Ext.refl V) ?_
      exact ⟨_, _, _, rfl, f1, (recs_none V), (recs_none V)⟩
    · refine stepI hmk0 (by rfl) rfl (by as_aux_lemma => kernel_rfl) ?_
      intro xs V Q' hS hf hq hP
      have f2 : ∃ a u x, (xs 2) = .agg #[.int .u16 0, .bool false, .int .u8 0, .bool false, .bool false, .bool false, .bool false, .bool false, .bool false, .bool false, .int .u8 0, .slice none 0 0, a, u, x, .bool false, .int .u16 0, .int .u8 0, .int .u8 0, .int .u16 0, .slice none 0 0] ∧ Recs V 0 a [nA] ∧ Recs V 0 u [] ∧ Recs V 0 x [] := hf 2 (by as_aux_lemma => kernel_rfl)
      rw [hmk xs] at hq ⊢
      simp only [Act.put, List.setIfInBounds_toArray, List.set_cons_zero, List.set_cons_succ] at hq
      clear hf hP
      generalize xs 2 = y2 at *
      obtain ⟨a2, u2, x2, e2, q2⟩ := f2
      subst e2
      refine wpList_buildN rfl 40 _ rfl [(0, .agg (msgC 0 a2 u2 x2).toArray), (1, .int .i64 1), (2, .int .u32 7), (3, .int .i64 0)] (by simp only [List.map_toArray, List.map_cons, List.map_nil]; rfl) (rowC 0 a2 u2 x2 1 7 0).toArray (built40 _ _ _ _ _ _ _) (some 53) rfl ?_
      (try with_reducible refine wpList_nil ?_)
      refine hq.out _ _ (Ext.refl V) ?_
      exact ⟨a2, u2, x2, rfl, q2⟩
    · refine stepI hmk0 (by rfl) rfl (by as_aux_lemma => kernel_rfl) ?_
      intro xs V Q' hS hf hq hP
      rw [hmk xs] at hq ⊢
      simp only [Act.put, List.setIfInBounds_toArray, List.set_cons_zero, List.set_cons_succ] at hq
      clear hf hP
      (repeat (first | go_guarded | go_step))
      (try with_reducible refine wpList_nil ?_)
      refine hq.out _ _ ((Ext.refl V).alloc _) ?_
      exact recs_lit V V.heap.size 0 rfl (Nat.le_refl 0) [nA, nF, nO] (by decide)
    · refine stepI hmk0 (by rfl) rfl (by as_aux_lemma => kernel_rfl) ?_
      intro xs V Q' hS hf hq hP
      have f7 : Recs V 0 (xs 7) [nA, nF, nO] := hf 7 (by as_aux_lemma => kernel_rfl)
      rw [hmk xs] at hq ⊢
      simp only [Act.put, List.setIfInBounds_toArray, List.set_cons_zero, List.set_cons_succ] at hq
      clear hf hP
      generalize xs 7 = y7 at *
      obtain ⟨A7, c7, e7, -⟩ := id f7
      replace e7 : y7 = .slice A7 3 c7 := e7
      subst e7
      refine wpList_buildN rfl 38 _ rfl [(2, .slice A7 3 c7)] (by simp only [List.map_toArray, List.map_cons, List.map_nil]; rfl) (msgC 0 (.slice A7 3 c7) (.slice none 0 0) (.slice none 0 0)).toArray (builtM2 _ _ _) (some 58) rfl ?_
      (try with_reducible refine wpList_nil ?_)
      refine hq.out _ _ (Ext.refl V) ?_
      exact ⟨_, _, _, rfl, f7, (recs_none V), (recs_none V)⟩
    · refine stepI hmk0 (by rfl) rfl (by as_aux_lemma => kernel_rfl) ?_
      intro xs V Q' hS hf hq hP
      have f8 : ∃ a u x, (xs 8) = .agg #[.int .u16 0, .bool false, .int .u8 0, .bool false, .bool false, .bool false, .bool false, .bool false, .bool false, .bool false, .int .u8 0, .slice none 0 0, a, u, x, .bool false, .int .u16 0, .int .u8 0, .int .u8 0, .int .u16 0, .slice none 0 0] ∧ Recs V 0 a [nA, nF, nO] ∧ Recs V 0 u [] ∧ Recs V 0 x [] := hf 8 (by as_aux_lemma => kernel_rfl)
      rw [hmk xs] at hq ⊢
      simp only [Act.put, List.setIfInBounds_toArray, List.set_cons_zero, List.set_cons_succ] at hq
      clear hf hP
      generalize xs 8 = y8 at *
      obtain ⟨a8, u8, x8, e8, q8⟩ := f8
      subst e8
      refine wpList_buildN rfl 40 _ rfl [(0, .agg (msgC 0 a8 u8 x8).toArray), (1, .int .i64 1), (2, .int .u32 7), (3, .int .i64 0)] (by simp only [List.map_toArray, List.map_cons, List.map_nil]; rfl) (rowC 0 a8 u8 x8 1 7 0).toArray (built40 _ _ _ _ _ _ _) (some 59) rfl ?_
      (try with_reducible refine wpList_nil ?_)
      refine hq.out _ _ (Ext.refl V) ?_
      exact ⟨a8, u8, x8, rfl, q8⟩
    · refine stepI hmk0 (by rfl) rfl (by as_aux_lemma => kernel_rfl) ?_
      intro xs V Q' hS hf hq hP
      rw [hmk xs] at hq ⊢
      simp only [Act.put, List.setIfInBounds_toArray, List.set_cons_zero, List.set_cons_succ] at hq
      clear hf hP
      (repeat (first | go_guarded | go_step))
      (try with_reducible refine wpList_nil ?_)
      refine hq.out _ _ ((Ext.refl V).alloc _) ?_
      exact recs_lit V V.heap.size 0 rfl (Nat.le_refl 0) [nF] (by decide)
    · refine stepI hmk0 (by rfl) rfl (by as_aux_lemma => kernel_rfl) ?_
      intro xs V Q' hS hf hq hP
      have f11 : Recs V 0 (xs 11) [nF] := hf 11 (by as_aux_lemma => kernel_rfl)
      rw [hmk xs] at hq ⊢
      simp only [Act.put, List.setIfInBounds_toArray, List.set_cons_zero, List.set_cons_succ] at hq
      clear hf hP
      generalize xs 11 = y11 at *
      obtain ⟨A11, c11, e11, -⟩ := id f11
      replace e11 : y11 = .slice A11 1 c11 := e11
      subst e11
      refine wpList_buildN rfl 38 _ rfl [(2, .slice A11 1 c11)] (by simp only [List.map_toArray, List.map_cons, List.map_nil]; rfl) (msgC 0 (.slice A11 1 c11) (.slice none 0 0) (.slice none 0 0)).toArray (builtM2 _ _ _) (some 62) rfl ?_
      (try with_reducible refine wpList_nil ?_)
      refine hq.out _ _ (Ext.refl V) ?_
      exact ⟨_, _, _, rfl, f11, (recs_none V), (recs_none V)⟩
    · refine stepI hmk0 (by rfl) rfl (by as_aux_lemma => kernel_rfl) ?_
      intro xs V Q' hS hf hq hP
      have f12 : ∃ a u x, (xs 12) = .agg #[.int .u16 0, .bool false, .int .u8 0, .bool false, .bool false, .bool false, .bool false, .bool false, .bool false, .bool false, .int .u8 0, .slice none 0 0, a, u, x, .bool false, .int .u16 0, .int .u8 0, .int .u8 0, .int .u16 0, .slice none 0 0] ∧ Recs V 0 a [nF] ∧ Recs V 0 u [] ∧ Recs V 0 x [] := hf 12 (by as_aux_lemma => kernel_rfl)
      rw [hmk xs] at hq ⊢
      simp only [Act.put, List.setIfInBounds_toArray, List.set_cons_zero, List.set_cons_succ] at hq
      clear hf hP
      generalize xs 12 = y12 at *
      obtain ⟨a12, u12, x12, e12, q12⟩ := f12
      subst e12
      refine wpList_buildN rfl 40 _ rfl [(0, .agg (msgC 0 a12 u12 x12).toArray), (1, .int .i64 1), (2, .int .u32 2147483647), (3, .int .i64 0)] (by simp only [List.map_toArray, List.map_cons, List.map_nil]; rfl) (rowC 0 a12 u12 x12 1 2147483647 0).toArray (built40 _ _ _ _ _ _ _) (some 63) rfl ?_
      (try with_reducible refine wpList_nil ?_)
      refine hq.out _ _ (Ext.refl V) ?_
      exact ⟨a12, u12, x12, rfl, q12⟩
    · refine stepI hmk0 (by rfl) rfl (by as_aux_lemma => kernel_rfl) ?_
      intro xs V Q' hS hf hq hP
      rw [hmk xs] at hq ⊢
      simp only [Act.put, List.setIfInBounds_toArray, List.set_cons_zero, List.set_cons_succ] at hq
      clear hf hP
      (repeat (first | go_guarded | go_step))
      (try with_reducible refine wpList_nil ?_)
      refine hq.out _ _ ((Ext.refl V).alloc _) ?_
      exact recs_lit V V.heap.size 0 rfl (Nat.le_refl 0) [nA, nG] (by decide)
    · refine stepI hmk0 (by rfl) rfl (by as_aux_lemma => kernel_rfl) ?_
      intro xs V Q' hS hf hq hP
      have f16 : Recs V 0 (xs 16) [nA, nG] := hf 16 (by as_aux_lemma => kernel_rfl)
      rw [hmk xs] at hq ⊢
      simp only [Act.put, List.setIfInBounds_toArray, List.set_cons_zero, List.set_cons_succ] at hq
      clear hf hP
      generalize xs 16 = y16 at *
      obtain ⟨A16, c16, e16, -⟩ := id f16
      replace e16 : y16 = .slice A16 2 c16 := e16
      subst e16
      refine wpList_buildN rfl 38 _ rfl [(2, .slice A16 2 c16)] (by simp only [List.map_toArray, List.map_cons, List.map_nil]; rfl) (msgC 0 (.slice A16 2 c16) (.slice none 0 0) (.slice none 0 0)).toArray (builtM2 _ _ _) (some 67) rfl ?_
      (try with_reducible refine wpList_nil ?_)
      refine hq.out _ _ (Ext.refl V) ?_
      exact ⟨_, _, _, rfl, f16, (recs_none V), (recs_none V)⟩
    · refine stepI hmk0 (by rfl) rfl (by as_aux_lemma => kernel_rfl) ?_
      intro xs V Q' hS hf hq hP
      have f17 : ∃ a u x, (xs 17) = .agg #[.int .u16 0, .bool false, .int .u8 0, .bool false, .bool false, .bool false, .bool false, .bool false, .bool false, .bool false, .int .u8 0, .slice none 0 0, a, u, x, .bool false, .int .u16 0, .int .u8 0, .int .u8 0, .int .u16 0, .slice none 0 0] ∧ Recs V 0 a [nA, nG] ∧ Recs V 0 u [] ∧ Recs V 0 x [] := hf 17 (by as_aux_lemma => kernel_rfl)
      rw [hmk xs] at hq ⊢
      simp only [Act.put, List.setIfInBounds_toArray, List.set_cons_zero, List.set_cons_succ] at hq
      clear hf hP
      generalize xs 17 = y17 at *
      obtain ⟨a17, u17, x17, e17, q17⟩ := f17
      subst e17
      refine wpList_buildN rfl 40 _ rfl [(0, .agg (msgC 0 a17 u17 x17).toArray), (1, .int .i64 1), (2, .int .u32 0), (3, .int .i64 0)] (by simp only [List.map_toArray, List.map_cons, List.map_nil]; rfl) (rowC 0 a17 u17 x17 1 0 0).toArray (built40 _ _ _ _ _ _ _) (some 68) rfl ?_
      (try with_reducible refine wpList_nil ?_)
      refine hq.out _ _ (Ext.refl V) ?_
      exact ⟨a17, u17, x17, rfl, q17⟩
    · refine stepI hmk0 (by rfl) rfl (by as_aux_lemma => kernel_rfl) ?_
      intro xs V Q' hS hf hq hP
      rw [hmk xs] at hq ⊢
      simp only [Act.put, List.setIfInBounds_toArray, List.set_cons_zero, List.set_cons_succ] at hq
      clear hf hP
      (repeat (first | go_guarded | go_step))
      (try with_reducible refine wpList_nil ?_)
      refine hq.out _ _ ((Ext.refl V).alloc _) ?_
      exact recs_lit V V.heap.size 0 rfl (Nat.le_refl 0) [nA] (by decide)
    · refine stepI hmk0 (by rfl) rfl (by as_aux_lemma => kernel_rfl) ?_
      intro xs V Q' hS hf hq hP
      have f21 : Recs V 0 (xs 21) [nA] := hf 21 (by as_aux_lemma => kernel_rfl)
      rw [hmk xs] at hq ⊢
      simp only [Act.put, List.setIfInBounds_toArray, List.set_cons_zero, List.set_cons_succ] at hq
      clear hf hP
      generalize xs 21 = y21 at *
      obtain ⟨A21, c21, e21, -⟩ := id f21
      replace e21 : y21 = .slice A21 1 c21 := e21
      subst e21
      refine wpList_buildN rfl 38 _ rfl [(0, .agg #[.int .u16 0, .bool false, .int .u8 0, .bool false, .bool false, .bool false, .bool false, .bool false, .bool false, .bool false, .int .u8 3]), (2, .slice A21 1 c21)] (by simp only [List.map_toArray, List.map_cons, List.map_nil]; rfl) (msgC 3 (.slice A21 1 c21) (.slice none 0 0) (.slice none 0 0)).toArray (builtM02 _ _ _ _) (some 72) rfl ?_
      (try with_reducible refine wpList_nil ?_)
      refine hq.out _ _ (Ext.refl V) ?_
      exact ⟨_, _, _, rfl, f21, (recs_none V), (recs_none V)⟩
    · refine stepI hmk0 (by rfl) rfl (by as_aux_lemma => kernel_rfl) ?_
      intro xs V Q' hS hf hq hP
      have f22 : ∃ a u x, (xs 22) = .agg #[.int .u16 0, .bool false, .int .u8 0, .bool false, .bool false, .bool false, .bool false, .bool false, .bool false, .bool false, .int .u8 3, .slice none 0 0, a, u, x, .bool false, .int .u16 0, .int .u8 0, .int .u8 0, .int .u16 0, .slice none 0 0] ∧ Recs V 0 a [nA] ∧ Recs V 0 u [] ∧ Recs V 0 x [] := hf 22 (by as_aux_lemma => kernel_rfl)
      rw [hmk xs] at hq ⊢
      simp only [Act.put, List.setIfInBounds_toArray, List.set_cons_zero, List.set_cons_succ] at hq
      clear hf hP
      generalize xs 22 = y22 at *
      obtain ⟨a22, u22, x22, e22, q22⟩ := f22
      subst e22
      refine wpList_buildN rfl 40 _ rfl [(0, .agg (msgC 3 a22 u22 x22).toArray), (1, .int .i64 0), (2, .int .u32 0), (3, .int .i64 3)] (by simp only [List.map_toArray, List.map_cons, List.map_nil]; rfl) (rowC 3 a22 u22 x22 0 0 3).toArray (built40 _ _ _ _ _ _ _) (some 73) rfl ?_
      (try with_reducible refine wpList_nil ?_)
      refine hq.out _ _ (Ext.refl V) ?_
      exact ⟨a22, u22, x22, rfl, q22⟩
    · refine stepI hmk0 (by rfl) rfl (by as_aux_lemma => kernel_rfl) ?_
      intro xs V Q' hS hf hq hP
      rw [hmk xs] at hq ⊢
      simp only [Act.put, List.setIfInBounds_toArray, List.set_cons_zero, List.set_cons_succ] at hq
      clear hf hP
      (repeat (first | go_guarded | go_step))
      (try with_reducible refine wpList_nil ?_)
      refine hq.out _ _ ((Ext.refl V).alloc _) ?_
      exact recs_lit V V.heap.size 0 rfl (Nat.le_refl 0) [nA] (by decide)
    · refine stepI hmk0 (by rfl) rfl (by as_aux_lemma => kernel_rfl) ?_
      intro xs V Q' hS hf hq hP
      have f26 : Recs V 0 (xs 26) [nA] := hf 26 (by as_aux_lemma => kernel_rfl)
      rw [hmk xs] at hq ⊢
      simp only [Act.put, List.setIfInBounds_toArray, List.set_cons_zero, List.set_cons_succ] at hq
      clear hf hP
      generalize xs 26 = y26 at *
      obtain ⟨A26, c26, e26, -⟩ := id f26
      replace e26 : y26 = .slice A26 1 c26 := e26
      subst e26
      refine wpList_buildN rfl 38 _ rfl [(0, .agg #[.int .u16 0, .bool false, .int .u8 0, .bool false, .bool false, .bool false, .bool false, .bool false, .bool false, .bool false, .int .u8 2]), (2, .slice A26 1 c26)] (by simp only [List.map_toArray, List.map_cons, List.map_nil]; rfl) (msgC 2 (.slice A26 1 c26) (.slice none 0 0) (.slice none 0 0)).toArray (builtM02 _ _ _ _) (some 77) rfl ?_
      (try with_reducible refine wpList_nil ?_)
      refine hq.out _ _ (Ext.refl V) ?_
      exact ⟨_, _, _, rfl, f26, (recs_none V), (recs_none V)⟩
    · refine stepI hmk0 (by rfl) rfl (by as_aux_lemma => kernel_rfl) ?_
      intro xs V Q' hS hf hq hP
      have f27 : ∃ a u x, (xs 27) = .agg #[.int .u16 0, .bool false, .int .u8 0, .bool false, .bool false, .bool false, .bool false, .bool false, .bool false, .bool false, .int .u8 2, .slice none 0 0, a, u, x, .bool false, .int .u16 0, .int .u8 0, .int .u8 0, .int .u16 0, .slice none 0 0] ∧ Recs V 0 a [nA] ∧ Recs V 0 u [] ∧ Recs V 0 x [] := hf 27 (by as_aux_lemma => kernel_rfl)
      rw [hmk xs] at hq ⊢
      simp only [Act.put, List.setIfInBounds_toArray, List.set_cons_zero, List.set_cons_succ] at hq
      clear hf hP
      generalize xs 27 = y27 at *
      obtain ⟨a27, u27, x27, e27, q27⟩ := f27
      subst e27
      refine wpList_buildN rfl 40 _ rfl [(0, .agg (msgC 2 a27 u27 x27).toArray), (1, .int .i64 0), (2, .int .u32 0), (3, .int .i64 1)] (by simp only [List.map_toArray, List.map_cons, List.map_nil]; rfl) (rowC 2 a27 u27 x27 0 0 1).toArray (built40 _ _ _ _ _ _ _) (some 78) rfl ?_
      (try with_reducible refine wpList_nil ?_)
      refine hq.out _ _ (Ext.refl V) ?_
      exact ⟨a27, u27, x27, rfl, q27⟩
    · refine stepI hmk0 (by rfl) rfl (by as_aux_lemma => kernel_rfl) ?_
      intro xs V Q' hS hf hq hP
      rw [hmk xs] at hq ⊢
      simp only [Act.put, List.setIfInBounds_toArray, List.set_cons_zero, List.set_cons_succ] at hq
      clear hf hP
      refine wpList_buildN rfl 38 _ rfl [(0, .agg #[.int .u16 0, .bool false, .int .u8 0, .bool false, .bool false, .bool false, .bool false, .bool false, .bool false, .bool false, .int .u8 19])] (by simp only [List.map_toArray, List.map_cons, List.map_nil]; rfl) (msgC 19 (.slice none 0 0) (.slice none 0 0) (.slice none 0 0)).toArray (builtM0 _) (some 80) rfl ?_
      (try with_reducible refine wpList_nil ?_)
      refine hq.out _ _ (Ext.refl V) ?_
      exact ⟨_, _, _, rfl, (recs_none V), (recs_none V), (recs_none V)⟩
    · refine stepI hmk0 (by rfl) rfl (by as_aux_lemma => kernel_rfl) ?_
      intro xs V Q' hS hf hq hP
      have f30 : ∃ a u x, (xs 30) = .agg #[.int .u16 0, .bool false, .int .u8 0, .bool false, .bool false, .bool false, .bool false, .bool false, .bool false, .bool false, .int .u8 19, .slice none 0 0, a, u, x, .bool false, .int .u16 0, .int .u8 0, .int .u8 0, .int .u16 0, .slice none 0 0] ∧ Recs V 0 a [] ∧ Recs V 0 u [] ∧ Recs V 0 x [] := hf 30 (by as_aux_lemma => kernel_rfl)
      rw [hmk xs] at hq ⊢
      simp only [Act.put, List.setIfInBounds_toArray, List.set_cons_zero, List.set_cons_succ] at hq
      clear hf hP
      generalize xs 30 = y30 at *
      obtain ⟨a30, u30, x30, e30, q30⟩ := f30
      subst e30
      refine wpList_buildN rfl 40 _ rfl [(0, .agg (msgC 19 a30 u30 x30).toArray), (1, .int .i64 0), (2, .int .u32 0), (3, .int .i64 1)] (by simp only [List.map_toArray, List.map_cons, List.map_nil]; rfl) (rowC 19 a30 u30 x30 0 0 1).toArray (built40 _ _ _ _ _ _ _) (some 81) rfl ?_
      (try with_reducible refine wpList_nil ?_)
      refine hq.out _ _ (Ext.refl V) ?_
      exact ⟨a30, u30, x30, rfl, q30⟩
    · refine stepI hmk0 (by rfl) rfl (by as_aux_lemma => kernel_rfl) ?_
      intro xs V Q' hS hf hq hP
      rw [hmk xs] at hq ⊢
      simp only [Act.put, List.setIfInBounds_toArray, List.set_cons_zero, List.set_cons_succ] at hq
      clear hf hP
      (repeat (first | go_guarded | go_step))
      (try with_reducible refine wpList_nil ?_)
      refine hq.out _ _ ((Ext.refl V).alloc _) ?_
      exact recs_lit V V.heap.size 0 rfl (Nat.le_refl 0) [nL] (by decide)
    · refine stepI hmk0 (by rfl) rfl (by as_aux_lemma => kernel_rfl) ?_
      intro xs V Q' hS hf hq hP
      have f33 : Recs V 0 (xs 33) [nL] := hf 33 (by as_aux_lemma => kernel_rfl)
      rw [hmk xs] at hq ⊢
      simp only [Act.put, List.setIfInBounds_toArray, List.set_cons_zero, List.set_cons_succ] at hq
      clear hf hP
      generalize xs 33 = y33 at *
      obtain ⟨A33, c33, e33, -⟩ := id f33
      replace e33 : y33 = .slice A33 1 c33 := e33
      subst e33
      refine wpList_buildN rfl 38 _ rfl [(2, .slice A33 1 c33)] (by simp only [List.map_toArray, List.map_cons, List.map_nil]; rfl) (msgC 0 (.slice A33 1 c33) (.slice none 0 0) (.slice none 0 0)).toArray (builtM2 _ _ _) (some 84) rfl ?_
      (try with_reducible refine wpList_nil ?_)
      refine hq.out _ _ (Ext.refl V) ?_
      exact ⟨_, _, _, rfl, f33, (recs_none V), (recs_none V)⟩
    · refine stepI hmk0 (by rfl) rfl (by as_aux_lemma => kernel_rfl) ?_
      intro xs V Q' hS hf hq hP
      have f34 : ∃ a u x, (xs 34) = .agg #[.int .u16 0, .bool false, .int .u8 0, .bool false, .bool false, .bool false, .bool false, .bool false, .bool false, .bool false, .int .u8 0, .slice none 0 0, a, u, x, .bool false, .int .u16 0, .int .u8 0, .int .u8 0, .int .u16 0, .slice none 0 0] ∧ Recs V 0 a [nL] ∧ Recs V 0 u [] ∧ Recs V 0 x [] := hf 34 (by as_aux_lemma => kernel_rfl)
      rw [hmk xs] at hq ⊢
      simp only [Act.put, List.setIfInBounds_toArray, List.set_cons_zero, List.set_cons_succ] at hq
      clear hf hP
      generalize xs 34 = y34 at *
      obtain ⟨a34, u34, x34, e34, q34⟩ := f34
      subst e34
      refine wpList_buildN rfl 40 _ rfl [(0, .agg (msgC 0 a34 u34 x34).toArray), (1, .int .i64 0), (2, .int .u32 0), (3, .int .i64 8)] (by simp only [List.map_toArray, List.map_cons, List.map_nil]; rfl) (rowC 0 a34 u34 x34 0 0 8).toArray (built40 _ _ _ _ _ _ _) (some 85) rfl ?_
      (try with_reducible refine wpList_nil ?_)
      refine hq.out _ _ (Ext.refl V) ?_
      exact ⟨a34, u34, x34, rfl, q34⟩
    · refine stepI hmk0 (by rfl) rfl (by as_aux_lemma => kernel_rfl) ?_
      intro xs V Q' hS hf hq hP
      rw [hmk xs] at hq ⊢
      simp only [Act.put, List.setIfInBounds_toArray, List.set_cons_zero, List.set_cons_succ] at hq
      clear hf hP
      (repeat (first | go_guarded | go_step))
      (try with_reducible refine wpList_nil ?_)
      refine hq.out _ _ ((Ext.refl V).alloc _) ?_
      exact recs_lit V V.heap.size 0 rfl (Nat.le_refl 0) [nL, nA] (by decide)
    · refine stepI hmk0 (by rfl) rfl (by as_aux_lemma => kernel_rfl) ?_
      intro xs V Q' hS hf hq hP
      have f38 : Recs V 0 (xs 38) [nL, nA] := hf 38 (by as_aux_lemma => kernel_rfl)
      rw [hmk xs] at hq ⊢
      simp only [Act.put, List.setIfInBounds_toArray, List.set_cons_zero, List.set_cons_succ] at hq
      clear hf hP
      generalize xs 38 = y38 at *
      obtain ⟨A38, c38, e38, -⟩ := id f38
      replace e38 : y38 = .slice A38 2 c38 := e38
      subst e38
      refine wpList_buildN rfl 38 _ rfl [(2, .slice A38 2 c38)] (by simp only [List.map_toArray, List.map_cons, List.map_nil]; rfl) (msgC 0 (.slice A38 2 c38) (.slice none 0 0) (.slice none 0 0)).toArray (builtM2 _ _ _) (some 89) rfl ?_
      (try with_reducible refine wpList_nil ?_)
      refine hq.out _ _ (Ext.refl V) ?_
      exact ⟨_, _, _, rfl, f38, (recs_none V), (recs_none V)⟩
    · refine stepI hmk0 (by rfl) rfl (by as_aux_lemma => kernel_rfl) ?_
      intro xs V Q' hS hf hq hP
      have f39 : ∃ a u x, (xs 39) = .agg #[.int .u16 0, .bool false, .int .u8 0, .bool false, .bool false, .bool false, .bool false, .bool false, .bool false, .bool false, .int .u8 0, .slice none 0 0, a, u, x, .bool false, .int .u16 0, .int .u8 0, .int .u8 0, .int .u16 0, .slice none 0 0] ∧ Recs V 0 a [nL, nA] ∧ Recs V 0 u [] ∧ Recs V 0 x [] := hf 39 (by as_aux_lemma => kernel_rfl)
      rw [hmk xs] at hq ⊢
      simp only [Act.put, List.setIfInBounds_toArray, List.set_cons_zero, List.set_cons_succ] at hq
      clear hf hP
      generalize xs 39 = y39 at *
      obtain ⟨a39, u39, x39, e39, q39⟩ := f39
      subst e39
      refine wpList_buildN rfl 40 _ rfl [(0, .agg (msgC 0 a39 u39 x39).toArray), (1, .int .i64 0), (2, .int .u32 0), (3, .int .i64 3)] (by simp only [List.map_toArray, List.map_cons, List.map_nil]; rfl) (rowC 0 a39 u39 x39 0 0 3).toArray (built40 _ _ _ _ _ _ _) (some 90) rfl ?_
      (try with_reducible refine wpList_nil ?_)
      refine hq.out _ _ (Ext.refl V) ?_
      exact ⟨a39, u39, x39, rfl, q39⟩
    · refine stepI hmk0 (by rfl) rfl (by as_aux_lemma => kernel_rfl) ?_
      intro xs V Q' hS hf hq hP
      rw [hmk xs] at hq ⊢
      simp only [Act.put, List.setIfInBounds_toArray, List.set_cons_zero, List.set_cons_succ] at hq
      clear hf hP
      refine wpList_buildN rfl 38 _ rfl [(3, .slice (some ⟨g7, 0, none⟩) 2 2)] (by simp only [List.map_toArray, List.map_cons, List.map_nil]; rfl) (msgC 0 (.slice none 0 0) (.slice (some ⟨g7, 0, none⟩) 2 2) (.slice none 0 0)).toArray (builtM3 _ _ _) (some 92) rfl ?_
      (try with_reducible refine wpList_nil ?_)
      refine hq.out _ _ (Ext.refl V) ?_
      exact ⟨_, _, _, rfl, (recs_none V), hT2.out V hS, (recs_none V)⟩
    · refine stepI hmk0 (by rfl) rfl (by as_aux_lemma => kernel_rfl) ?_
      intro xs V Q' hS hf hq hP
      have f42 : ∃ a u x, (xs 42) = .agg #[.int .u16 0, .bool false, .int .u8 0, .bool false, .bool false, .bool false, .bool false, .bool false, .bool false, .bool false, .int .u8 0, .slice none 0 0, a, u, x, .bool false, .int .u16 0, .int .u8 0, .int .u8 0, .int .u16 0, .slice none 0 0] ∧ Recs V 0 a [] ∧ Recs V 0 u [nZ, nY] ∧ Recs V 0 x [] := hf 42 (by as_aux_lemma => kernel_rfl)
      rw [hmk xs] at hq ⊢
      simp only [Act.put, List.setIfInBounds_toArray, List.set_cons_zero, List.set_cons_succ] at hq
      clear hf hP
      generalize xs 42 = y42 at *
      obtain ⟨a42, u42, x42, e42, q42⟩ := f42
      subst e42
      refine wpList_buildN rfl 40 _ rfl [(0, .agg (msgC 0 a42 u42 x42).toArray), (1, .int .i64 0), (2, .int .u32 0), (3, .int .i64 3)] (by simp only [List.map_toArray, List.map_cons, List.map_nil]; rfl) (rowC 0 a42 u42 x42 0 0 3).toArray (built40 _ _ _ _ _ _ _) (some 93) rfl ?_
      (try with_reducible refine wpList_nil ?_)
      refine hq.out _ _ (Ext.refl V) ?_
      exact ⟨a42, u42, x42, rfl, q42⟩
    · refine stepI hmk0 (by rfl) rfl (by as_aux_lemma => kernel_rfl) ?_
      intro xs V Q' hS hf hq hP
      rw [hmk xs] at hq ⊢
      simp only [Act.put, List.setIfInBounds_toArray, List.set_cons_zero, List.set_cons_succ] at hq
      clear hf hP
      (repeat (first | go_guarded | go_step))
      (try with_reducible refine wpList_nil ?_)
      refine hq.out _ _ ((Ext.refl V).alloc _) ?_
      exact recs_lit V V.heap.size 0 rfl (Nat.le_refl 0) [nA] (by decide)
    · refine stepI hmk0 (by rfl) rfl (by as_aux_lemma => kernel_rfl) ?_
      intro xs V Q' hS hf hq hP
      have f45 : Recs V 0 (xs 45) [nA] := hf 45 (by as_aux_lemma => kernel_rfl)
      rw [hmk xs] at hq ⊢
      simp only [Act.put, List.setIfInBounds_toArray, List.set_cons_zero, List.set_cons_succ] at hq
      clear hf hP
      generalize xs 45 = y45 at *
      obtain ⟨A45, c45, e45, -⟩ := id f45
      replace e45 : y45 = .slice A45 1 c45 := e45
      subst e45
      refine wpList_buildN rfl 38 _ rfl [(2, .slice A45 1 c45), (3, .slice (some ⟨g7, 0, none⟩) 2 2)] (by simp only [List.map_toArray, List.map_cons, List.map_nil]; rfl) (msgC 0 (.slice A45 1 c45) (.slice (some ⟨g7, 0, none⟩) 2 2) (.slice none 0 0)).toArray (builtM23 _ _ _ _ _ _) (some 97) rfl ?_
      (try with_reducible refine wpList_nil ?_)
      refine hq.out _ _ (Ext.refl V) ?_
      exact ⟨_, _, _, rfl, f45, hT2.out V hS, (recs_none V)⟩
    · refine stepI hmk0 (by rfl) rfl (by as_aux_lemma => kernel_rfl) ?_
      intro xs V Q' hS hf hq hP
      have f47 : ∃ a u x, (xs 47) = .agg #[.int .u16 0, .bool false, .int .u8 0, .bool false, .bool false, .bool false, .bool false, .bool false, .bool false, .bool false, .int .u8 0, .slice none 0 0, a, u, x, .bool false, .int .u16 0, .int .u8 0, .int .u8 0, .int .u16 0, .slice none 0 0] ∧ Recs V 0 a [nA] ∧ Recs V 0 u [nZ, nY] ∧ Recs V 0 x [] := hf 47 (by as_aux_lemma => kernel_rfl)
      rw [hmk xs] at hq ⊢
      simp only [Act.put, List.setIfInBounds_toArray, List.set_cons_zero, List.set_cons_succ] at hq
      clear hf hP
      generalize xs 47 = y47 at *
      obtain ⟨a47, u47, x47, e47, q47⟩ := f47
      subst e47
      refine wpList_buildN rfl 40 _ rfl [(0, .agg (msgC 0 a47 u47 x47).toArray), (1, .int .i64 1), (2, .int .u32 7), (3, .int .i64 0)] (by simp only [List.map_toArray, List.map_cons, List.map_nil]; rfl) (rowC 0 a47 u47 x47 1 7 0).toArray (built40 _ _ _ _ _ _ _) (some 98) rfl ?_
      (try with_reducible refine wpList_nil ?_)
      refine hq.out _ _ (Ext.refl V) ?_
      exact ⟨a47, u47, x47, rfl, q47⟩
    · refine stepI hmk0 (by rfl) rfl (by as_aux_lemma => kernel_rfl) ?_
      intro xs V Q' hS hf hq hP
      rw [hmk xs] at hq ⊢
      simp only [Act.put, List.setIfInBounds_toArray, List.set_cons_zero, List.set_cons_succ] at hq
      clear hf hP
      refine wpList_buildN rfl 38 _ rfl [(0, .agg #[.int .u16 0, .bool false, .int .u8 0, .bool false, .bool false, .bool false, .bool false, .bool false, .bool false, .bool false, .int .u8 3]), (3, .slice (some ⟨g7, 0, none⟩) 1 2)] (by simp only [List.map_toArray, List.map_cons, List.map_nil]; rfl) (msgC 3 (.slice none 0 0) (.slice (some ⟨g7, 0, none⟩) 1 2) (.slice none 0 0)).toArray (builtM03 _ _ _ _) (some 102) rfl ?_
      (try with_reducible refine wpList_nil ?_)
      refine hq.out _ _ (Ext.refl V) ?_
      exact ⟨_, _, _, rfl, (recs_none V), hT1.out V hS, (recs_none V)⟩
    · refine stepI hmk0 (by rfl) rfl (by as_aux_lemma => kernel_rfl) ?_
      intro xs V Q' hS hf hq hP
      have f52 : ∃ a u x, (xs 52) = .agg #[.int .u16 0, .bool false, .int .u8 0, .bool false, .bool false, .bool false, .bool false, .bool false, .bool false, .bool false, .int .u8 3, .slice none 0 0, a, u, x, .bool false, .int .u16 0, .int .u8 0, .int .u8 0, .int .u16 0, .slice none 0 0] ∧ Recs V 0 a [] ∧ Recs V 0 u [nZ] ∧ Recs V 0 x [] := hf 52 (by as_aux_lemma => kernel_rfl)
      rw [hmk xs] at hq ⊢
      simp only [Act.put, List.setIfInBounds_toArray, List.set_cons_zero, List.set_cons_succ] at hq
      clear hf hP
      generalize xs 52 = y52 at *
      obtain ⟨a52, u52, x52, e52, q52⟩ := f52
      subst e52
      refine wpList_buildN rfl 40 _ rfl [(0, .agg (msgC 3 a52 u52 x52).toArray), (1, .int .i64 0), (2, .int .u32 9), (3, .int .i64 0)] (by simp only [List.map_toArray, List.map_cons, List.map_nil]; rfl) (rowC 3 a52 u52 x52 0 9 0).toArray (built40 _ _ _ _ _ _ _) (some 103) rfl ?_
      (try with_reducible refine wpList_nil ?_)
      refine hq.out _ _ (Ext.refl V) ?_
      exact ⟨a52, u52, x52, rfl, q52⟩
    · refine stepI hmk0 (by rfl) rfl (by as_aux_lemma => kernel_rfl) ?_
      intro xs V Q' hS hf hq hP
      rw [hmk xs] at hq ⊢
      simp only [Act.put, List.setIfInBounds_toArray, List.set_cons_zero, List.set_cons_succ] at hq
      clear hf hP
      iterate 2 go_step
      go_at_call 7
      refine (HZb.out _).mono ?_
      rintro e wz ⟨rfl, hEz⟩
      (try dsimp only)
      (repeat (first | go_values | go_skip | go_guarded | go_step | go_upon | go_back))
      (try with_reducible refine wpList_nil ?_)
      refine hq.out _ _ hEz ?_
      rfl
    · refine stepI hmk0 (by rfl) rfl (by as_aux_lemma => kernel_rfl) ?_
      intro xs V Q' hS hf hq hP
      have f54 : (xs 54) = (recVal nB) := hf 54 (by as_aux_lemma => kernel_rfl)
      rw [hmk xs] at hq ⊢
      simp only [Act.put, List.setIfInBounds_toArray, List.set_cons_zero, List.set_cons_succ] at hq
      clear hf hP
      generalize xs 54 = y54 at *
      subst f54
      (repeat (first | go_guarded | go_step))
      (try with_reducible refine wpList_nil ?_)
      refine hq.out _ _ ((Ext.refl V).alloc _) ?_
      exact recs_lit V V.heap.size 0 rfl (Nat.le_refl 0) [nB] (by decide)
    · refine stepI hmk0 (by rfl) rfl (by as_aux_lemma => kernel_rfl) ?_
      intro xs V Q' hS hf hq hP
      have f55 : Recs V 0 (xs 55) [nB] := hf 55 (by as_aux_lemma => kernel_rfl)
      rw [hmk xs] at hq ⊢
      simp only [Act.put, List.setIfInBounds_toArray, List.set_cons_zero, List.set_cons_succ] at hq
      clear hf hP
      generalize xs 55 = y55 at *
      obtain ⟨A55, c55, e55, -⟩ := id f55
      replace e55 : y55 = .slice A55 1 c55 := e55
      subst e55
      refine wpList_buildN rfl 38 _ rfl [(3, .slice A55 1 c55)] (by simp only [List.map_toArray, List.map_cons, List.map_nil]; rfl) (msgC 0 (.slice none 0 0) (.slice A55 1 c55) (.slice none 0 0)).toArray (builtM3 _ _ _) (some 106) rfl ?_
      (try with_reducible refine wpList_nil ?_)
      refine hq.out _ _ (Ext.refl V) ?_
      exact ⟨_, _, _, rfl, (recs_none V), f55, (recs_none V)⟩
    · refine stepI hmk0 (by rfl) rfl (by as_aux_lemma => kernel_rfl) ?_
      intro xs V Q' hS hf hq hP
      have f56 : ∃ a u x, (xs 56) = .agg #[.int .u16 0, .bool false, .int .u8 0, .bool false, .bool false, .bool false, .bool false, .bool false, .bool false, .bool false, .int .u8 0, .slice none 0 0, a, u, x, .bool false, .int .u16 0, .int .u8 0, .int .u8 0, .int .u16 0, .slice none 0 0] ∧ Recs V 0 a [] ∧ Recs V 0 u [nB] ∧ Recs V 0 x [] := hf 56 (by as_aux_lemma => kernel_rfl)
      rw [hmk xs] at hq ⊢
      simp only [Act.put, List.setIfInBounds_toArray, List.set_cons_zero, List.set_cons_succ] at hq
      clear hf hP
      generalize xs 56 = y56 at *
      obtain ⟨a56, u56, x56, e56, q56⟩ := f56
      subst e56
      refine wpList_buildN rfl 40 _ rfl [(0, .agg (msgC 0 a56 u56 x56).toArray), (1, .int .i64 0), (2, .int .u32 0), (3, .int .i64 0)] (by simp only [List.map_toArray, List.map_cons, List.map_nil]; rfl) (rowC 0 a56 u56 x56 0 0 0).toArray (built40 _ _ _ _ _ _ _) (some 107) rfl ?_
      (try with_reducible refine wpList_nil ?_)
      refine hq.out _ _ (Ext.refl V) ?_
      exact ⟨a56, u56, x56, rfl, q56⟩
    · refine stepI hmk0 (by rfl) rfl (by as_aux_lemma => kernel_rfl) ?_
      intro xs V Q' hS hf hq hP
      rw [hmk xs] at hq ⊢
      simp only [Act.put, List.setIfInBounds_toArray, List.set_cons_zero, List.set_cons_succ] at hq
      clear hf hP
      (repeat (first | go_guarded | go_step))
      (try with_reducible refine wpList_nil ?_)
      refine hq.out _ _ ((Ext.refl V).alloc _) ?_
      exact recs_lit V V.heap.size 0 rfl (Nat.le_refl 0) [nO] (by decide)
    · refine stepI hmk0 (by rfl) rfl (by as_aux_lemma => kernel_rfl) ?_
      intro xs V Q' hS hf hq hP
      rw [hmk xs] at hq ⊢
      simp only [Act.put, List.setIfInBounds_toArray, List.set_cons_zero, List.set_cons_succ] at hq
      clear hf hP
      (repeat (first | go_guarded | go_step))
      (try with_reducible refine wpList_nil ?_)
      refine hq.out _ _ ((Ext.refl V).alloc _) ?_
      exact recs_lit V V.heap.size 0 rfl (Nat.le_refl 0) [nA] (by decide)
    · refine stepI hmk0 (by rfl) rfl (by as_aux_lemma => kernel_rfl) ?_
      intro xs V Q' hS hf hq hP
      have f54 : (xs 54) = (recVal nB) := hf 54 (by as_aux_lemma => kernel_rfl)
      rw [hmk xs] at hq ⊢
      simp only [Act.put, List.setIfInBounds_toArray, List.set_cons_zero, List.set_cons_succ] at hq
      clear hf hP
      generalize xs 54 = y54 at *
      iterate 2 go_step
      go_at_call 7
      refine (HZa.out _).mono ?_
      rintro e wz ⟨rfl, hEz⟩
      (try dsimp only)
      (repeat (first | go_values | go_skip | go_guarded | go_step | go_upon | go_back))
      (try with_reducible refine wpList_nil ?_)
      refine hq.out _ _ hEz ?_
      rfl
    · refine stepI hmk0 (by rfl) rfl (by as_aux_lemma => kernel_rfl) ?_
      intro xs V Q' hS hf hq hP
      have f63 : (xs 63) = (recVal nX) := hf 63 (by as_aux_lemma => kernel_rfl)
      rw [hmk xs] at hq ⊢
      simp only [Act.put, List.setIfInBounds_toArray, List.set_cons_zero, List.set_cons_succ] at hq
      clear hf hP
      generalize xs 63 = y63 at *
      subst f63
      (repeat (first | go_guarded | go_step))
      (try with_reducible refine wpList_nil ?_)
      refine hq.out _ _ ((Ext.refl V).alloc _) ?_
      exact recs_lit V V.heap.size 0 rfl (Nat.le_refl 0) [nA, nX] (by decide)
    · refine stepI hmk0 (by rfl) rfl (by as_aux_lemma => kernel_rfl) ?_
      intro xs V Q' hS hf hq hP
      have f59 : Recs V 0 (xs 59) [nO] := hf 59 (by as_aux_lemma => kernel_rfl)
      have f61 : Recs V 0 (xs 61) [nA] := hf 61 (by as_aux_lemma => kernel_rfl)
      have f64 : Recs V 0 (xs 64) [nA, nX] := hf 64 (by as_aux_lemma => kernel_rfl)
      rw [hmk xs] at hq ⊢
      simp only [Act.put, List.setIfInBounds_toArray, List.set_cons_zero, List.set_cons_succ] at hq
      clear hf hP
      generalize xs 59 = y59 at *
      generalize xs 61 = y61 at *
      generalize xs 64 = y64 at *
      obtain ⟨A59, c59, e59, -⟩ := id f59
      replace e59 : y59 = .slice A59 1 c59 := e59
      subst e59
      obtain ⟨A61, c61, e61, -⟩ := id f61
      replace e61 : y61 = .slice A61 1 c61 := e61
      subst e61
      obtain ⟨A64, c64, e64, -⟩ := id f64
      replace e64 : y64 = .slice A64 2 c64 := e64
      subst e64
      refine wpList_buildN rfl 38 _ rfl [(2, .slice A59 1 c59), (4, .slice A61 1 c61), (3, .slice A64 2 c64)] (by simp only [List.map_toArray, List.map_cons, List.map_nil]; rfl) (msgC 0 (.slice A59 1 c59) (.slice A64 2 c64) (.slice A61 1 c61)).toArray (builtM243 _ _ _ _ _ _ _ _ _) (some 115) rfl ?_
      (try with_reducible refine wpList_nil ?_)
      refine hq.out _ _ (Ext.refl V) ?_
      exact ⟨_, _, _, rfl, f59, f64, f61⟩
    · refine stepI hmk0 (by rfl) rfl (by as_aux_lemma => kernel_rfl) ?_
      intro xs V Q' hS hf hq hP
      have f65 : ∃ a u x, (xs 65) = .agg #[.int .u16 0, .bool false, .int .u8 0, .bool false, .bool false, .bool false, .bool false, .bool false, .bool false, .bool false, .int .u8 0, .slice none 0 0, a, u, x, .bool false, .int .u16 0, .int .u8 0, .int .u8 0, .int .u16 0, .slice none 0 0] ∧ Recs V 0 a [nO] ∧ Recs V 0 u [nA, nX] ∧ Recs V 0 x [nA] := hf 65 (by as_aux_lemma => kernel_rfl)
      rw [hmk xs] at hq ⊢
      simp only [Act.put, List.setIfInBounds_toArray, List.set_cons_zero, List.set_cons_succ] at hq
      clear hf hP
      generalize xs 65 = y65 at *
      obtain ⟨a65, u65, x65, e65, q65⟩ := f65
      subst e65
      refine wpList_buildN rfl 40 _ rfl [(0, .agg (msgC 0 a65 u65 x65).toArray), (1, .int .i64 0), (2, .int .u32 5), (3, .int .i64 0)] (by simp only [List.map_toArray, List.map_cons, List.map_nil]; rfl) (rowC 0 a65 u65 x65 0 5 0).toArray (built40 _ _ _ _ _ _ _) (some 116) rfl ?_
      (try with_reducible refine wpList_nil ?_)
      refine hq.out _ _ (Ext.refl V) ?_
      exact ⟨a65, u65, x65, rfl, q65⟩
    · refine stepI hmk0 (by rfl) rfl (by as_aux_lemma => kernel_rfl) ?_
      intro xs V Q' hS hf hq hP
      have f3 : ∃ a u x, (xs 3) = .agg (rowC 0 a u x 1 7 0).toArray ∧ Recs V 0 a [nA] ∧ Recs V 0 u [] ∧ Recs V 0 x [] := hf 3 (by as_aux_lemma => kernel_rfl)
      have f9 : ∃ a u x, (xs 9) = .agg (rowC 0 a u x 1 7 0).toArray ∧ Recs V 0 a [nA, nF, nO] ∧ Recs V 0 u [] ∧ Recs V 0 x [] := hf 9 (by as_aux_lemma => kernel_rfl)
      have f13 : ∃ a u x, (xs 13) = .agg (rowC 0 a u x 1 2147483647 0).toArray ∧ Recs V 0 a [nF] ∧ Recs V 0 u [] ∧ Recs V 0 x [] := hf 13 (by as_aux_lemma => kernel_rfl)
      have f18 : ∃ a u x, (xs 18) = .agg (rowC 0 a u x 1 0 0).toArray ∧ Recs V 0 a [nA, nG] ∧ Recs V 0 u [] ∧ Recs V 0 x [] := hf 18 (by as_aux_lemma => kernel_rfl)
      have f23 : ∃ a u x, (xs 23) = .agg (rowC 3 a u x 0 0 3).toArray ∧ Recs V 0 a [nA] ∧ Recs V 0 u [] ∧ Recs V 0 x [] := hf 23 (by as_aux_lemma => kernel_rfl)
      have f28 : ∃ a u x, (xs 28) = .agg (rowC 2 a u x 0 0 1).toArray ∧ Recs V 0 a [nA] ∧ Recs V 0 u [] ∧ Recs V 0 x [] := hf 28 (by as_aux_lemma => kernel_rfl)
      have f31 : ∃ a u x, (xs 31) = .agg (rowC 19 a u x 0 0 1).toArray ∧ Recs V 0 a [] ∧ Recs V 0 u [] ∧ Recs V 0 x [] := hf 31 (by as_aux_lemma => kernel_rfl)
      have f35 : ∃ a u x, (xs 35) = .agg (rowC 0 a u x 0 0 8).toArray ∧ Recs V 0 a [nL] ∧ Recs V 0 u [] ∧ Recs V 0 x [] := hf 35 (by as_aux_lemma => kernel_rfl)
      have f40 : ∃ a u x, (xs 40) = .agg (rowC 0 a u x 0 0 3).toArray ∧ Recs V 0 a [nL, nA] ∧ Recs V 0 u [] ∧ Recs V 0 x [] := hf 40 (by as_aux_lemma => kernel_rfl)
      have f43 : ∃ a u x, (xs 43) = .agg (rowC 0 a u x 0 0 3).toArray ∧ Recs V 0 a [] ∧ Recs V 0 u [nZ, nY] ∧ Recs V 0 x [] := hf 43 (by as_aux_lemma => kernel_rfl)
      have f48 : ∃ a u x, (xs 48) = .agg (rowC 0 a u x 1 7 0).toArray ∧ Recs V 0 a [nA] ∧ Recs V 0 u [nZ, nY] ∧ Recs V 0 x [] := hf 48 (by as_aux_lemma => kernel_rfl)
      have f53 : ∃ a u x, (xs 53) = .agg (rowC 3 a u x 0 9 0).toArray ∧ Recs V 0 a [] ∧ Recs V 0 u [nZ] ∧ Recs V 0 x [] := hf 53 (by as_aux_lemma => kernel_rfl)
      have f57 : ∃ a u x, (xs 57) = .agg (rowC 0 a u x 0 0 0).toArray ∧ Recs V 0 a [] ∧ Recs V 0 u [nB] ∧ Recs V 0 x [] := hf 57 (by as_aux_lemma => kernel_rfl)
      have f66 : ∃ a u x, (xs 66) = .agg (rowC 0 a u x 0 5 0).toArray ∧ Recs V 0 a [nO] ∧ Recs V 0 u [nA, nX] ∧ Recs V 0 x [nA] := hf 66 (by as_aux_lemma => kernel_rfl)
      rw [hmk xs] at hq ⊢
      simp only [Act.put, List.setIfInBounds_toArray, List.set_cons_zero, List.set_cons_succ] at hq
      clear hf hP
      generalize xs 3 = y3 at *
      generalize xs 9 = y9 at *
      generalize xs 13 = y13 at *
      generalize xs 18 = y18 at *
      generalize xs 23 = y23 at *
      generalize xs 28 = y28 at *
      generalize xs 31 = y31 at *
      generalize xs 35 = y35 at *
      generalize xs 40 = y40 at *
      generalize xs 43 = y43 at *
      generalize xs 48 = y48 at *
      generalize xs 53 = y53 at *
      generalize xs 57 = y57 at *
      generalize xs 66 = y66 at *
      obtain ⟨a3, u3, x3, e3, ha3, hu3, hx3⟩ := f3
      subst e3
      obtain ⟨a9, u9, x9, e9, ha9, hu9, hx9⟩ := f9
      subst e9
      obtain ⟨a13, u13, x13, e13, ha13, hu13, hx13⟩ := f13
      subst e13
      obtain ⟨a18, u18, x18, e18, ha18, hu18, hx18⟩ := f18
      subst e18
      obtain ⟨a23, u23, x23, e23, ha23, hu23, hx23⟩ := f23
      subst e23
      obtain ⟨a28, u28, x28, e28, ha28, hu28, hx28⟩ := f28
      subst e28
      obtain ⟨a31, u31, x31, e31, ha31, hu31, hx31⟩ := f31
      subst e31
      obtain ⟨a35, u35, x35, e35, ha35, hu35, hx35⟩ := f35
      subst e35
      obtain ⟨a40, u40, x40, e40, ha40, hu40, hx40⟩ := f40
      subst e40
      obtain ⟨a43, u43, x43, e43, ha43, hu43, hx43⟩ := f43
      subst e43
      obtain ⟨a48, u48, x48, e48, ha48, hu48, hx48⟩ := f48
      subst e48
      obtain ⟨a53, u53, x53, e53, ha53, hu53, hx53⟩ := f53
      subst e53
      obtain ⟨a57, u57, x57, e57, ha57, hu57, hx57⟩ := f57
      subst e57
      obtain ⟨a66, u66, x66, e66, ha66, hu66, hx66⟩ := f66
      subst e66
      obtain ⟨ps, hps⟩ : ∃ ps : List RowV, ps = [⟨0, a3, u3, x3, 1, 7, 0⟩, ⟨0, a9, u9, x9, 1, 7, 0⟩, ⟨0, a13, u13, x13, 1, 2147483647, 0⟩, ⟨0, a18, u18, x18, 1, 0, 0⟩, ⟨3, a23, u23, x23, 0, 0, 3⟩, ⟨2, a28, u28, x28, 0, 0, 1⟩, ⟨19, a31, u31, x31, 0, 0, 1⟩, ⟨0, a35, u35, x35, 0, 0, 8⟩, ⟨0, a40, u40, x40, 0, 0, 3⟩, ⟨0, a43, u43, x43, 0, 0, 3⟩, ⟨0, a48, u48, x48, 1, 7, 0⟩, ⟨3, a53, u53, x53, 0, 9, 0⟩, ⟨0, a57, u57, x57, 0, 0, 0⟩, ⟨0, a66, u66, x66, 0, 5, 0⟩] := ⟨_, rfl⟩
      have hTab : TabN (V.alloc (.cells (ps.flatMap RowV.cells).toArray 40)) V.heap.size := by
        subst hps
        have hEn : Ext V (V.alloc (.cells (([⟨0, a3, u3, x3, 1, 7, 0⟩, ⟨0, a9, u9, x9, 1, 7, 0⟩, ⟨0, a13, u13, x13, 1, 2147483647, 0⟩, ⟨0, a18, u18, x18, 1, 0, 0⟩, ⟨3, a23, u23, x23, 0, 0, 3⟩, ⟨2, a28, u28, x28, 0, 0, 1⟩, ⟨19, a31, u31, x31, 0, 0, 1⟩, ⟨0, a35, u35, x35, 0, 0, 8⟩, ⟨0, a40, u40, x40, 0, 0, 3⟩, ⟨0, a43, u43, x43, 0, 0, 3⟩, ⟨0, a48, u48, x48, 1, 7, 0⟩, ⟨3, a53, u53, x53, 0, 9, 0⟩, ⟨0, a57, u57, x57, 0, 0, 0⟩, ⟨0, a66, u66, x66, 0, 5, 0⟩] : List RowV).flatMap RowV.cells).toArray 40)) := (Ext.refl V).alloc _
        intro k r hk
        match k, hk with
        | 0, hk => (cases hk; exact ⟨a3, u3, x3, _, tabN_of (T := 40) [⟨0, a3, u3, x3, 1, 7, 0⟩, ⟨0, a9, u9, x9, 1, 7, 0⟩, ⟨0, a13, u13, x13, 1, 2147483647, 0⟩, ⟨0, a18, u18, x18, 1, 0, 0⟩, ⟨3, a23, u23, x23, 0, 0, 3⟩, ⟨2, a28, u28, x28, 0, 0, 1⟩, ⟨19, a31, u31, x31, 0, 0, 1⟩, ⟨0, a35, u35, x35, 0, 0, 8⟩, ⟨0, a40, u40, x40, 0, 0, 3⟩, ⟨0, a43, u43, x43, 0, 0, 3⟩, ⟨0, a48, u48, x48, 1, 7, 0⟩, ⟨3, a53, u53, x53, 0, 9, 0⟩, ⟨0, a57, u57, x57, 0, 0, 0⟩, ⟨0, a66, u66, x66, 0, 5, 0⟩] (Ext.refl _) V.heap.size rfl 0 _ rfl, ha3.ext hEn, hu3.ext hEn, hx3.ext hEn⟩)
        | 1, hk => (cases hk; exact ⟨a9, u9, x9, _, tabN_of (T := 40) [⟨0, a3, u3, x3, 1, 7, 0⟩, ⟨0, a9, u9, x9, 1, 7, 0⟩, ⟨0, a13, u13, x13, 1, 2147483647, 0⟩, ⟨0, a18, u18, x18, 1, 0, 0⟩, ⟨3, a23, u23, x23, 0, 0, 3⟩, ⟨2, a28, u28, x28, 0, 0, 1⟩, ⟨19, a31, u31, x31, 0, 0, 1⟩, ⟨0, a35, u35, x35, 0, 0, 8⟩, ⟨0, a40, u40, x40, 0, 0, 3⟩, ⟨0, a43, u43, x43, 0, 0, 3⟩, ⟨0, a48, u48, x48, 1, 7, 0⟩, ⟨3, a53, u53, x53, 0, 9, 0⟩, ⟨0, a57, u57, x57, 0, 0, 0⟩, ⟨0, a66, u66, x66, 0, 5, 0⟩] (Ext.refl _) V.heap.size rfl 1 _ rfl, ha9.ext hEn, hu9.ext hEn, hx9.ext hEn⟩)
        | 2, hk => (cases hk; exact ⟨a13, u13, x13, _, tabN_of (T := 40) [⟨0, a3, u3, x3, 1, 7, 0⟩, ⟨0, a9, u9, x9, 1, 7, 0⟩, ⟨0, a13, u13, x13, 1, 2147483647, 0⟩, ⟨0, a18, u18, x18, 1, 0, 0⟩, ⟨3, a23, u23, x23, 0, 0, 3⟩, ⟨2, a28, u28, x28, 0, 0, 1⟩, ⟨19, a31, u31, x31, 0, 0, 1⟩, ⟨0, a35, u35, x35, 0, 0, 8⟩, ⟨0, a40, u40, x40, 0, 0, 3⟩, ⟨0, a43, u43, x43, 0, 0, 3⟩, ⟨0, a48, u48, x48, 1, 7, 0⟩, ⟨3, a53, u53, x53, 0, 9, 0⟩, ⟨0, a57, u57, x57, 0, 0, 0⟩, ⟨0, a66, u66, x66, 0, 5, 0⟩] (Ext.refl _) V.heap.size rfl 2 _ rfl, ha13.ext hEn, hu13.ext hEn, hx13.ext hEn⟩)
        | 3, hk => (cases hk; exact ⟨a18, u18, x18, _, tabN_of (T := 40) [⟨0, a3, u3, x3, 1, 7, 0⟩, ⟨0, a9, u9, x9, 1, 7, 0⟩, ⟨0, a13, u13, x13, 1, 2147483647, 0⟩, ⟨0, a18, u18, x18, 1, 0, 0⟩, ⟨3, a23, u23, x23, 0, 0, 3⟩, ⟨2, a28, u28, x28, 0, 0, 1⟩, ⟨19, a31, u31, x31, 0, 0, 1⟩, ⟨0, a35, u35, x35, 0, 0, 8⟩, ⟨0, a40, u40, x40, 0, 0, 3⟩, ⟨0, a43, u43, x43, 0, 0, 3⟩, ⟨0, a48, u48, x48, 1, 7, 0⟩, ⟨3, a53, u53, x53, 0, 9, 0⟩, ⟨0, a57, u57, x57, 0, 0, 0⟩, ⟨0, a66, u66, x66, 0, 5, 0⟩] (Ext.refl _) V.heap.size rfl 3 _ rfl, ha18.ext hEn, hu18.ext hEn, hx18.ext hEn⟩)
        | 4, hk => (cases hk; exact ⟨a23, u23, x23, _, tabN_of (T := 40) [⟨0, a3, u3, x3, 1, 7, 0⟩, ⟨0, a9, u9, x9, 1, 7, 0⟩, ⟨0, a13, u13, x13, 1, 2147483647, 0⟩, ⟨0, a18, u18, x18, 1, 0, 0⟩, ⟨3, a23, u23, x23, 0, 0, 3⟩, ⟨2, a28, u28, x28, 0, 0, 1⟩, ⟨19, a31, u31, x31, 0, 0, 1⟩, ⟨0, a35, u35, x35, 0, 0, 8⟩, ⟨0, a40, u40, x40, 0, 0, 3⟩, ⟨0, a43, u43, x43, 0, 0, 3⟩, ⟨0, a48, u48, x48, 1, 7, 0⟩, ⟨3, a53, u53, x53, 0, 9, 0⟩, ⟨0, a57, u57, x57, 0, 0, 0⟩, ⟨0, a66, u66, x66, 0, 5, 0⟩] (Ext.refl _) V.heap.size rfl 4 _ rfl, ha23.ext hEn, hu23.ext hEn, hx23.ext hEn⟩)
        | 5, hk => (cases hk; exact ⟨a28, u28, x28, _, tabN_of (T := 40) [⟨0, a3, u3, x3, 1, 7, 0⟩, ⟨0, a9, u9, x9, 1, 7, 0⟩, ⟨0, a13, u13, x13, 1, 2147483647, 0⟩, ⟨0, a18, u18, x18, 1, 0, 0⟩, ⟨3, a23, u23, x23, 0, 0, 3⟩, ⟨2, a28, u28, x28, 0, 0, 1⟩, ⟨19, a31, u31, x31, 0, 0, 1⟩, ⟨0, a35, u35, x35, 0, 0, 8⟩, ⟨0, a40, u40, x40, 0, 0, 3⟩, ⟨0, a43, u43, x43, 0, 0, 3⟩, ⟨0, a48, u48, x48, 1, 7, 0⟩, ⟨3, a53, u53, x53, 0, 9, 0⟩, ⟨0, a57, u57, x57, 0, 0, 0⟩, ⟨0, a66, u66, x66, 0, 5, 0⟩] (Ext.refl _) V.heap.size rfl 5 _ rfl, ha28.ext hEn, hu28.ext hEn, hx28.ext hEn⟩)
        | 6, hk => (cases hk; exact ⟨a31, u31, x31, _, tabN_of (T := 40) [⟨0, a3, u3, x3, 1, 7, 0⟩, ⟨0, a9, u9, x9, 1, 7, 0⟩, ⟨0, a13, u13, x13, 1, 2147483647, 0⟩, ⟨0, a18, u18, x18, 1, 0, 0⟩, ⟨3, a23, u23, x23, 0, 0, 3⟩, ⟨2, a28, u28, x28, 0, 0, 1⟩, ⟨19, a31, u31, x31, 0, 0, 1⟩, ⟨0, a35, u35, x35, 0, 0, 8⟩, ⟨0, a40, u40, x40, 0, 0, 3⟩, ⟨0, a43, u43, x43, 0, 0, 3⟩, ⟨0, a48, u48, x48, 1, 7, 0⟩, ⟨3, a53, u53, x53, 0, 9, 0⟩, ⟨0, a57, u57, x57, 0, 0, 0⟩, ⟨0, a66, u66, x66, 0, 5, 0⟩] (Ext.refl _) V.heap.size rfl 6 _ rfl, ha31.ext hEn, hu31.ext hEn, hx31.ext hEn⟩)
        | 7, hk => (cases hk; exact ⟨a35, u35, x35, _, tabN_of (T := 40) [⟨0, a3, u3, x3, 1, 7, 0⟩, ⟨0, a9, u9, x9, 1, 7, 0⟩, ⟨0, a13, u13, x13, 1, 2147483647, 0⟩, ⟨0, a18, u18, x18, 1, 0, 0⟩, ⟨3, a23, u23, x23, 0, 0, 3⟩, ⟨2, a28, u28, x28, 0, 0, 1⟩, ⟨19, a31, u31, x31, 0, 0, 1⟩, ⟨0, a35, u35, x35, 0, 0, 8⟩, ⟨0, a40, u40, x40, 0, 0, 3⟩, ⟨0, a43, u43, x43, 0, 0, 3⟩, ⟨0, a48, u48, x48, 1, 7, 0⟩, ⟨3, a53, u53, x53, 0, 9, 0⟩, ⟨0, a57, u57, x57, 0, 0, 0⟩, ⟨0, a66, u66, x66, 0, 5, 0⟩] (Ext.refl _) V.heap.size rfl 7 _ rfl, ha35.ext hEn, hu35.ext hEn, hx35.ext hEn⟩)
        | 8, hk => (cases hk; exact ⟨a40, u40, x40, _, tabN_of (T := 40) [⟨0, a3, u3, x3, 1, 7, 0⟩, ⟨0, a9, u9, x9, 1, 7, 0⟩, ⟨0, a13, u13, x13, 1, 2147483647, 0⟩, ⟨0, a18, u18, x18, 1, 0, 0⟩, ⟨3, a23, u23, x23, 0, 0, 3⟩, ⟨2, a28, u28, x28, 0, 0, 1⟩, ⟨19, a31, u31, x31, 0, 0, 1⟩, ⟨0, a35, u35, x35, 0, 0, 8⟩, ⟨0, a40, u40, x40, 0, 0, 3⟩, ⟨0, a43, u43, x43, 0, 0, 3⟩, ⟨0, a48, u48, x48, 1, 7, 0⟩, ⟨3, a53, u53, x53, 0, 9, 0⟩, ⟨0, a57, u57, x57, 0, 0, 0⟩, ⟨0, a66, u66, x66, 0, 5, 0⟩] (Ext.refl _) V.heap.size rfl 8 _ rfl, ha40.ext hEn, hu40.ext hEn, hx40.ext hEn⟩)
        | 9, hk => (cases hk; exact ⟨a43, u43, x43, _, tabN_of (T := 40) [⟨0, a3, u3, x3, 1, 7, 0⟩, ⟨0, a9, u9, x9, 1, 7, 0⟩, ⟨0, a13, u13, x13, 1, 2147483647, 0⟩, ⟨0, a18, u18, x18, 1, 0, 0⟩, ⟨3, a23, u23, x23, 0, 0, 3⟩, ⟨2, a28, u28, x28, 0, 0, 1⟩, ⟨19, a31, u31, x31, 0, 0, 1⟩, ⟨0, a35, u35, x35, 0, 0, 8⟩, ⟨0, a40, u40, x40, 0, 0, 3⟩, ⟨0, a43, u43, x43, 0, 0, 3⟩, ⟨0, a48, u48, x48, 1, 7, 0⟩, ⟨3, a53, u53, x53, 0, 9, 0⟩, ⟨0, a57, u57, x57, 0, 0, 0⟩, ⟨0, a66, u66, x66, 0, 5, 0⟩] (Ext.refl _) V.heap.size rfl 9 _ rfl, ha43.ext hEn, hu43.ext hEn, hx43.ext hEn⟩)
        | 10, hk => (cases hk; exact ⟨a48, u48, x48, _, tabN_of (T := 40) [⟨0, a3, u3, x3, 1, 7, 0⟩, ⟨0, a9, u9, x9, 1, 7, 0⟩, ⟨0, a13, u13, x13, 1, 2147483647, 0⟩, ⟨0, a18, u18, x18, 1, 0, 0⟩, ⟨3, a23, u23, x23, 0, 0, 3⟩, ⟨2, a28, u28, x28, 0, 0, 1⟩, ⟨19, a31, u31, x31, 0, 0, 1⟩, ⟨0, a35, u35, x35, 0, 0, 8⟩, ⟨0, a40, u40, x40, 0, 0, 3⟩, ⟨0, a43, u43, x43, 0, 0, 3⟩, ⟨0, a48, u48, x48, 1, 7, 0⟩, ⟨3, a53, u53, x53, 0, 9, 0⟩, ⟨0, a57, u57, x57, 0, 0, 0⟩, ⟨0, a66, u66, x66, 0, 5, 0⟩] (Ext.refl _) V.heap.size rfl 10 _ rfl, ha48.ext hEn, hu48.ext hEn, hx48.ext hEn⟩)
        | 11, hk => (cases hk; exact ⟨a53, u53, x53, _, tabN_of (T := 40) [⟨0, a3, u3, x3, 1, 7, 0⟩, ⟨0, a9, u9, x9, 1, 7, 0⟩, ⟨0, a13, u13, x13, 1, 2147483647, 0⟩, ⟨0, a18, u18, x18, 1, 0, 0⟩, ⟨3, a23, u23, x23, 0, 0, 3⟩, ⟨2, a28, u28, x28, 0, 0, 1⟩, ⟨19, a31, u31, x31, 0, 0, 1⟩, ⟨0, a35, u35, x35, 0, 0, 8⟩, ⟨0, a40, u40, x40, 0, 0, 3⟩, ⟨0, a43, u43, x43, 0, 0, 3⟩, ⟨0, a48, u48, x48, 1, 7, 0⟩, ⟨3, a53, u53, x53, 0, 9, 0⟩, ⟨0, a57, u57, x57, 0, 0, 0⟩, ⟨0, a66, u66, x66, 0, 5, 0⟩] (Ext.refl _) V.heap.size rfl 11 _ rfl, ha53.ext hEn, hu53.ext hEn, hx53.ext hEn⟩)
        | 12, hk => (cases hk; exact ⟨a57, u57, x57, _, tabN_of (T := 40) [⟨0, a3, u3, x3, 1, 7, 0⟩, ⟨0, a9, u9, x9, 1, 7, 0⟩, ⟨0, a13, u13, x13, 1, 2147483647, 0⟩, ⟨0, a18, u18, x18, 1, 0, 0⟩, ⟨3, a23, u23, x23, 0, 0, 3⟩, ⟨2, a28, u28, x28, 0, 0, 1⟩, ⟨19, a31, u31, x31, 0, 0, 1⟩, ⟨0, a35, u35, x35, 0, 0, 8⟩, ⟨0, a40, u40, x40, 0, 0, 3⟩, ⟨0, a43, u43, x43, 0, 0, 3⟩, ⟨0, a48, u48, x48, 1, 7, 0⟩, ⟨3, a53, u53, x53, 0, 9, 0⟩, ⟨0, a57, u57, x57, 0, 0, 0⟩, ⟨0, a66, u66, x66, 0, 5, 0⟩] (Ext.refl _) V.heap.size rfl 12 _ rfl, ha57.ext hEn, hu57.ext hEn, hx57.ext hEn⟩)
        | 13, hk => (cases hk; exact ⟨a66, u66, x66, _, tabN_of (T := 40) [⟨0, a3, u3, x3, 1, 7, 0⟩, ⟨0, a9, u9, x9, 1, 7, 0⟩, ⟨0, a13, u13, x13, 1, 2147483647, 0⟩, ⟨0, a18, u18, x18, 1, 0, 0⟩, ⟨3, a23, u23, x23, 0, 0, 3⟩, ⟨2, a28, u28, x28, 0, 0, 1⟩, ⟨19, a31, u31, x31, 0, 0, 1⟩, ⟨0, a35, u35, x35, 0, 0, 8⟩, ⟨0, a40, u40, x40, 0, 0, 3⟩, ⟨0, a43, u43, x43, 0, 0, 3⟩, ⟨0, a48, u48, x48, 1, 7, 0⟩, ⟨3, a53, u53, x53, 0, 9, 0⟩, ⟨0, a57, u57, x57, 0, 0, 0⟩, ⟨0, a66, u66, x66, 0, 5, 0⟩] (Ext.refl _) V.heap.size rfl 13 _ rfl, ha66.ext hEn, hu66.ext hEn, hx66.ext hEn⟩)
        | k + 14, hk => exact absurd (List.getElem?_eq_some_iff.1 hk).1 (by rw [rowsN_len]; omega)
      obtain ⟨i40, hi40, hz40, hs40⟩ := info40
      refine Go.wpList_buildSlice rfl 41 40 14 _ rfl (([⟨0, a3, u3, x3, 1, 7, 0⟩, ⟨0, a9, u9, x9, 1, 7, 0⟩, ⟨0, a13, u13, x13, 1, 2147483647, 0⟩, ⟨0, a18, u18, x18, 1, 0, 0⟩, ⟨3, a23, u23, x23, 0, 0, 3⟩, ⟨2, a28, u28, x28, 0, 0, 1⟩, ⟨19, a31, u31, x31, 0, 0, 1⟩, ⟨0, a35, u35, x35, 0, 0, 8⟩, ⟨0, a40, u40, x40, 0, 0, 3⟩, ⟨0, a43, u43, x43, 0, 0, 3⟩, ⟨0, a48, u48, x48, 1, 7, 0⟩, ⟨3, a53, u53, x53, 0, 9, 0⟩, ⟨0, a57, u57, x57, 0, 0, 0⟩, ⟨0, a66, u66, x66, 0, 5, 0⟩] : List RowV).flatMap RowV.cells).toArray i40 _ Tryz.underlying41 hi40 hz40 (by rw [hs40]; decide) (by rw [hs40]; decide) (by rw [hs40]; simp only [List.map_toArray, List.map_cons, List.map_nil]; exact fill40 ⟨0, a3, u3, x3, 1, 7, 0⟩ ⟨0, a9, u9, x9, 1, 7, 0⟩ ⟨0, a13, u13, x13, 1, 2147483647, 0⟩ ⟨0, a18, u18, x18, 1, 0, 0⟩ ⟨3, a23, u23, x23, 0, 0, 3⟩ ⟨2, a28, u28, x28, 0, 0, 1⟩ ⟨19, a31, u31, x31, 0, 0, 1⟩ ⟨0, a35, u35, x35, 0, 0, 8⟩ ⟨0, a40, u40, x40, 0, 0, 3⟩ ⟨0, a43, u43, x43, 0, 0, 3⟩ ⟨0, a48, u48, x48, 1, 7, 0⟩ ⟨3, a53, u53, x53, 0, 9, 0⟩ ⟨0, a57, u57, x57, 0, 0, 0⟩ ⟨0, a66, u66, x66, 0, 5, 0⟩) ?_
      (try with_reducible refine wpList_nil ?_)
      refine hq.out _ _ ((Ext.refl V).alloc _) ?_
      rw [hps] at hTab
      exact ⟨V.heap.size, rfl, hTab, by simp⟩
    · refine stepI hmk0 (by rfl) rfl (by as_aux_lemma => kernel_rfl) ?_
      intro xs V Q' hS hf hq hP
      have f67 : ∃ g, (xs 67) = .slice (some ⟨g, 0, none⟩) 14 14 ∧ TabN V g ∧ g < V.heap.size := hf 67 (by as_aux_lemma => kernel_rfl)
      rw [hmk xs] at hq ⊢
      simp only [Act.put, List.setIfInBounds_toArray, List.set_cons_zero, List.set_cons_succ] at hq
      clear hf hP
      generalize xs 67 = y67 at *
      obtain ⟨g, e67, q67⟩ := f67
      subst e67
      (repeat (first | go_guarded | go_step))
      (try with_reducible refine wpList_nil ?_)
      refine hq.out _ _ (Ext.refl V) ?_
      rfl
    intro xs V hS hf
    have f67 : ∃ g, (xs 67) = .slice (some ⟨g, 0, none⟩) 14 14 ∧ TabN V g ∧ g < V.heap.size := hf 67 (by kernel_rfl)
    have f68 : (xs 68) = (.int .i64 14) := hf 68 (by kernel_rfl)
    rw [hmk xs]
    generalize xs 67 = y67 at *
    generalize xs 68 = y68 at *
    subst f68
    obtain ⟨g, rfl, hTb, hgz⟩ := f67
    clear hf hmk hmk0
    refine NoPanic.normal ?_
    go_wp2_with fail
    go_meet
    exact ⟨g, rfl, rfl, rfl, hTb, hgz, hS⟩
  case rest =>
  obtain ⟨g, rfl, rfl, rfl, hTb, hgz, hXZ⟩ := hcut
  obtain ⟨Z, rfl⟩ : ∃ Z : World, Z = wc := ⟨_, rfl⟩
  have hbZ : Ext wb Z := hXb.trans hXZ
  have hwZ : Ext w Z := (hwY2.trans hY2b).trans hbZ
  have HT := Lib.hid hTb
  clear hTb H3b H4b H5b H6b HZb HZa HZ hT1 hT2
  go_wp2_with fail
  go_loopw [9, 10, 11, 12, 119] (fun _ _ _ _ s119 wr => ∃ k : Nat, k ≤ 14 ∧ s119 = .int .i64 k ∧ Ext Z wr) (fun _ _ _ _ s119 _ => 14 - (intOf s119).toNat)
  case atStart => exact ⟨0, by omega, rfl, Ext.refl _⟩
  case round =>
    obtain ⟨k, hk, rfl, hZr⟩ := hrel
    obtain ⟨wo, rfl⟩ : ∃ wo : World, wo = wr := ⟨_, rfl⟩
    by_cases hkl : k < 14
    ·
      obtain ⟨r, hr⟩ : ∃ r, rowsN[k]? = some r := ⟨_, List.getElem?_eq_getElem (by rw [rowsN_len]; exact hkl)⟩
      have hok := rowN_facts (List.all_eq_true.1 rowsN_ok r (List.mem_of_getElem? hr))
      obtain ⟨a, u, x, xl, hcell, hA, hU, hX⟩ := (HT.out.ext hZr hgz) k r hr
      obtain ⟨aA, ac, rfl, hA1, hA2, hA3⟩ := id hA
      obtain ⟨uA, uc, rfl, hU1, hU2, hU3⟩ := id hU
      obtain ⟨xA, xc, rfl, -, -, -⟩ := hX
      clear hA1 hA2 hA3 hU1 hU2 hU3 hr
      have HOk := Lib.hid hok
      have HA := Lib.hid hA
      have HU := Lib.hid hU
      have HCell := Lib.hid hcell
      clear hok hA hU hcell
      have hki : (k : Int) < 14 := by omega
      have hk0 : (0 : Int) ≤ (k : Int) := by omega
      go_upto_region 15 with fail
      go_cut [9] (fun s9 wx => ∃ b9 : Nat, s9 = .pointer (some ⟨b9, 0, none⟩) ∧ wx.heap[b9]? = some (.cells (rowC r.code (.slice aA r.ans.length ac) (.slice uA r.auth.length uc) (.slice xA xl.length xc) r.n r.t r.e).toArray 40) ∧ Ext wo wx)
      case first =>
        as_aux_lemma =>
        have hz9 : (wo.alloc (.cells (rowC 0 (.slice none 0 0) (.slice none 0 0) (.slice none 0 0) 0 0 0).toArray 40)).heap[wo.heap.size]? = some (.cells (rowC 0 (.slice none 0 0) (.slice none 0 0) (.slice none 0 0) 0 0 0).toArray 40) := heap_alloc_new _ _
        have hcell := HCell.out
        go_wp2_with (first
          | (refine wpList_load_atG (by rfl) 40 (.tmp 121) rfl g (k * 24) (by first | rfl | go_num | (simp; done)) (rowC r.code (.slice aA r.ans.length ac) (.slice uA r.auth.length uc) (.slice xA xl.length xc) r.n r.t r.e) hcell _ Tryz.underlying40 rfl (by kernel_rfl) ?_)
          | (refine Go.Great.wpList_allocTo rfl (some 9) rfl (.pointer (some ⟨wo.heap.size, 0, none⟩)) (.cells (rowC 0 (.slice none 0 0) (.slice none 0 0) (.slice none 0 0) 0 0 0).toArray 40) (by kernel_rfl) ?_)
          | (refine Go.wpList_store_rowTo rfl 40 (.tmp 9) (.tmp 122) rfl rfl wo.heap.size (rowC r.code (.slice aA r.ans.length ac) (.slice uA r.auth.length uc) (.slice xA xl.length xc) r.n r.t r.e).toArray rfl rfl 40 _ hz9 (by kernel_rfl) rfl (by kernel_rfl) ?_; rw [alloc_setRow wo (rowC 0 (.slice none 0 0) (.slice none 0 0) (.slice none 0 0) 0 0 0).toArray (rowC r.code (.slice aA r.ans.length ac) (.slice uA r.auth.length uc) (.slice xA xl.length xc) r.n r.t r.e).toArray 40 wo.heap.size rfl])
          | fail)
        go_meet
        exact ⟨_, rfl, heap_alloc_new _ _, (Ext.refl _).alloc _⟩
      case rest =>
      obtain ⟨b9, rfl, r9, hoX⟩ := hcut
      obtain ⟨X9, rfl⟩ : ∃ X9 : World, X9 = wc := ⟨_, rfl⟩
      have hZ9 : Ext Z X9 := hZr.trans hoX
      have hw9 : Ext w X9 := hwZ.trans hZ9
      have rq := H1b.out X9 (hbZ.trans hZ9)
      have q0 : X9.cell? ⟨g1, 0, none⟩ = some (S [1, 65, 0]) := box_cellN rq rfl
      have q1 : X9.cell? ⟨g1, 1, none⟩ = some (.int .u16 1) := box_cellN rq rfl
      have q2 : X9.cell? ⟨g1, 2, none⟩ = some (.int .u16 1) := box_cellN rq rfl
      clear rq
      have hmc : ∀ j v, (msgC r.code (.slice aA r.ans.length ac) (.slice uA r.auth.length uc) (.slice xA xl.length xc))[j]? = some v → X9.cell? ⟨b9, 0 + j, none⟩ = some v := by
        intro j v hv
        have hj := (List.getElem?_eq_some_iff.1 hv).1
        rw [Nat.zero_add]
        refine box_cellN r9 ?_
        rw [List.getElem?_toArray, show (rowC r.code (.slice aA r.ans.length ac) (.slice uA r.auth.length uc) (.slice xA xl.length xc) r.n r.t r.e) = (msgC r.code (.slice aA r.ans.length ac) (.slice uA r.auth.length uc) (.slice xA xl.length xc)) ++ [.int .i64 (r.n : Int), .int .u32 r.t, .int .i64 (r.e : Int)] from rfl, List.getElem?_append_left hj]
        exact hv
      have HVo := Lib.hid (show Calls Tryz.prog 8 #[.agg #[S [1, 65, 0], .int .u16 1, .int .u16 1], .agg (msgC r.code (.slice aA r.ans.length ac) (.slice uA r.auth.length uc) (.slice xA xl.length xc)).toArray] X9 (VerPost (verOf nQ 1 1 r.code r.ans r.auth) X9) from ver_of ⟨0, false, 0, false, false, false, false, false, false, false, none, 0, 0, xA, xl.length, xc, false, 0, 0, 0, 0, none, 0, 0⟩ [1, 65, 0] 1 1 r.code 0 aA ac uA uc r.ans r.auth X9 (hg.ext hw9) (HA.out.ext hoX) (HU.out.ext hoX) HOk.out.ab HOk.out.ub HOk.out.ao HOk.out.uo (by decide))
      unfold VerPost at HVo
      obtain ⟨R, hR⟩ : ∃ R, R = verOf nQ 1 1 r.code r.ans r.auth := ⟨_, rfl⟩
      have hb0 : R.err = r.e ∧ R.time = r.t ∧ R.sets.length = r.n ∧ (r.e ≠ 0 → R.sets = [] ∧ R.soa = [] ∧ R.code = 0) := by rw [hR]; exact ⟨HOk.out.err, HOk.out.time, HOk.out.n, HOk.out.bad⟩
      rw [← hR, hb0.1, hb0.2.1] at HVo
      have HB0 := Lib.hid hb0.2.2
      clear hR hb0
      go_upto_region 16 with fail
      go_cut [10, 11, 12] (fun s10 s11 s12 wx => ∃ (b10 : Nat) (sA oA : Option Addr) (sc oc : Nat), s10 = .pointer (some ⟨b10, 0, none⟩) ∧ s11 = .int .u32 r.t ∧ s12 = .int .i64 (r.e : Int) ∧ wx.heap[b10]? = some (.cells #[.int .u8 R.code, .slice sA R.sets.length sc, .slice oA R.soa.length oc] 44) ∧ sc ≤ maxLen ∧ oc ≤ maxLen ∧ Ext X9 wx)
      case first =>
        as_aux_lemma =>
        go_wp2_with (first | (refine wpList_load_atG (by rfl) 38 (.tmp 125) rfl b9 0 rfl (msgC r.code (.slice aA r.ans.length ac) (.slice uA r.auth.length uc) (.slice xA xl.length xc)) hmc _ Tryz.underlying38 rfl (by kernel_rfl) ?_) | fail)
        refine HVo.out.mono ?_
        rintro e w16 ⟨vs, vo, rfl, hs, ho, -, hE16⟩
        obtain ⟨sA, sc, rfl, -, hsc⟩ := hs.shape
        obtain ⟨oA, oc, rfl, -, hoc⟩ := ho.shape
        go_wp2_with fail
        go_meet
        exact ⟨_, sA, oA, sc, oc, rfl, rfl, rfl, heap_alloc_new _ _, hsc, hoc, hE16.alloc _⟩
      case rest =>
      obtain ⟨b10, sA, oA, sc, oc, rfl, rfl, rfl, r10, hsc, hoc, hE16⟩ := hcut
      obtain ⟨X16, rfl⟩ : ∃ X16 : World, X16 = wc := ⟨_, rfl⟩
      clear hmc q0 q1 q2 HVo
      have r916 := (hE16.block _ (Array.getElem?_eq_some_iff.1 r9).1).trans r9
      have hZ16 : Ext Z X16 := hZ9.trans hE16
      have c21 : X16.cell? ⟨b9, 21, none⟩ = some (.int .i64 (r.n : Int)) := box_cellN r916 rfl
      have c22 : X16.cell? ⟨b9, 22, none⟩ = some (.int .u32 r.t) := box_cellN r916 rfl
      have c23 : X16.cell? ⟨b9, 23, none⟩ = some (.int .i64 (r.e : Int)) := box_cellN r916 rfl
      have v0 : X16.cell? ⟨b10, 0, none⟩ = some (.int .u8 R.code) := box_cellN r10 rfl
      have v1 : X16.cell? ⟨b10, 1, none⟩ = some (.slice sA R.sets.length sc) := box_cellN r10 rfl
      have v2 : X16.cell? ⟨b10, 2, none⟩ = some (.slice oA R.soa.length oc) := box_cellN r10 rfl
      rw [HB0.out.1] at v1
      by_cases he : r.e = 0
      · have he0 : (((r.e : Nat) : Int) != 0) = false := by rw [he]; rfl
        clear he
        go_wp2_with fail
        go_roundw
        case rel => exact ⟨k + 1, by omega, by go_num, hZ16⟩
        case measure => simp [intOf]; omega
      · have he0 : (((r.e : Nat) : Int) != 0) = true := by simpa using he
        obtain ⟨p1, p2, p3⟩ := HB0.out.2 he
        have hn0 : r.n = 0 := by rw [← HB0.out.1, p1]; rfl
        rw [p2] at v2
        rw [p3] at v0
        rw [hn0] at v1 c21
        have HSm := Lib.hid (ref11_same 0 0 0 0 (.slice sA 0 sc) (.slice oA 0 oc) (.slice none 0 0) (.slice none 0 0) [] [] [] [] X16 (sets_none _ sA sc hsc) (sets_none _ oA oc hoc) (sets_none _ none 0 (Nat.zero_le _)) (sets_none _ none 0 (Nat.zero_le _)))
        rw [show verSame 0 [] [] 0 [] [] = true from rfl] at HSm
        clear he p1 p2 p3 hn0
        go_wp2_with fail
        refine HSm.out.mono ?_
        rintro e w17 ⟨rfl, hE18⟩
        go_wp2_with fail
        go_roundw
        case rel => exact ⟨k + 1, by omega, by go_num, hZ16.trans hE18⟩
        case measure => simp [intOf]; omega
    ·
      have hki : ¬ (k : Int) < 14 := by omega
      have HV0 := Lib.hid (fun V (hV : Ext w V) => show Calls Tryz.prog 8 #[.agg #[S [], .int .u16 1, .int .u16 1], .agg #[.int .u16 0, .bool false, .int .u8 0, .bool false, .bool false, .bool false, .bool false, .bool false, .bool false, .bool false, .int .u8 0, .slice none 0 0, .slice none 0 0, .slice none 0 0, .slice none 0 0, .bool false, .int .u16 0, .int .u8 0, .int .u8 0, .int .u16 0, .slice none 0 0]] V (VP 0 0 0 0 1 V) from by
        have h := ver_of x0 [] 1 1 0 0 none 0 none 0 [] [] V (hg.ext hV) (recs_none V) (recs_none V) (by unfold RecsBd; decide) (by unfold RecsBd; decide) (by unfold RecsOk; decide) (by unfold RecsOk; decide) (by decide)
        rw [vN_of] at h
        exact h.mono fun e w' hp => vp_of hp)
      have hwo := hwZ.trans hZr
      go_wp2_with fail
      refine (HV0.out _ hwo).mono ?_
      rintro e w20 ⟨A0, c0, B0, d0, rfl, -, -, hE20⟩
      go_upto_region 21 with fail
      obtain ⟨Y0, hY0⟩ : ∃ Y0, Y0 = w20.alloc (.cells #[.int .u8 0, .slice A0 0 c0, .slice B0 0 d0] 44) := ⟨_, rfl⟩
      have hZY : Ext Z Y0 := by rw [hY0]; exact (hZr.trans hE20).alloc _
      rw [← hY0]
      clear hY0
      have hYb : Ext wb Y0 := hbZ.trans hZY
      have hwY : Ext w Y0 := hwZ.trans hZY
      have rq := H1b.out Y0 hYb
      have rr := H2b.out Y0 hYb
      have HRl := Lib.hid (fun (V : World) (g : Nat) (h : g = V.heap.size) => show Recs (V.alloc (.cells #[S [1, 97, 0], .int .u16 1, .int .u16 1, .int .u32 7, S [10, 0, 0, 1]] 28)) 0 (.slice (some ⟨g, 0, none⟩) 1 1) [nA] from recs_lit V g 0 h (Nat.le_refl _) [nA] (by decide))
      have HVa := Lib.hid (fun V (hV : Ext w V) (g : Nat) (h : Recs V 0 (.slice (some ⟨g, 0, none⟩) 1 1) [nA]) => show Calls Tryz.prog 8 #[.agg #[S [1, 65, 0], .int .u16 1, .int .u16 1], .agg #[.int .u16 0, .bool false, .int .u8 0, .bool false, .bool false, .bool false, .bool false, .bool false, .bool false, .bool false, .int .u8 0, .slice none 0 0, .slice (some ⟨g, 0, none⟩) 1 1, .slice none 0 0, .slice none 0 0, .bool false, .int .u16 0, .int .u8 0, .int .u8 0, .int .u16 0, .slice none 0 0]] V (VerPost vA V) from by
        have h := ver_of x0 [1, 65, 0] 1 1 0 0 (some ⟨g, 0, none⟩) 1 none 0 [nA] [] V (hg.ext hV) h (recs_none V) (by unfold RecsBd; decide) (by unfold RecsBd; decide) (by unfold RecsOk; decide) (by unfold RecsOk; decide) (by decide)
        rw [show verOf [1, 65, 0] 1 1 0 [nA] [] = vA from by kernel_rfl] at h
        exact h)
      unfold VerPost vA at HVa
      have hYl : Ext Y0 (Y0.alloc (.cells #[S [1, 97, 0], .int .u16 1, .int .u16 1, .int .u32 7, S [10, 0, 0, 1]] 28)) := (Ext.refl _).alloc _
      have HV1 := Lib.hid (HVa.out _ (hwY.trans hYl) Y0.heap.size (HRl.out Y0 _ rfl))
      have q0 : Y0.cell? ⟨g1, 0, none⟩ = some (S [1, 65, 0]) := box_cellN rq rfl
      have q1 : Y0.cell? ⟨g1, 1, none⟩ = some (.int .u16 1) := box_cellN rq rfl
      have q2 : Y0.cell? ⟨g1, 2, none⟩ = some (.int .u16 1) := box_cellN rq rfl
      have s0 : Y0.cell? ⟨g1 + 1, 0, none⟩ = some (S [1, 97, 0]) := box_cellN rr rfl
      have s1 : Y0.cell? ⟨g1 + 1, 1, none⟩ = some (.int .u16 1) := box_cellN rr rfl
      have s2 : Y0.cell? ⟨g1 + 1, 2, none⟩ = some (.int .u16 1) := box_cellN rr rfl
      have s3 : Y0.cell? ⟨g1 + 1, 3, none⟩ = some (.int .u32 7) := box_cellN rr rfl
      have s4 : Y0.cell? ⟨g1 + 1, 4, none⟩ = some (S [10, 0, 0, 1]) := box_cellN rr rfl
      clear rr HVa HRl
      go_wp2_with fail
      refine HV1.out.mono ?_
      rintro e w21 ⟨vs, vo, rfl, hs, ho, -, hE21⟩
      obtain ⟨sA, sc, rfl, hs1, hsc⟩ := hs.shape
      obtain ⟨oA, oc, rfl, ho1, hoc⟩ := ho.shape
      have hSs := hs.sets.lower (Nat.zero_le _)
      have hSo := ho.sets.lower (Nat.zero_le _)
      clear s0 s1 s2 s3 s4 q0 q1 q2 hs ho HV1
      have hY21 : Ext Y0 w21 := hYl.trans hE21
      go_upto_region 22 with fail
      obtain ⟨Y1, hY1⟩ : ∃ Y1, Y1 = w21.alloc (.cells #[.int .u8 0, .slice sA 1 sc, .slice oA 0 oc] 44) := ⟨_, rfl⟩
      obtain ⟨b16, hb16⟩ : ∃ b16, b16 = w21.heap.size := ⟨_, rfl⟩
      have r16 : Y1.heap[b16]? = some (.cells #[.int .u8 0, .slice sA 1 sc, .slice oA 0 oc] 44) := by rw [hY1, hb16]; exact heap_alloc_new _ _
      have hE211 : Ext w21 Y1 := by rw [hY1]; exact (Ext.refl _).alloc _
      (try rw [← hY1, ← hb16])
      clear hY1 hb16
      have hY01 : Ext Y0 Y1 := hY21.trans hE211
      have HS1 := Lib.hid (fun V (hV : Ext Y1 V) => (hSs.ext (hE211.trans hV)))
      have HS2 := Lib.hid (fun V (hV : Ext Y1 V) => (hSo.ext (hE211.trans hV)))
      clear hSs hSo
      have HEn := Lib.hid (fun (ty : Int) V (hV : Ext Y1 V) => ver_end [1, 65, 0] ty 1 0 0 (.slice sA 1 sc) [⟨[1, 97, 0], 1, 1, 0, [[10, 0, 0, 1]]⟩] oA 0 oc V (HS1.out V hV) (by unfold SetsBd; decide))
      have HEz := Lib.hid (fun V => ver_end [1, 65, 0] 1 1 0 0 (.slice none 0 0) [] none 0 0 V (sets_none _ none 0 (Nat.zero_le _)) (by unfold SetsBd; simp))
      unfold FindPost at HEn HEz
      have HKe := Lib.hid (fun V (hV : Ext Y1 V) => ver_key 0 0 (.slice sA 1 sc) (.slice oA 0 oc) [⟨[1, 97, 0], 1, 1, 0, [[10, 0, 0, 1]]⟩] [] V (HS1.out V hV) (HS2.out V hV) (by unfold SetKeyOk; decide) (by simp) (by decide) (by decide))
      rw [vA_key] at HKe
      have hEa := HEn.out 1 Y1 (Ext.refl _)
      rw [show endV 1 [⟨[1, 97, 0], 1, 1, 0, [[10, 0, 0, 1]]⟩] = some ⟨[1, 97, 0], 1, 1, 0, [[10, 0, 0, 1]]⟩ from rfl] at hEa
      have HEa := Lib.hid hEa
      clear hEa
      have rq1 := H1b.out Y1 (hYb.trans hY01)
      have q0 : Y1.cell? ⟨g1, 0, none⟩ = some (S [1, 65, 0]) := box_cellN rq1 rfl
      have q1 : Y1.cell? ⟨g1, 1, none⟩ = some (.int .u16 1) := box_cellN rq1 rfl
      have q2 : Y1.cell? ⟨g1, 2, none⟩ = some (.int .u16 1) := box_cellN rq1 rfl
      have v0 : Y1.cell? ⟨b16, 0, none⟩ = some (.int .u8 0) := box_cellN r16 rfl
      have v1 : Y1.cell? ⟨b16, 1, none⟩ = some (.slice sA 1 sc) := box_cellN r16 rfl
      have v2 : Y1.cell? ⟨b16, 2, none⟩ = some (.slice oA 0 oc) := box_cellN r16 rfl
      clear rq
      go_cut [19, 20] (fun s19 s20 wx => s20 = .bool true ∧ Ext Y1 wx)
      case first =>
        as_aux_lemma =>
        go_wp2_with fail
        refine HEa.out.mono ?_
        rintro e w22 ⟨dv, rfl, hdv, hE22⟩
        obtain ⟨dA, dc, rfl, -⟩ := hdv
        dsimp only [setVal]
        go_wp2_with fail
        go_meet
        exact ⟨rfl, hE22.alloc _⟩
      case rest =>
      obtain ⟨rfl, hE22⟩ := hcut
      obtain ⟨Y2v, rfl⟩ : ∃ Y2v : World, Y2v = wc := ⟨_, rfl⟩
      clear q0 q1 q2 v0 v1 v2 HEa
      have rq2 := H1b.out Y2v (hYb.trans (hY01.trans hE22))
      have rv2 := ((hE22).block _ (Array.getElem?_eq_some_iff.1 r16).1).trans r16
      have q0 : Y2v.cell? ⟨g1, 0, none⟩ = some (S [1, 65, 0]) := box_cellN rq2 rfl
      have q1 : Y2v.cell? ⟨g1, 1, none⟩ = some (.int .u16 1) := box_cellN rq2 rfl
      have q2 : Y2v.cell? ⟨g1, 2, none⟩ = some (.int .u16 1) := box_cellN rq2 rfl
      have v0 : Y2v.cell? ⟨b16, 0, none⟩ = some (.int .u8 0) := box_cellN rv2 rfl
      have v1 : Y2v.cell? ⟨b16, 1, none⟩ = some (.slice sA 1 sc) := box_cellN rv2 rfl
      have v2 : Y2v.cell? ⟨b16, 2, none⟩ = some (.slice oA 0 oc) := box_cellN rv2 rfl
      clear rq2 rv2
      have hEb := HEn.out 28 Y2v hE22
      rw [show endV 28 [⟨[1, 97, 0], 1, 1, 0, [[10, 0, 0, 1]]⟩] = none from rfl] at hEb
      have HEb := Lib.hid hEb
      clear hEb
      go_upto_region 23 with fail
      go_cut [21, 22] (fun s21 s22 wx => s22 = .bool false ∧ Ext Y2v wx)
      case first =>
        as_aux_lemma =>
        go_wp2_with fail
        refine HEb.out.mono ?_
        rintro e w23 ⟨dv, rfl, hdv, hE23⟩
        obtain ⟨dA, dc, rfl, -⟩ := hdv
        dsimp only [setVal]
        go_wp2_with fail
        go_meet
        exact ⟨rfl, hE23.alloc _⟩
      case rest =>
      obtain ⟨rfl, hE23⟩ := hcut
      obtain ⟨Y3, rfl⟩ : ∃ Y3 : World, Y3 = wc := ⟨_, rfl⟩
      have hE13 := hE22.trans hE23
      clear q0 q1 q2 v0 v1 v2 HEb
      have rq2 := H1b.out Y3 (hYb.trans (hY01.trans hE13))
      have rv2 := ((hE13).block _ (Array.getElem?_eq_some_iff.1 r16).1).trans r16
      have q0 : Y3.cell? ⟨g1, 0, none⟩ = some (S [1, 65, 0]) := box_cellN rq2 rfl
      have q1 : Y3.cell? ⟨g1, 1, none⟩ = some (.int .u16 1) := box_cellN rq2 rfl
      have q2 : Y3.cell? ⟨g1, 2, none⟩ = some (.int .u16 1) := box_cellN rq2 rfl
      have v0 : Y3.cell? ⟨b16, 0, none⟩ = some (.int .u8 0) := box_cellN rv2 rfl
      have v1 : Y3.cell? ⟨b16, 1, none⟩ = some (.slice sA 1 sc) := box_cellN rv2 rfl
      have v2 : Y3.cell? ⟨b16, 2, none⟩ = some (.slice oA 0 oc) := box_cellN rv2 rfl
      clear rq2 rv2
      have hEc := HEz.out Y3
      rw [show endV 1 [] = none from rfl] at hEc
      have HEc := Lib.hid hEc
      clear hEc
      go_upto_region 24 with fail
      go_cut [23, 24] (fun s23 s24 wx => s24 = .bool false ∧ Ext Y3 wx)
      case first =>
        as_aux_lemma =>
        go_wp2_with fail
        refine HEc.out.mono ?_
        rintro e w24 ⟨dv, rfl, hdv, hE24⟩
        obtain ⟨dA, dc, rfl, -⟩ := hdv
        dsimp only [setVal]
        go_wp2_with fail
        go_meet
        exact ⟨rfl, hE24.alloc _⟩
      case rest =>
      obtain ⟨rfl, hE24⟩ := hcut
      obtain ⟨Y4, rfl⟩ : ∃ Y4 : World, Y4 = wc := ⟨_, rfl⟩
      have hE14 := hE13.trans hE24
      clear q0 q1 q2 v0 v1 v2 HEc
      have rq2 := H1b.out Y4 (hYb.trans (hY01.trans hE14))
      have rv2 := ((hE14).block _ (Array.getElem?_eq_some_iff.1 r16).1).trans r16
      have q0 : Y4.cell? ⟨g1, 0, none⟩ = some (S [1, 65, 0]) := box_cellN rq2 rfl
      have q1 : Y4.cell? ⟨g1, 1, none⟩ = some (.int .u16 1) := box_cellN rq2 rfl
      have q2 : Y4.cell? ⟨g1, 2, none⟩ = some (.int .u16 1) := box_cellN rq2 rfl
      have v0 : Y4.cell? ⟨b16, 0, none⟩ = some (.int .u8 0) := box_cellN rv2 rfl
      have v1 : Y4.cell? ⟨b16, 1, none⟩ = some (.slice sA 1 sc) := box_cellN rv2 rfl
      have v2 : Y4.cell? ⟨b16, 2, none⟩ = some (.slice oA 0 oc) := box_cellN rv2 rfl
      clear rq2 rv2
      have HK := Lib.hid (HKe.out Y4 hE14)
      clear q0 q1 q2
      go_wp2_with fail
      refine HK.out.mono ?_
      rintro e w25 ⟨rfl, hE25⟩
      go_wp2_with fail
      go_ret
      exact ⟨rfl, (hwY.trans (hY01.trans hE14)).trans hE25⟩
end Go.Proofs.YtcpikbanghoflaaGreatDoor
namespace Go.Proofs.YtcpikbanghoflaaGreatDoor
set_option linter.unusedSimpArgs false
set_option linter.unusedVariables false
open Go.ChangeShapes Go.WideShapes Go.ChangeAt Go.RowKit
set_option maxRecDepth 100000
theorem verdictNames_contract (H : Type) (enc : TypeId × Value → H) (W : World) (base : Nat) (args : Array Value) (ds gs : List (DataW H)) (before : List MemPlace)
    (hval : ∀ (j : Nat) t v, Tryz.f3.params[j]? = some t → args[j]? = some v → Value.okWide Tryz.prog W .any base t v)
    (hW : DataW.Whole enc Tryz.prog Tryz.f3.params.toList Rows.verdictNamesSpec.vars false W args.toList ds gs before)
    (hsz : (DataW.weightsEach Tryz.prog (Tryz.f3.params.toList ++ (OpenSpec.ofChange Rows.verdictNamesSpec).bare.plain.varTypes Tryz.prog) (ds ++ gs)).all (· ≤ reachBytes) = true)
    (hL : laidMetH Tryz.prog laidL W) :
    Calls Tryz.prog 3 args W fun e W' => ∃ v, e = .returned v ∧ Rows.verdictNamesSpec.post enc Tryz.prog Tryz.f3 false true false false W args v W' := by
  have hW' := hW
  have hp : ∀ t ∈ Tryz.f3.params.toList, Tryz.prog.readableRec t = true ∧ t < Tryz.prog.types.size := by
    have h : (Tryz.f3.params.toList.all fun t => Tryz.prog.readableRec t && decide (t < Tryz.prog.types.size)) = true := by kernel_rfl
    simpa only [List.all_eq_true, Bool.and_eq_true, decide_eq_true_eq] using h
  have hg := laid_of hL
  obtain ⟨p, q, hA0, hV, rfl, _, _⟩ := hW
  have hA : DataW.TrodAll enc Tryz.prog W 0 (fun _ => true) true Tryz.f3.params.toList args.toList ds p := hA0
  clear hA0
  rw [Tryz.params3] at hA hval hsz
  obtain ⟨rfl, rfl⟩ := trodVars_none hV
  obtain ⟨rfl, rfl, rfl⟩ := trodAll_none hA
  refine (law_verdictNames W hg).mono ?_
  rintro e W' ⟨rfl, hE⟩
  exact ⟨_, rfl, post_true laid_out rfl (by kernel_rfl) Tryz.underlying4 hp hW' rfl hE⟩

theorem verdictNames_reads (os : Os) {H : Type} (enc : TypeId × Value → H) : ∃ places, DataW.whole enc Tryz.prog ((laidWorld os).forCall (fun _ _ => 0) ⟨#[], #[], []⟩).memory Tryz.f3.params.toList Rows.verdictNamesSpec.vars false (#[] : Array Value).toList 8 = some ([], [], places) :=
  ⟨[], by kernel_rfl⟩
theorem verdictNames_lifted (os : Os) (started : os.Started) (H : Type) (enc : TypeId × Value → H) (F : Stop.Interp) :
    ReturnsInHanded {} Tryz.checked os 3 .any ((OpenSpec.ofChange Rows.verdictNamesSpec).preRow enc Tryz.prog Tryz.f3 Rows.verdictNamesRow.domain false Rows.verdictNamesRow.laid) (((OpenSpec.ofChange Rows.verdictNamesSpec).at F).post enc Tryz.prog Tryz.f3 false true false false) := by
  obtain ⟨places, hx⟩ := verdictNames_reads os enc
  refine returnsInHanded_of_row (C := Tryz.checked) (s := OpenSpec.ofChange Rows.verdictNamesSpec) own_knob started (by kernel_rfl) Tryz.func3
    (witness_row_at (enc := enc) (C := Tryz.checked) false (laidWorld os) #[] rfl (by kernel_rfl) (by kernel_rfl) (by kernel_rfl)
      (OpenSpec.preRow_of_cond 8 hx (by kernel_rfl) (fun k hk => by cases hk) (by kernel_rfl) (laid_met os _))) ?_
  intro W base args ds gs before hval hW _ _ hsz hL _ _
  exact verdictNames_contract H enc W base args ds gs before hval hW hsz hL
theorem band_card (a b : Bool) (h1 : a = true) (h2 : b = true) : (a && b) = true := by rw [h1, h2]; rfl
set_option maxHeartbeats 4000000 in
theorem verdictNames_joined : joinedFacts Tryz.prog 3 Tryz.f3 (OpenSpec.ofChange Rows.verdictNamesSpec).bare Rows.verdictNamesRow = true := by
  unfold joinedFacts; repeat' (with_reducible refine band_card _ _ ?_ ?_)
  all_goals (as_aux_lemma => kernel_rfl)
set_option maxHeartbeats 4000000 in
theorem verdictNames_said : Rows.VerdictNamesSaid :=
  OpenClaim.holds_of_cond 3 Tryz.f3 rfl rfl rfl rfl rfl rfl rfl ⟨rfl, rfl, rfl, rfl, rfl⟩ rfl rfl rfl rfl rfl (by kernel_rfl) Tryz.func3 verdictNames_joined
    (of_decide_eq_true (by kernel_rfl)) (by unfold Func.isWrapper; first | (rw [if_pos (by decide +kernel)]; kernel_rfl) | (rw [if_neg (by decide +kernel)]; exact ⟨rfl, rfl⟩))
    (fun os started H enc _ F => by rw [OpenClaim.pre_eq_preRow]; exact verdictNames_lifted os started H enc F)
theorem verdictNames_card : Rows.VerdictNamesCardSaid :=
  Claim7.holds_tied_plain_at .later [] _ _ _ _ verdictNames_said (fun _ h => by cases h) (by as_aux_lemma => kernel_rfl) (fun _ h => by cases h) verdictNames_row_tie rfl ⟨rfl, rfl⟩ (by as_aux_lemma => kernel_rfl) rfl
    (fun f fn hf hfn => by
      obtain rfl : f = 3 := Option.some.inj ((show Tryz.prog.funcNamed Rows.verdictNamesRow.func = some 3 by kernel_rfl).symm.trans hf) |>.symm
      obtain rfl : fn = Tryz.f3 := (Option.some.inj (Tryz.func3.symm.trans hfn)).symm
      refine ⟨by kernel_rfl, fun j t ht => ?_⟩
      have h : (Tryz.f3.params.toList.all fun t => !Tryz.prog.wantsStandIn t) = true := by kernel_rfl
      have h2 := List.all_eq_true.1 h t (by simpa using Array.mem_of_getElem? ht)
      exact (by simpa using h2 : Tryz.prog.wantsStandIn t = false))
    (by as_aux_lemma => kernel_rfl)
#print axioms verdictNames_card
end Go.Proofs.YtcpikbanghoflaaGreatDoor
