/- hustingslaw30.ResolverNames returns true for every input, and every argument reads behind the call as it read before; the listed variables are tied to the program's text. No condition of ours. -/
import Derived.Test.YtcpikbanghoflaaGreatDoorCards
import Derived.Test.YtcpikbanghoflaaGreatDoorTie
import Derived.Test.YtcpikbanghoflaaGreatDoorBb
import Derived.ProofKit
import Derived.OpenShut
import Derived.LaidHandle
import Derived.LaidLaws
import Derived.Test.YtcpikbanghoflaaGreatDoorBwy
import Derived.Deep.DeepHandedRow
import Derived.Test.YtcpikbanghoflaaGreatDoorBpr
import Derived.Test.YtcpikbanghoflaaGreatDoorBl3
import Derived.Test.YtcpikbanghoflaaGreatDoorBhx
namespace Go.Proofs.YtcpikbanghoflaaGreatDoor
set_option linter.unusedSimpArgs false
set_option linter.unusedVariables false
open Go.ChangeShapes Go.WideShapes Go.ChangeAt Go.RowKit
set_option maxRecDepth 100000

theorem own_knob : ownKnob Tryz.prog.godebug = none := by kernel_rfl
theorem et_at : Tryz.prog.globalNamed "errors.errorType" = some 4 := by kernel_rfl
theorem one_row : ((List.range Tryz.prog.types.size).filter fun t => Tryz.prog.rowNamed t [101, 114, 114, 111, 114]) = [102] := by kernel_rfl
def laidL : List (String × DataW Unit) := [("errors.errorType", Rows.laid_errors_errorType), ("hustings/head.bits", Rows.laid_hustings_head_bits)]

theorem laid_of {W : World} (h : laidMetH Tryz.prog laidL W) : Laid W := by
  have h' : laidMet Tryz.prog [("hustings/head.bits", Rows.laid_hustings_head_bits)] W ∧ handlesMet Tryz.prog [("errors.errorType", Rows.laid_errors_errorType)] W := h
  obtain ⟨name, u, ty, e1, e2, e3, e4, e5⟩ := h'.2 _ (List.mem_singleton.2 rfl)
  have en : name = [101, 114, 114, 111, 114] := (Option.some.inj e1).symm
  subst en
  obtain rfl : u = 205 := Option.some.inj (e2.symm.trans (by kernel_rfl))
  have hm : ty ∈ (List.range Tryz.prog.types.size).filter fun t => Tryz.prog.rowNamed t [101, 114, 114, 111, 114] := List.mem_filter.2 ⟨List.mem_range.2 e3, e4⟩
  rw [one_row] at hm
  obtain rfl := List.mem_singleton.1 hm
  have hh : typeHandle Tryz.prog 102 = hdl 102 := by kernel_rfl
  rw [hh] at e5
  show W.cell? ⟨4, 0, none⟩ = _
  simpa using World.var?_cell et_at e5 0

theorem bits_at : Tryz.prog.globalNamed "hustings/head.bits" = some 2 := by kernel_rfl
theorem one_cell {l : List Value} {i : Nat} {v : Value} (h : (l.drop i).take 1 = [v]) : l[i]? = some v := by
  have h1 := congrArg (fun x : List Value => x[0]?) h
  simpa using h1
def bitsL : List Int := [32768, 1024, 512, 256, 128, 64, 32, 16]
theorem laidbits_of {W : World} (h : laidMetH Tryz.prog laidL W) : BitsAt W := by
  have h' : laidMet Tryz.prog [("hustings/head.bits", Rows.laid_hustings_head_bits)] W ∧ handlesMet Tryz.prog [("errors.errorType", Rows.laid_errors_errorType)] W := h
  obtain ⟨ps, hlv, _, _⟩ := h'.1
  obtain ⟨g, t, cs, fuel, p, q, e1, e2, e3, e4, _, _⟩ := hlv
  obtain rfl : 2 = g := Option.some.inj (bits_at.symm.trans e1)
  obtain rfl : 252 = t := Option.some.inj ((show (Tryz.prog.globals[2]?).map (·.type) = some 252 by kernel_rfl).symm.trans e2)
  obtain ⟨xs, n, _, hd, _, hlen, hf⟩ := DataW.trod_array Tryz.underlying252 e4
  have hd1 := (Prod.mk.inj hd).1
  have key : ∀ i, i < 8 → cs.toList[i]? = some (.int .u16 (bitsL.getD i 0)) := fun i hi => by
    have hx : (xs.map (·.1))[i]? = some (.lit (.int .u16 (bitsL.getD i 0))) := by
      have h1 : xs.map (·.1) = bitsL.map fun k => (.lit (.int .u16 k) : DataW Unit) := by
        injection hd1 with h1
        exact h1.symm
      rw [h1, List.getElem?_map, List.getElem?_eq_getElem (show i < bitsL.length from hi)]
      simp [List.getD, List.getElem?_eq_getElem (show i < bitsL.length from hi)]
    rw [List.getElem?_map] at hx
    obtain ⟨y, hy1, hy2⟩ := Option.map_eq_some_iff.1 hx
    have h2 := (hf i hi).trans hy1
    rw [show Tryz.prog.cellsOf 23 = 1 by kernel_rfl, Nat.mul_one] at h2
    obtain ⟨m, g1, g2, _⟩ := DataW.trod_int Tryz.underlying23 h2
    rw [g2] at hy2
    have hm : m = bitsL.getD i 0 := by
      injection hy2 with hy2
      injection hy2
    rw [← hm]
    exact one_cell g1
  have key2 : ∀ i, i < 8 → W.cell? ⟨2, i, none⟩ = some (.int .u16 (bitsL.getD i 0)) := fun i hi => by
    rw [World.var?_cell bits_at e3 i]
    simpa using key i hi
  exact ⟨key2 0 (by omega), key2 1 (by omega), key2 2 (by omega), key2 3 (by omega), key2 4 (by omega), key2 5 (by omega), key2 6 (by omega), key2 7 (by omega)⟩
noncomputable def laidWorld (os : Os) : World :=
  let w0 := World.holding Tryz.prog os ⟨#[], #[], []⟩
  { w0 with heap := (w0.heap.modify 4 fun
      | .cells _ t frozen => .cells #[errTy] t frozen
      | o => o).modify 2 fun
      | .cells _ t frozen => .cells #[.int .u16 32768, .int .u16 1024, .int .u16 512, .int .u16 256, .int .u16 128, .int .u16 64, .int .u16 32, .int .u16 16] t frozen
      | o => o }
theorem laid_met (os : Os) (args : Array Value) : laidMetH Tryz.prog laidL ((laidWorld os).forCall (fun _ _ => 0) ⟨#[], args, []⟩).memory :=
  laidMetH_of_parts (laidMet_of_run' 8 (by kernel_rfl) (by kernel_rfl)) (by kernel_rfl)

section
variable {H : Type} {enc : TypeId × Value → H} {P : Program}
theorem trodAll_stays (hl : laidOutB P = true) {W W' : World} (hb : Below W.heap.size W W') {sp : Nat → Bool} : ∀ {ts : List TypeId} {vs : List Value} {ds : List (DataW H)} {ps : List MemPlace},
    (∀ t ∈ ts, P.readableRec t = true ∧ t < P.types.size) → DataW.TrodAll enc P W 0 (fun _ => true) true ts vs ds ps → (∀ x ∈ ps, x.block < W.heap.size) → (∀ x ∈ ps, sp x.block = true) → DataW.TrodAll enc P W' 0 sp true ts vs ds ps
  | [], _, _, _, _, h, _, _ => by obtain ⟨rfl, rfl, rfl⟩ := trodAll_nil h; exact trodAll_mk0
  | t :: ts, _, _, _, ht, h, hlt, hs => by
    obtain ⟨v, vs, d, ds, p, q, rfl, rfl, rfl, h0, h1⟩ := trodAll_cons h
    have h2 := ht t (by simp)
    exact trodAll_cons_mk (WideElems.Trod_stays hl h2.1 h2.2 h0 (fun x hx => hb.same (hlt x (by simp [hx]))) (fun x hx => hs x (by simp [hx])))
      (trodAll_stays hl hb (fun t ht' => ht t (by simp [ht'])) h1 (fun x hx => hlt x (by simp [hx])) (fun x hx => hs x (by simp [hx])))
theorem post_of_below {f : Func} {s : ChangeSpec} {apart fresh handsOn again : Bool} {W W' : World} {args : Array Value} {v : Value} {ds gs : List (DataW H)} {before pa pv : List MemPlace}
    (hW : DataW.Whole enc P f.params.toList s.vars apart W args.toList ds gs before)
    (hres : ∀ (b : Nat) (sp : Nat → Bool) (hd : Bool), DataW.TrodAll enc P W' b sp hd f.resultTypes.toList (v.resultList f.resultTypes.size) (s.fn H (ds ++ gs)).results [])
    (hargs : ∀ sp : Nat → Bool, (∀ p ∈ before, sp p.block = true) → DataW.TrodAll enc P W' 0 sp true f.params.toList args.toList (s.fn H (ds ++ gs)).args pa)
    (hvars : ∀ sp : Nat → Bool, (∀ p ∈ before, sp p.block = true) → DataW.TrodVars enc P W' sp s.vars (s.fn H (ds ++ gs)).vars pv)
    (hps : before = pa ++ pv) (hb : Below W.heap.size W W')
    (hok : ∀ (j : Nat) (t : TypeId) (r : Value), f.resultTypes[j]? = some t → (v.resultList f.resultTypes.size)[j]? = some r → Value.okWide P W' .any 0 t r) :
    s.post enc P f apart fresh handsOn again W args v W' := by
  have hlt : ∀ p ∈ before, p.block < W.heap.size := fun p hp => hW.lt p hp
  have hold : ∀ p ∈ before, (fun b => decide (b < W.heap.size)) p.block = true := fun p hp => by simpa using hlt p hp
  refine ⟨ds, gs, before, [], pa, pv, hW, hres _ _ _, hargs _ hold, hvars _ hold, World.keptBut_mono (fun p hp => ⟨hp, ?_⟩) (hb.frame (· ∈ before)), fun _ => ?_⟩
  · rw [hps, List.mem_append] at hp
    exact Or.inr hp
  · obtain ⟨_, _, _, _, _, hz, hn⟩ := hW
    refine ⟨hok, _, _, ([] ++ pa) ++ pv, ⟨[] ++ pa, pv, trodAll_append (hargs _ (fun _ _ => rfl)) (hres _ _ _), hvars _ (fun _ _ => rfl), rfl, ?_, ?_⟩, ?_⟩
    · intro b off hp
      have hin : MemPlace.cell b off ∈ before := by rw [hps]; simpa using hp
      rw [hb.frozen (hlt _ hin)]
      exact hz b off hin
    · intro ha
      have := hn ha
      rw [hps] at this
      simpa using this
    · intro p hp _
      rw [hps]
      simpa using hp
/-- A law that returns true and only makes memory: its post. -/
theorem post_true {f : Func} {s : ChangeSpec} {apart fresh handsOn again : Bool} {W W' : World} {args : Array Value} {ds gs : List (DataW H)} {before : List MemPlace} {t : TypeId}
    (hl : laidOutB P = true) (hvn : s.vars = []) (hr : f.resultTypes = #[t]) (ht : P.underlying t = some .bool)
    (hp : ∀ t ∈ f.params.toList, P.readableRec t = true ∧ t < P.types.size)
    (hW : DataW.Whole enc P f.params.toList s.vars apart W args.toList ds gs before)
    (hfn : s.fn H ds = { results := [.lit (.bool true)], args := ds }) (hb : Ext W W') :
    s.post enc P f apart fresh handsOn again W args (.bool true) W' := by
  have hW' := hW
  obtain ⟨p, q, hA, hV, rfl, _, _⟩ := hW
  rw [hvn] at hV
  obtain ⟨rfl, rfl⟩ := trodVars_none hV
  have hlt : ∀ x ∈ p, x.block < W.heap.size := fun x hx => by simpa using hW'.lt x (by simp [hx])
  refine post_of_below (pa := p) (pv := []) hW' (fun _ _ _ => ?_) (fun sp hs => ?_) (fun _ _ => ?_) rfl hb (ok_one hr rfl (okWide_bool_mk ht _))
  · rw [List.append_nil, hfn, hr]; exact trodAll_mk1 (shut_bool ht true)
  · rw [List.append_nil, hfn]; exact trodAll_stays hl hb hp hA hlt (fun x hx => hs x (by simp [hx]))
  · rw [List.append_nil, hfn, hvn]; rfl
end
theorem laid_out : laidOutB Tryz.prog = true := by kernel_rfl
end Go.Proofs.YtcpikbanghoflaaGreatDoor
namespace Go.Proofs.YtcpikbanghoflaaGreatDoor
set_option linter.unusedSimpArgs false
set_option linter.unusedVariables false
set_option maxRecDepth 100000

def ask30k (n : List UInt8) (k : UInt8) : List UInt8 := [0, 7, 1, 0, 0, 1, 0, 0, 0, 0, 0, 0] ++ n ++ [0, k] ++ [0, 1]
/-- A reply's code, and how many answers and records of authority it has. -/
def cnt30 (d : List UInt8) : Int × Int × Int := match decR d with
  | .error _ => (-1, -1, -1)
  | .ok m => (m.hd.code, m.ans.length, m.auth.length)
abbrev cntV (c : Int × Int × Int) : Value := .agg #[.int .i64 c.1, .int .i64 c.2.1, .int .i64 c.2.2]
def loop30 : List RecD := [⟨[1, 97, 0], 5, 1, 0, [1, 97, 0]⟩]
def two30 : List RecD := [⟨[0], 6, 1, 0, [0, 0, 0, 0, 0, 0, 0, 0, 0, 0, 0, 0, 0, 0, 0, 0, 0, 0, 0, 0, 0, 3]⟩, ⟨[0], 6, 1, 0, [0, 0, 0, 0, 0, 0, 0, 0, 0, 0, 0, 0, 0, 0, 0, 0, 0, 0, 0, 0, 0, 4]⟩]
def many30 (n : Nat) : List RecD := (List.range n).map fun i => ⟨[2, 101, 120, 0], 1, 1, 0, [10, 0, 0, UInt8.ofNat i]⟩
def q30 : List UInt8 := ask30k [2, 101, 120, 0] 1
def wide30 (a b : UInt8) : List UInt8 := q30.take 11 ++ [1] ++ q30.drop 12 ++ [0, 0, 41] ++ [a, b] ++ [0, 0, 0, 0, 0, 0]
theorem n30a : cnt30 (resOf (groupR zone30) (ask30k [3, 119, 119, 119, 2, 101, 120, 0] 28)) = (0, 1, 1) := by kernel_rfl
theorem n30b : cnt30 (resOf (groupR zone30) (ask30k [2, 101, 120, 0] 1)) = (0, 0, 1) := by kernel_rfl
theorem n30c : cnt30 (resOf (groupR zone30) (ask30k [0] 1)) = (0, 0, 0) := by kernel_rfl
theorem n30d : cnt30 (resOf (groupR zone30) (ask30k [1, 99, 0] 1)) = (3, 0, 0) := by kernel_rfl
theorem n30e : cnt30 (resOf (groupR zone30) (ask30k [1, 120, 3, 119, 119, 119, 2, 101, 120, 0] 1)) = (3, 0, 1) := by kernel_rfl
theorem n30f : cnt30 (resOf (groupR zone30) (ask30k [3, 87, 87, 87, 2, 101, 120, 0] 5)) = (0, 1, 0) := by kernel_rfl
theorem n30g : resOf (groupR zone30) [] = [] ∧ resOf (groupR zone30) (q30 ++ [97]) = [] ∧ resOf (groupR zone30) (q30.take 2 ++ [129] ++ q30.drop 3) = [] ∧ resOf (groupR zone30) (q30.take 2 ++ [9] ++ q30.drop 3) = [] ∧ resOf (groupR zone30) (q30.take 12) = [] ∧ resOf (groupR zone30) (q30.take 4 ++ [0, 0, 0, 0, 0, 0, 0, 0]) = [] := ⟨by kernel_rfl, by kernel_rfl, by kernel_rfl, by kernel_rfl, by kernel_rfl, by kernel_rfl⟩
theorem n30h : cnt30 (resOf (groupR loop30) (ask30k [1, 97, 0] 1)) = (2, 0, 0) := by kernel_rfl
theorem n30i : cnt30 (resOf (groupR loop30) (ask30k [1, 97, 0] 5)) = (0, 1, 0) := by kernel_rfl
theorem n30j : cnt30 (resOf (groupR two30) (ask30k [1, 97, 0] 1)) = (2, 0, 0) := by kernel_rfl
theorem n30k : cnt30 (resOf (groupR two30) (ask30k [0] 6)) = (0, 2, 0) := by kernel_rfl
theorem n30l : (resOf (groupR (many30 30)) q30).length = 500 := by kernel_rfl
theorem n30m : resOf (groupR (many30 31)) q30 = [0, 7, 131, 128] ++ q30.drop 4 := by kernel_rfl
theorem n30n : (resOf (groupR (many30 31)) (wide30 0 0)).length = 31 ∧ (resOf (groupR (many30 31)) (wide30 2 14)).length = 31 ∧ (resOf (groupR (many30 31)) (wide30 2 15)).length = 527 ∧ (resOf (groupR (many30 31)) (wide30 255 255)).length = 527 := ⟨by kernel_rfl, by kernel_rfl, by kernel_rfl, by kernel_rfl⟩
theorem n30o : (resOf (groupR (many30 31)) (wide30 0 0)).drop 20 = [0, 0, 41, 16, 0, 0, 0, 0, 0, 0, 0] ∧ (resOf (groupR (many30 31)) (wide30 2 14)).drop 20 = [0, 0, 41, 16, 0, 0, 0, 0, 0, 0, 0] ∧ (resOf (groupR (many30 31)) (wide30 2 15)).drop 516 = [0, 0, 41, 16, 0, 0, 0, 0, 0, 0, 0] ∧ (resOf (groupR (many30 31)) (wide30 255 255)).drop 516 = [0, 0, 41, 16, 0, 0, 0, 0, 0, 0, 0] := ⟨by kernel_rfl, by kernel_rfl, by kernel_rfl, by kernel_rfl⟩
theorem n30p : zone30.all okRec = true ∧ loop30.all okRec = true ∧ two30.all okRec = true ∧ (many30 30).all okRec = true ∧ (many30 31).all okRec = true := ⟨by kernel_rfl, by kernel_rfl, by kernel_rfl, by kernel_rfl, by kernel_rfl⟩
theorem n30q : okRec ⟨[0], 1, 1, 0, [97, 98, 99]⟩ = false ∧ okRec ⟨[0], 41, 1, 0, []⟩ = false ∧ okRec ⟨[], 99, 1, 0, []⟩ = false := ⟨by kernel_rfl, by kernel_rfl, by kernel_rfl⟩
end Go.Proofs.YtcpikbanghoflaaGreatDoor
namespace Go.Proofs.YtcpikbanghoflaaGreatDoor
set_option linter.unusedSimpArgs false
set_option linter.unusedVariables false
open Go.RowKit
set_option maxRecDepth 100000

set_option maxHeartbeats 1000000 in
theorem law30_askedk (n : List UInt8) (k : UInt8) (w : World) (hn : n.length ≤ 1048576) : Calls Tryz.prog 17 #[S n, .int .u16 (k.toNat : Int)] w (StrPost (ask30k n k) w) := by
  have hk : k.toNat < 256 := k.toNat_lt
  have e1 : ((k.toNat : Int)).tdiv 256 = 0 := by rw [Int.tdiv_eq_ediv_of_nonneg (by omega)]; omega
  have e2 : ((k.toNat : Int)).tmod 256 = (k.toNat : Int) := by rw [Int.tmod_eq_emod_of_nonneg (by omega)]; omega
  have hrw : Rd (w.alloc (.cells #[.int .u8 0, .int .u8 (k.toNat : Int)] 5)) 0 1 (some ⟨w.heap.size, 0, none⟩) 2 (([0, k] : List UInt8).map U8) := rd_new _ _ rfl _ _ 2 1 rfl
  have hcv := conv_str 2 hrw
  clear hrw
  go_enter Tryz.func17, Tryz.ntmps17
  go_wp2_with fail
  go_ret
  refine ⟨?_, (Ext.refl _).alloc _⟩
  show Ending.returned (S (0 :: 7 :: 1 :: 0 :: 0 :: 1 :: 0 :: 0 :: 0 :: 0 :: 0 :: 0 :: (n ++ [0, k, 0, 1]))) = _
  unfold ask30k
  simp
theorem results_rowN {P : Program} {fn : Func} {p : Tmp} {ty : TypeId} (h : fn.results = #[.cell p ty]) (tmps : Array Value) (w : World) (g : Nat) (t : TypeId) (cs : Array Value) (fr : Nat × Nat) (d : TypeDesc)
    (hp : tmps.getD p undef = .pointer (some ⟨g, 0, none⟩)) (hg : w.heap[g]? = some (.cells cs t fr))
    (hu : P.underlying ty = some d) (hd : (match d with | .struct _ | .array _ _ => true | _ => false) = true) (hi : (P.info? ty).map (·.size) = some cs.size) :
    (results fn tmps).run P w = .ok (.agg cs) w := by
  have hp' : tmps[p]?.getD undef = .pointer (some ⟨g, 0, none⟩) := by simpa using hp
  simp [results, h, hp', asAddr, run_loadVar_row w g t ty cs fr d hg hu hd hi]
theorem dec_codeN {d : List UInt8} {m : MsgD} (h : decR d = .ok m) : m.hd.code ≤ 15 := by
  have h1 := (enc_may (decR_ok h).2.1).1
  unfold mayM hdOk at h1
  simp only [Bool.and_eq_true, decide_eq_true_eq] at h1
  obtain ⟨⟨⟨⟨⟨⟨h2, _⟩, _⟩, _⟩, _⟩, _⟩, _⟩ := h1
  omega
def CntPost (c : Int × Int × Int) (w : World) (e : Ending) (w' : World) : Prop := e = .returned (cntV c) ∧ Ext w w'
set_option maxHeartbeats 4000000 in
theorem law30_counts (d : List UInt8) (w : World) (hg : Laid w) (hb : BitsAt w) (hd : d.length ≤ 1048576) : Calls Tryz.prog 15 #[S d] w (CntPost (cnt30 d) w) := by
  obtain ⟨X0, hX0⟩ : ∃ X0, X0 = w.alloc (.cells #[.int .i64 0, .int .i64 0, .int .i64 0] 58) := ⟨_, rfl⟩
  obtain ⟨b2, hb2⟩ : ∃ b2, b2 = w.heap.size := ⟨_, rfl⟩
  have r2 : X0.heap[b2]? = some (.cells #[.int .i64 0, .int .i64 0, .int .i64 0] 58) := by rw [hX0, hb2]; exact heap_alloc_new _ _
  have hE0 : Ext w X0 := by rw [hX0]; exact (Ext.refl _).alloc _
  have hb2l : w.heap.size ≤ b2 := by rw [hb2]; exact Nat.le_refl _
  have HD := Lib.hid (wire_decode d X0 (hg.ext hE0) (hb.ext hE0) hd)
  unfold CntPost
  go_enter Tryz.func15, Tryz.ntmps15
  go_upto_region 1 with fail
  rw [← hX0, ← hb2]
  clear hX0 hb2
  go_wp2_with fail
  refine HD.out.mono ?_
  rintro e Y ⟨⟨kk, hk0, hx, rfl⟩ | ⟨m, q, a, u, x, o, hm, rfl, hMO, hBd⟩, hEd⟩
  · have HC := Lib.hid (show cnt30 d = (-1, -1, -1) from by unfold cnt30; rw [hx])
    have hke : ((kk : Int) != 0) = true := by simpa using hk0
    clear hx hk0
    dsimp only
    iterate 10 go_step
    obtain ⟨b3, hb3⟩ : ∃ b3, b3 = Y.heap.size := ⟨_, rfl⟩
    have hz : (Y.alloc (.cells msgZ 38)).heap[b3]? = some (.cells msgZ 38) := by rw [hb3]; exact heap_alloc_new _ _
    refine Go.Great.wpList_allocTo rfl (some 3) rfl (.pointer (some ⟨Y.heap.size, 0, none⟩)) (.cells msgZ 38) (by kernel_rfl) ?_
    rw [← hb3]
    refine Go.wpList_store_rowTo rfl 38 (.tmp 3) (.tmp 8) rfl rfl b3 msgZ rfl rfl 38 _ hz (by kernel_rfl) rfl (by kernel_rfl) ?_
    rw [alloc_setRow7 Y msgZ msgZ 38 b3 hb3]
    iterate 3 go_step
    refine wpList_nil ?_
    (try rw [← hb3])
    obtain ⟨X3, hX3⟩ : ∃ X3, X3 = Y.alloc (.cells msgZ 38) := ⟨_, rfl⟩
    rw [← hX3]
    have h03 : Ext X0 X3 := by rw [hX3]; exact hEd.alloc _
    have r23 := (h03.block _ (Array.getElem?_eq_some_iff.1 r2).1).trans r2
    have f0 := box_free (j := 0) r23
    have f1 := box_free (j := 1) r23
    have f2 := box_free (j := 2) r23
    have k0 := box_cell (j := 0) r23 rfl
    have k1 := box_cell (j := 1) r23 rfl
    have k2 := box_cell (j := 2) r23 rfl
    clear hX3 hz hb3
    go_wp2_with fail
    have rW := row_set (row_set (row_set r23 0 (.int .i64 (-1))) 1 (.int .i64 (-1))) 2 (.int .i64 (-1))
    refine bodyPost_ret (results_rowN rfl _ _ b2 _ #[.int .i64 (-1), .int .i64 (-1), .int .i64 (-1)] _ _ rfl rW Tryz.underlying58 rfl (by kernel_rfl)) rfl ?_
    exact ⟨by rw [HC.out], (((hE0.trans h03).setCell hb2l _).setCell hb2l _).setCell hb2l _⟩
  have HC := Lib.hid (show cnt30 d = (m.hd.code, (m.ans.length : Int), (m.auth.length : Int)) from by unfold cnt30; rw [hm])
  have HWc := Lib.hid (show wrap64 m.hd.code = m.hd.code from by have h1 := (decR_ok hm).1.code; have h2 := dec_codeN hm; unfold wrap64; omega)
  clear hm
  obtain ⟨⟨qA, qc, rfl, -⟩, ⟨aA, ac, rfl, -⟩, ⟨uA, uc, rfl, -⟩, ⟨xA, xc, rfl, -⟩, ⟨oA, oc, rfl, -⟩⟩ := hMO
  dsimp only
  iterate 10 go_step
  obtain ⟨b3, hb3⟩ : ∃ b3, b3 = Y.heap.size := ⟨_, rfl⟩
  have hz : (Y.alloc (.cells msgZ 38)).heap[b3]? = some (.cells msgZ 38) := by rw [hb3]; exact heap_alloc_new _ _
  refine Go.Great.wpList_allocTo rfl (some 3) rfl (.pointer (some ⟨Y.heap.size, 0, none⟩)) (.cells msgZ 38) (by kernel_rfl) ?_
  rw [← hb3]
  refine Go.wpList_store_rowTo rfl 38 (.tmp 3) (.tmp 8) rfl rfl b3 #[.int .u16 m.hd.id, .bool m.hd.qr, .int .u8 m.hd.op, .bool m.hd.aa, .bool m.hd.tc, .bool m.hd.rd, .bool m.hd.ra, .bool m.hd.z, .bool m.hd.ad, .bool m.hd.cd, .int .u8 m.hd.code, .slice qA m.qs.length qc, .slice aA m.ans.length ac, .slice uA m.auth.length uc, .slice xA m.extra.length xc, .bool m.he, .int .u16 m.ed.size, .int .u8 m.ed.ext, .int .u8 m.ed.ver, .int .u16 m.ed.flags, .slice oA m.ed.opts.length oc] rfl rfl 38 _ hz (by kernel_rfl) rfl (by kernel_rfl) ?_
  rw [alloc_setRow7 Y msgZ #[.int .u16 m.hd.id, .bool m.hd.qr, .int .u8 m.hd.op, .bool m.hd.aa, .bool m.hd.tc, .bool m.hd.rd, .bool m.hd.ra, .bool m.hd.z, .bool m.hd.ad, .bool m.hd.cd, .int .u8 m.hd.code, .slice qA m.qs.length qc, .slice aA m.ans.length ac, .slice uA m.auth.length uc, .slice xA m.extra.length xc, .bool m.he, .int .u16 m.ed.size, .int .u8 m.ed.ext, .int .u8 m.ed.ver, .int .u16 m.ed.flags, .slice oA m.ed.opts.length oc] 38 b3 hb3]
  iterate 3 go_step
  refine wpList_nil ?_
  (try rw [← hb3])
  have r3 : (Y.alloc (.cells #[.int .u16 m.hd.id, .bool m.hd.qr, .int .u8 m.hd.op, .bool m.hd.aa, .bool m.hd.tc, .bool m.hd.rd, .bool m.hd.ra, .bool m.hd.z, .bool m.hd.ad, .bool m.hd.cd, .int .u8 m.hd.code, .slice qA m.qs.length qc, .slice aA m.ans.length ac, .slice uA m.auth.length uc, .slice xA m.extra.length xc, .bool m.he, .int .u16 m.ed.size, .int .u8 m.ed.ext, .int .u8 m.ed.ver, .int .u16 m.ed.flags, .slice oA m.ed.opts.length oc] 38)).heap[b3]? = some (.cells #[.int .u16 m.hd.id, .bool m.hd.qr, .int .u8 m.hd.op, .bool m.hd.aa, .bool m.hd.tc, .bool m.hd.rd, .bool m.hd.ra, .bool m.hd.z, .bool m.hd.ad, .bool m.hd.cd, .int .u8 m.hd.code, .slice qA m.qs.length qc, .slice aA m.ans.length ac, .slice uA m.auth.length uc, .slice xA m.extra.length xc, .bool m.he, .int .u16 m.ed.size, .int .u8 m.ed.ext, .int .u8 m.ed.ver, .int .u16 m.ed.flags, .slice oA m.ed.opts.length oc] 38) := by rw [hb3]; exact heap_alloc_new _ _
  obtain ⟨X3, hX3⟩ : ∃ X3, X3 = Y.alloc (.cells #[.int .u16 m.hd.id, .bool m.hd.qr, .int .u8 m.hd.op, .bool m.hd.aa, .bool m.hd.tc, .bool m.hd.rd, .bool m.hd.ra, .bool m.hd.z, .bool m.hd.ad, .bool m.hd.cd, .int .u8 m.hd.code, .slice qA m.qs.length qc, .slice aA m.ans.length ac, .slice uA m.auth.length uc, .slice xA m.extra.length xc, .bool m.he, .int .u16 m.ed.size, .int .u8 m.ed.ext, .int .u8 m.ed.ver, .int .u16 m.ed.flags, .slice oA m.ed.opts.length oc] 38) := ⟨_, rfl⟩
  rw [← hX3] at r3 ⊢
  have h03 : Ext X0 X3 := by rw [hX3]; exact hEd.alloc _
  have r23 := (h03.block _ (Array.getElem?_eq_some_iff.1 r2).1).trans r2
  have f0 := box_free (j := 0) r23
  have f1 := box_free (j := 1) r23
  have f2 := box_free (j := 2) r23
  have k0 := box_cell (j := 0) r23 rfl
  have k1 := box_cell (j := 1) r23 rfl
  have k2 := box_cell (j := 2) r23 rfl
  have c10 : X3.cell? ⟨b3, 10, none⟩ = some (.int .u8 m.hd.code) := box_cell r3 rfl
  have c12 : X3.cell? ⟨b3, 12, none⟩ = some (.slice aA m.ans.length ac) := box_cell r3 rfl
  have c13 : X3.cell? ⟨b3, 13, none⟩ = some (.slice uA m.auth.length uc) := box_cell r3 rfl
  clear hX3 hz hb3 r3
  have hwc := HWc.out
  go_wp2_with fail
  have rW := row_set (row_set (row_set r23 0 (.int .i64 m.hd.code)) 1 (.int .i64 m.ans.length)) 2 (.int .i64 m.auth.length)
  refine bodyPost_ret (results_rowN rfl _ _ b2 _ #[.int .i64 m.hd.code, .int .i64 m.ans.length, .int .i64 m.auth.length] _ _ rfl rW Tryz.underlying58 rfl (by kernel_rfl)) rfl ?_
  exact ⟨by rw [HC.out], (((hE0.trans h03).setCell hb2l _).setCell hb2l _).setCell hb2l _⟩
end Go.Proofs.YtcpikbanghoflaaGreatDoor
namespace Go.Proofs.YtcpikbanghoflaaGreatDoor
set_option linter.unusedSimpArgs false
set_option linter.unusedVariables false
open Go.RowKit
set_option maxRecDepth 100000

theorem many_succ (i : Nat) : many30 (i + 1) = many30 i ++ [⟨[2, 101, 120, 0], 1, 1, 0, [10, 0, 0, UInt8.ofNat i]⟩] := by
  unfold many30; rw [List.range_succ, List.map_append]; rfl
theorem many_len (i : Nat) : (many30 i).length = i := by unfold many30; simp
theorem own_less {w : World} {lo c : Nat} {A : Option Addr} (h : Own w lo 28 5 A 31 c ((many30 31).flatMap recCells)) : Recs w 0 (.slice A 31 c) (many30 31) ∧ Recs w 0 (.slice A 30 c) (many30 30) := by
  have hc := h.cap
  have hr := h.rd.lower (Nat.zero_le _)
  refine ⟨⟨A, c, rfl, hc.1, hc.2, hr⟩, ⟨A, c, rfl, Nat.le_trans (by decide) hc.1, hc.2, ?_⟩⟩
  refine ⟨rfl, fun _ => ?_⟩
  obtain ⟨b, off, e, h1, h2, h3⟩ := hr.2 (by decide)
  refine ⟨b, off, e, h1, h2, fun j u hu => h3 j u ?_⟩
  have hj := (List.getElem?_eq_some_iff.1 hu).1
  rw [many_succ 30, List.flatMap_append, List.getElem?_append_left hj]
  exact hu
theorem bd_of30 {l : List RecD} (h : l.all (fun r => decide (r.name.length ≤ 300000 ∧ r.data.length ≤ 300000 ∧ (0 ≤ r.typ ∧ r.typ ≤ 65535) ∧ (0 ≤ r.cls ∧ r.cls ≤ 65535) ∧ 0 ≤ r.ttl ∧ r.ttl ≤ 4294967295)) = true) (hl : l.length ≤ 4096) : RecsBd l ∧ ∀ r ∈ l, r.wf := by
  rw [List.all_eq_true] at h
  have h' : ∀ r ∈ l, r.name.length ≤ 300000 ∧ r.data.length ≤ 300000 ∧ (0 ≤ r.typ ∧ r.typ ≤ 65535) ∧ (0 ≤ r.cls ∧ r.cls ≤ 65535) ∧ 0 ≤ r.ttl ∧ r.ttl ≤ 4294967295 := fun r hr => of_decide_eq_true (h r hr)
  exact ⟨⟨hl, fun r hr => ⟨(h' r hr).1, (h' r hr).2.1⟩⟩, fun r hr => ⟨(h' r hr).2.2.1, (h' r hr).2.2.2.1, (h' r hr).2.2.2.2⟩⟩
set_option maxHeartbeats 8000000 in
theorem law30_names (w : World) (hg : Laid w) (hb : BitsAt w) : Calls Tryz.prog 4 #[] w fun e w' => e = .returned (.bool true) ∧ Ext w w' := by
  have HAw := Lib.hid (law30_awake w hg hb)
  have HZ := Lib.hid (fun V => law30_zone V)
  have HN := Lib.hid (fun V v (hV : Ext w V) (hv : Recs V 0 v zone30) => res_new 0 v zone30 V (hg.ext hV) hv zone30_bd (recsOk_wf zone30_wf))
  unfold ZonePost at HZ
  unfold NewPost at HN
  have HN0 := Lib.hid (show ∀ V : World, (Op.equalIn 10000 58 (.agg #[.int .i64 0, .int .i64 1, .int .i64 1]) (.agg #[.int .i64 0, .int .i64 1, .int .i64 1])).run Tryz.prog V = .ok true V from fun V => by kernel_rfl)
  have HN1 := Lib.hid (show ∀ V : World, (Op.equalIn 10000 58 (.agg #[.int .i64 0, .int .i64 0, .int .i64 1]) (.agg #[.int .i64 0, .int .i64 0, .int .i64 1])).run Tryz.prog V = .ok true V from fun V => by kernel_rfl)
  have HN2 := Lib.hid (show ∀ V : World, (Op.equalIn 10000 58 (.agg #[.int .i64 0, .int .i64 0, .int .i64 0]) (.agg #[.int .i64 0, .int .i64 0, .int .i64 0])).run Tryz.prog V = .ok true V from fun V => by kernel_rfl)
  have HN3 := Lib.hid (show ∀ V : World, (Op.equalIn 10000 58 (.agg #[.int .i64 3, .int .i64 0, .int .i64 0]) (.agg #[.int .i64 3, .int .i64 0, .int .i64 0])).run Tryz.prog V = .ok true V from fun V => by kernel_rfl)
  have HN4 := Lib.hid (show ∀ V : World, (Op.equalIn 10000 58 (.agg #[.int .i64 3, .int .i64 0, .int .i64 1]) (.agg #[.int .i64 3, .int .i64 0, .int .i64 1])).run Tryz.prog V = .ok true V from fun V => by kernel_rfl)
  have HN5 := Lib.hid (show ∀ V : World, (Op.equalIn 10000 58 (.agg #[.int .i64 0, .int .i64 1, .int .i64 0]) (.agg #[.int .i64 0, .int .i64 1, .int .i64 0])).run Tryz.prog V = .ok true V from fun V => by kernel_rfl)
  have HN6 := Lib.hid (show ∀ V : World, (Op.equalIn 10000 58 (.agg #[.int .i64 2, .int .i64 0, .int .i64 0]) (.agg #[.int .i64 2, .int .i64 0, .int .i64 0])).run Tryz.prog V = .ok true V from fun V => by kernel_rfl)
  have HN7 := Lib.hid (show ∀ V : World, (Op.equalIn 10000 58 (.agg #[.int .i64 0, .int .i64 2, .int .i64 0]) (.agg #[.int .i64 0, .int .i64 2, .int .i64 0])).run Tryz.prog V = .ok true V from fun V => by kernel_rfl)
  have hgd : Tryz.prog.eqGuardType Tryz.prog.depth 58 = false := by kernel_rfl
  go_enter Tryz.func4, Tryz.ntmps4
  go_wp2_with fail
  refine HAw.out.mono ?_
  rintro e w0 ⟨rfl, hE0⟩
  go_wp2_with fail
  refine (HZ.out _).mono ?_
  rintro e w1 ⟨A, rfl, hz, hE1⟩
  have HN1 := Lib.hid (HN.out w1 _ (hE0.trans hE1) hz)
  go_wp2_with fail
  refine HN1.out.mono ?_
  rintro e w2 (⟨_, R, gv, rfl, hRl, hR, ho, hE2⟩ | ⟨hno, _⟩)
  rotate_left
  · rw [zone30_ok] at hno; cases hno
  have hbase : Ext w w2 := (hE0.trans hE1).trans hE2
  have hS2 := (ho.sets.lower (Nat.zero_le _))
  have HR := Lib.hid (fun (d : List UInt8) V (hV : Ext w2 V) (hd : d.length ≤ 1048576) => res_answer zone30 gv R d V (hg.ext (hbase.trans hV)) (hb.ext (hbase.trans hV)) (box_cell ((hV.block _ (Array.getElem?_eq_some_iff.1 hR).1).trans hR) rfl) (hS2.ext hV) zone30_bd zone30_wf hd)
  unfold StrPost at HR
  clear ho hS2 hRl hR HN HN1 HZ HAw
  obtain ⟨qa, hqa⟩ : ∃ x, x = ask30k [3, 119, 119, 119, 2, 101, 120, 0] 28 := ⟨_, rfl⟩
  obtain ⟨sa, hsa⟩ : ∃ x, x = resOf (groupR zone30) qa := ⟨_, rfl⟩
  have HAa := Lib.hid (show ∀ V, Calls Tryz.prog 17 #[S [3, 119, 119, 119, 2, 101, 120, 0], .int .u16 28] V (fun e w' => e = .returned (S (ask30k [3, 119, 119, 119, 2, 101, 120, 0] 28)) ∧ Ext V w') from fun V => law30_askedk [3, 119, 119, 119, 2, 101, 120, 0] 28 V (by decide))
  rw [← hqa] at HAa
  have HRa := Lib.hid (fun V hV => HR.out qa V hV (by rw [hqa]; decide))
  rw [← hsa] at HRa
  have HCa := Lib.hid (fun V (hV : Ext w V) => law30_counts sa V (hg.ext hV) (hb.ext hV) (by rw [hsa, hqa]; exact Nat.le_of_ble_eq_true (by kernel_rfl)))
  unfold CntPost at HCa
  rw [show cnt30 sa = (0, 1, 1) from by rw [hsa, hqa]; exact n30a] at HCa
  clear hqa hsa
  have hne := HN0.out
  (try go_wp2_with fail)
  refine (HAa.out _).mono ?_
  rintro e waa ⟨rfl, haa⟩
  go_wp2_with fail
  refine (HRa.out _ ((Ext.refl w2).trans haa)).mono ?_
  rintro e wba ⟨rfl, hba⟩
  go_wp2_with fail
  refine (HCa.out _ (hbase.trans (((Ext.refl w2).trans haa).trans hba))).mono ?_
  rintro e wca ⟨rfl, hca⟩
  have Ea := (((Ext.refl w2).trans haa).trans hba).trans hca
  dsimp only [cntV]
  go_wp2_with fail
  clear HAa HRa HCa haa hba hca hne
  obtain ⟨qb, hqb⟩ : ∃ x, x = ask30k [2, 101, 120, 0] 1 := ⟨_, rfl⟩
  obtain ⟨sb, hsb⟩ : ∃ x, x = resOf (groupR zone30) qb := ⟨_, rfl⟩
  have HAb := Lib.hid (show ∀ V, Calls Tryz.prog 17 #[S [2, 101, 120, 0], .int .u16 1] V (fun e w' => e = .returned (S (ask30k [2, 101, 120, 0] 1)) ∧ Ext V w') from fun V => law30_askedk [2, 101, 120, 0] 1 V (by decide))
  rw [← hqb] at HAb
  have HRb := Lib.hid (fun V hV => HR.out qb V hV (by rw [hqb]; decide))
  rw [← hsb] at HRb
  have HCb := Lib.hid (fun V (hV : Ext w V) => law30_counts sb V (hg.ext hV) (hb.ext hV) (by rw [hsb, hqb]; exact Nat.le_of_ble_eq_true (by kernel_rfl)))
  unfold CntPost at HCb
  rw [show cnt30 sb = (0, 0, 1) from by rw [hsb, hqb]; exact n30b] at HCb
  clear hqb hsb
  have hne := HN1.out
  (try go_wp2_with fail)
  refine (HAb.out _).mono ?_
  rintro e wab ⟨rfl, hab⟩
  go_wp2_with fail
  refine (HRb.out _ ((Ea).trans hab)).mono ?_
  rintro e wbb ⟨rfl, hbb⟩
  go_wp2_with fail
  refine (HCb.out _ (hbase.trans (((Ea).trans hab).trans hbb))).mono ?_
  rintro e wcb ⟨rfl, hcb⟩
  have Eb := (((Ea).trans hab).trans hbb).trans hcb
  dsimp only [cntV]
  go_wp2_with fail
  clear HAb HRb HCb hab hbb hcb hne
  obtain ⟨qc, hqc⟩ : ∃ x, x = ask30k [0] 1 := ⟨_, rfl⟩
  obtain ⟨sc, hsc⟩ : ∃ x, x = resOf (groupR zone30) qc := ⟨_, rfl⟩
  have HAc := Lib.hid (show ∀ V, Calls Tryz.prog 17 #[S [0], .int .u16 1] V (fun e w' => e = .returned (S (ask30k [0] 1)) ∧ Ext V w') from fun V => law30_askedk [0] 1 V (by decide))
  rw [← hqc] at HAc
  have HRc := Lib.hid (fun V hV => HR.out qc V hV (by rw [hqc]; decide))
  rw [← hsc] at HRc
  have HCc := Lib.hid (fun V (hV : Ext w V) => law30_counts sc V (hg.ext hV) (hb.ext hV) (by rw [hsc, hqc]; exact Nat.le_of_ble_eq_true (by kernel_rfl)))
  unfold CntPost at HCc
  rw [show cnt30 sc = (0, 0, 0) from by rw [hsc, hqc]; exact n30c] at HCc
  clear hqc hsc
  have hne := HN2.out
  (try go_wp2_with fail)
  refine (HAc.out _).mono ?_
  rintro e wac ⟨rfl, hac⟩
  go_wp2_with fail
  refine (HRc.out _ ((Eb).trans hac)).mono ?_
  rintro e wbc ⟨rfl, hbc⟩
  go_wp2_with fail
  refine (HCc.out _ (hbase.trans (((Eb).trans hac).trans hbc))).mono ?_
  rintro e wcc ⟨rfl, hcc⟩
  have Ec := (((Eb).trans hac).trans hbc).trans hcc
  dsimp only [cntV]
  go_wp2_with fail
  clear HAc HRc HCc hac hbc hcc hne
  obtain ⟨qd, hqd⟩ : ∃ x, x = ask30k [1, 99, 0] 1 := ⟨_, rfl⟩
  obtain ⟨sd, hsd⟩ : ∃ x, x = resOf (groupR zone30) qd := ⟨_, rfl⟩
  have HAd := Lib.hid (show ∀ V, Calls Tryz.prog 17 #[S [1, 99, 0], .int .u16 1] V (fun e w' => e = .returned (S (ask30k [1, 99, 0] 1)) ∧ Ext V w') from fun V => law30_askedk [1, 99, 0] 1 V (by decide))
  rw [← hqd] at HAd
  have HRd := Lib.hid (fun V hV => HR.out qd V hV (by rw [hqd]; decide))
  rw [← hsd] at HRd
  have HCd := Lib.hid (fun V (hV : Ext w V) => law30_counts sd V (hg.ext hV) (hb.ext hV) (by rw [hsd, hqd]; exact Nat.le_of_ble_eq_true (by kernel_rfl)))
  unfold CntPost at HCd
  rw [show cnt30 sd = (3, 0, 0) from by rw [hsd, hqd]; exact n30d] at HCd
  clear hqd hsd
  have hne := HN3.out
  (try go_wp2_with fail)
  refine (HAd.out _).mono ?_
  rintro e wad ⟨rfl, had⟩
  go_wp2_with fail
  refine (HRd.out _ ((Ec).trans had)).mono ?_
  rintro e wbd ⟨rfl, hbd⟩
  go_wp2_with fail
  refine (HCd.out _ (hbase.trans (((Ec).trans had).trans hbd))).mono ?_
  rintro e wcd ⟨rfl, hcd⟩
  have Ed := (((Ec).trans had).trans hbd).trans hcd
  dsimp only [cntV]
  go_wp2_with fail
  clear HAd HRd HCd had hbd hcd hne
  obtain ⟨qe, hqe⟩ : ∃ x, x = ask30k [1, 120, 3, 119, 119, 119, 2, 101, 120, 0] 1 := ⟨_, rfl⟩
  obtain ⟨se, hse⟩ : ∃ x, x = resOf (groupR zone30) qe := ⟨_, rfl⟩
  have HAe := Lib.hid (show ∀ V, Calls Tryz.prog 17 #[S [1, 120, 3, 119, 119, 119, 2, 101, 120, 0], .int .u16 1] V (fun e w' => e = .returned (S (ask30k [1, 120, 3, 119, 119, 119, 2, 101, 120, 0] 1)) ∧ Ext V w') from fun V => law30_askedk [1, 120, 3, 119, 119, 119, 2, 101, 120, 0] 1 V (by decide))
  rw [← hqe] at HAe
  have HRe := Lib.hid (fun V hV => HR.out qe V hV (by rw [hqe]; decide))
  rw [← hse] at HRe
  have HCe := Lib.hid (fun V (hV : Ext w V) => law30_counts se V (hg.ext hV) (hb.ext hV) (by rw [hse, hqe]; exact Nat.le_of_ble_eq_true (by kernel_rfl)))
  unfold CntPost at HCe
  rw [show cnt30 se = (3, 0, 1) from by rw [hse, hqe]; exact n30e] at HCe
  clear hqe hse
  have hne := HN4.out
  (try go_wp2_with fail)
  refine (HAe.out _).mono ?_
  rintro e wae ⟨rfl, hae⟩
  go_wp2_with fail
  refine (HRe.out _ ((Ed).trans hae)).mono ?_
  rintro e wbe ⟨rfl, hbe⟩
  go_wp2_with fail
  refine (HCe.out _ (hbase.trans (((Ed).trans hae).trans hbe))).mono ?_
  rintro e wce ⟨rfl, hce⟩
  have Ee := (((Ed).trans hae).trans hbe).trans hce
  dsimp only [cntV]
  go_wp2_with fail
  clear HAe HRe HCe hae hbe hce hne
  obtain ⟨qf, hqf⟩ : ∃ x, x = ask30k [3, 87, 87, 87, 2, 101, 120, 0] 5 := ⟨_, rfl⟩
  obtain ⟨sf, hsf⟩ : ∃ x, x = resOf (groupR zone30) qf := ⟨_, rfl⟩
  have HAf := Lib.hid (show ∀ V, Calls Tryz.prog 17 #[S [3, 87, 87, 87, 2, 101, 120, 0], .int .u16 5] V (fun e w' => e = .returned (S (ask30k [3, 87, 87, 87, 2, 101, 120, 0] 5)) ∧ Ext V w') from fun V => law30_askedk [3, 87, 87, 87, 2, 101, 120, 0] 5 V (by decide))
  rw [← hqf] at HAf
  have HRf := Lib.hid (fun V hV => HR.out qf V hV (by rw [hqf]; decide))
  rw [← hsf] at HRf
  have HCf := Lib.hid (fun V (hV : Ext w V) => law30_counts sf V (hg.ext hV) (hb.ext hV) (by rw [hsf, hqf]; exact Nat.le_of_ble_eq_true (by kernel_rfl)))
  unfold CntPost at HCf
  rw [show cnt30 sf = (0, 1, 0) from by rw [hsf, hqf]; exact n30f] at HCf
  clear hqf hsf
  have hne := HN5.out
  (try go_wp2_with fail)
  refine (HAf.out _).mono ?_
  rintro e waf ⟨rfl, haf⟩
  go_wp2_with fail
  refine (HRf.out _ ((Ee).trans haf)).mono ?_
  rintro e wbf ⟨rfl, hbf⟩
  go_wp2_with fail
  refine (HCf.out _ (hbase.trans (((Ee).trans haf).trans hbf))).mono ?_
  rintro e wcf ⟨rfl, hcf⟩
  have Ef := (((Ee).trans haf).trans hbf).trans hcf
  dsimp only [cntV]
  go_wp2_with fail
  clear HAf HRf HCf haf hbf hcf hne
  have HAq := Lib.hid (show ∀ V, Calls Tryz.prog 17 #[S [2, 101, 120, 0], .int .u16 1] V (fun e w' => e = .returned (S (ask30k [2, 101, 120, 0] 1)) ∧ Ext V w') from fun V => law30_askedk [2, 101, 120, 0] 1 V (by decide))
  rw [show ask30k [2, 101, 120, 0] 1 = [0, 7, 1, 0, 0, 1, 0, 0, 0, 0, 0, 0, 2, 101, 120, 0, 0, 1, 0, 1] from rfl] at HAq
  (try go_wp2_with fail)
  refine (HAq.out _).mono ?_
  rintro e w6 ⟨rfl, hE6⟩
  have E6 := Ef.trans hE6
  clear HAq
  go_upto_region 7 with fail
  have HR0 := Lib.hid (show ∀ (d : List UInt8) V, Ext w2 V → d.length ≤ 1048576 → resOf (groupR zone30) d = [] → Calls Tryz.prog 16 #[.pointer (some ⟨R, 0, none⟩), S d] V fun e w' => e = .returned (S []) ∧ Ext V w' from fun d V hV hd h0 => by have := HR.out d V hV hd; rw [h0] at this; exact this)
  refine wp_region_noPanic ?_
  refine wp_region_tree (S := (fun _ => True)) (.take 0 (.run 1 (.take 2 (.take 3 (.take 4 (.take 5 (.take 6 (.run 7 (.take 8 (.take 9 (.take 10 (.take 11 (.take 12 (.take 13 (.take 14 (.take 15 (.take 16 (.take 17 (.run 18 (.take 19 (.take 20 (.take 21 (.take 22 (.take 23 (.take 24 (.take 25 (.take 26 (.take 27 (.take 28 (.run 29 (.take 30 (.take 31 (.take 32 (.take 33 (.take 34 (.take 35 (.run 36 (.take 37 (.take 38 (.take 39 (.take 40 (.take 41 (.take 42 (.take 43 (.run 44 (.take 45 (.take 46 (.done)))))))))))))))))))))))))))))))))))))))))))))))) (by kernel_rfl) (by kernel_rfl) (fun _ _ _ _ _ h => h) (trivial) ?_
  repeat ((with_reducible refine treeIs ?_); first
    | (refine treeTakeX (a' := ?_) ⟨w6.drew, trivial⟩ (by rfl) rfl (by kernel_rfl) rfl ?_ ?_; rotate_left; (focus (intro V Q' hV hq; (repeat (first | go_guarded | go_skip | go_step)); (first | exact hq | exact wpList_nil hq)))))
  refine treeRun (by rfl) (fun K hK => ?_)
  go_simp
  refine (HR0.out _ _ (E6.drew) (Nat.le_of_ble_eq_true (by kernel_rfl)) (by kernel_rfl)).mono ?_
  rintro e wt1 ⟨rfl, hqwt1⟩
  have hEwt1 : Ext w2 wt1 := Ext.trans (E6.drew) hqwt1
  clear hqwt1
  refine hK.out _ _ ?_ ?_
  · exact trivial
  clear hK K
  (try simp only [Act.put, List.setIfInBounds_toArray, List.set_cons_zero, List.set_cons_succ])
  repeat ((with_reducible refine treeIs ?_); first
    | (refine treeTakeX (a' := ?_) ⟨w6.drew, trivial⟩ (by rfl) rfl (by kernel_rfl) rfl ?_ ?_; rotate_left; (focus (intro V Q' hV hq; (repeat (first | go_guarded | go_skip | go_step)); (first | exact hq | exact wpList_nil hq)))))
  refine treeRun (by rfl) (fun K hK => ?_)
  go_simp
  refine (HR0.out _ _ (hEwt1) (Nat.le_of_ble_eq_true (by kernel_rfl)) (by kernel_rfl)).mono ?_
  rintro e wt2 ⟨rfl, hqwt2⟩
  have hEwt2 : Ext w2 wt2 := Ext.trans (hEwt1) hqwt2
  clear hqwt2
  refine hK.out _ _ ?_ ?_
  · exact trivial
  clear hK K
  (try simp only [Act.put, List.setIfInBounds_toArray, List.set_cons_zero, List.set_cons_succ])
  repeat ((with_reducible refine treeIs ?_); first
    | (refine treeTakeX (a' := ?_) ⟨w6.drew, trivial⟩ (by rfl) rfl (by kernel_rfl) rfl ?_ ?_; rotate_left; (focus (intro V Q' hV hq; (repeat (first | go_guarded | go_skip | go_step)); (first | exact hq | exact wpList_nil hq)))))
  refine treeRun (by rfl) (fun K hK => ?_)
  go_simp
  refine (HR0.out _ _ (hEwt2) (Nat.le_of_ble_eq_true (by kernel_rfl)) (by kernel_rfl)).mono ?_
  rintro e wt3 ⟨rfl, hqwt3⟩
  have hEwt3 : Ext w2 wt3 := Ext.trans (hEwt2) hqwt3
  clear hqwt3
  refine hK.out _ _ ?_ ?_
  · exact trivial
  clear hK K
  (try simp only [Act.put, List.setIfInBounds_toArray, List.set_cons_zero, List.set_cons_succ])
  repeat ((with_reducible refine treeIs ?_); first
    | (refine treeTakeX (a' := ?_) ⟨w6.drew, trivial⟩ (by rfl) rfl (by kernel_rfl) rfl ?_ ?_; rotate_left; (focus (intro V Q' hV hq; (repeat (first | go_guarded | go_skip | go_step)); (first | exact hq | exact wpList_nil hq)))))
  refine treeRun (by rfl) (fun K hK => ?_)
  go_simp
  refine (HR0.out _ _ (hEwt3) (Nat.le_of_ble_eq_true (by kernel_rfl)) (by kernel_rfl)).mono ?_
  rintro e wt4 ⟨rfl, hqwt4⟩
  have hEwt4 : Ext w2 wt4 := Ext.trans (hEwt3) hqwt4
  clear hqwt4
  refine hK.out _ _ ?_ ?_
  · exact trivial
  clear hK K
  (try simp only [Act.put, List.setIfInBounds_toArray, List.set_cons_zero, List.set_cons_succ])
  repeat ((with_reducible refine treeIs ?_); first
    | (refine treeTakeX (a' := ?_) ⟨w6.drew, trivial⟩ (by rfl) rfl (by kernel_rfl) rfl ?_ ?_; rotate_left; (focus (intro V Q' hV hq; (repeat (first | go_guarded | go_skip | go_step)); (first | exact hq | exact wpList_nil hq)))))
  refine treeRun (by rfl) (fun K hK => ?_)
  go_simp
  refine (HR0.out _ _ (hEwt4) (Nat.le_of_ble_eq_true (by kernel_rfl)) (by kernel_rfl)).mono ?_
  rintro e wt5 ⟨rfl, hqwt5⟩
  have hEwt5 : Ext w2 wt5 := Ext.trans (hEwt4) hqwt5
  clear hqwt5
  refine hK.out _ _ ?_ ?_
  · exact trivial
  clear hK K
  (try simp only [Act.put, List.setIfInBounds_toArray, List.set_cons_zero, List.set_cons_succ])
  repeat ((with_reducible refine treeIs ?_); first
    | (refine treeTakeX (a' := ?_) ⟨w6.drew, trivial⟩ (by rfl) rfl (by kernel_rfl) rfl ?_ ?_; rotate_left; (focus (intro V Q' hV hq; (repeat (first | go_guarded | go_skip | go_step)); (first | exact hq | exact wpList_nil hq)))))
  refine treeRun (by rfl) (fun K hK => ?_)
  go_simp
  refine (HR0.out _ _ (hEwt5) (Nat.le_of_ble_eq_true (by kernel_rfl)) (by kernel_rfl)).mono ?_
  rintro e wt6 ⟨rfl, hqwt6⟩
  have hEwt6 : Ext w2 wt6 := Ext.trans (hEwt5) hqwt6
  clear hqwt6
  refine hK.out _ _ ?_ ?_
  · exact trivial
  clear hK K
  (try simp only [Act.put, List.setIfInBounds_toArray, List.set_cons_zero, List.set_cons_succ])
  repeat ((with_reducible refine treeIs ?_); first
    | (refine treeTakeX (a' := ?_) ⟨w6.drew, trivial⟩ (by rfl) rfl (by kernel_rfl) rfl ?_ ?_; rotate_left; (focus (intro V Q' hV hq; (repeat (first | go_guarded | go_skip | go_step)); (first | exact hq | exact wpList_nil hq)))))
  refine treeDone ?_
  refine NoPanic.normal ?_
  have E7 := hEwt6
  have HNx := Lib.hid (fun V v (hV : Ext w V) (hv : Recs V 0 v loop30) => res_new 0 v loop30 V (hg.ext hV) hv (bd_of30 (l := loop30) (by kernel_rfl) (by decide)).1 (recsOk_wf (bd_of30 (l := loop30) (by kernel_rfl) (by decide)).2))
  unfold NewPost at HNx
  go_wp2_with fail
  refine (HNx.out _ _ (Ext.alloc (hbase.trans E7) _) (⟨_, 1, rfl, by decide, by unfold maxLen; decide, rd_new _ _ rfl _ (loop30.flatMap recCells) 1 5 rfl⟩)).mono ?_
  rintro e wx (⟨_, Rx, gvx, rfl, _, hRx, hox, hEx⟩ | ⟨hno, _⟩)
  rotate_left
  · rw [n30p.2.1] at hno; cases hno
  have hx : Ext w wx := (Ext.alloc (hbase.trans E7) _).trans hEx
  clear HNx
  have HNy := Lib.hid (fun V v (hV : Ext w V) (hv : Recs V 0 v two30) => res_new 0 v two30 V (hg.ext hV) hv (bd_of30 (l := two30) (by kernel_rfl) (by decide)).1 (recsOk_wf (bd_of30 (l := two30) (by kernel_rfl) (by decide)).2))
  unfold NewPost at HNy
  go_wp2_with fail
  refine (HNy.out _ _ (Ext.alloc (hx) _) (⟨_, 2, rfl, by decide, by unfold maxLen; decide, rd_new _ _ rfl _ (two30.flatMap recCells) 2 5 rfl⟩)).mono ?_
  rintro e wy (⟨_, Ry, gvy, rfl, _, hRy, hoy, hEy⟩ | ⟨hno, _⟩)
  rotate_left
  · rw [n30p.2.2.1] at hno; cases hno
  have hy : Ext w wy := (Ext.alloc (hx) _).trans hEy
  clear HNy
  have hRx2 := ((Ext.alloc (Ext.refl wx) _).trans hEy)
  have hRx' := (hRx2.block _ (Array.getElem?_eq_some_iff.1 hRx).1).trans hRx
  have hox' := hox.ext hRx2
  clear hRx hox
  have hRx := hRx'
  have hox := hox'
  have HRrx := Lib.hid (fun (d : List UInt8) V (hV : Ext wy V) (hd : d.length ≤ 1048576) => res_answer loop30 gvx Rx d V (hg.ext (hy.trans hV)) (hb.ext (hy.trans hV)) (box_cell ((hV.block _ (Array.getElem?_eq_some_iff.1 hRx).1).trans hRx) rfl) ((hox.sets.lower (Nat.zero_le _)).ext hV) (bd_of30 (l := loop30) (by kernel_rfl) (by decide)).1 (bd_of30 (l := loop30) (by kernel_rfl) (by decide)).2 hd)
  unfold StrPost at HRrx
  have HRry := Lib.hid (fun (d : List UInt8) V (hV : Ext wy V) (hd : d.length ≤ 1048576) => res_answer two30 gvy Ry d V (hg.ext (hy.trans hV)) (hb.ext (hy.trans hV)) (box_cell ((hV.block _ (Array.getElem?_eq_some_iff.1 hRy).1).trans hRy) rfl) ((hoy.sets.lower (Nat.zero_le _)).ext hV) (bd_of30 (l := two30) (by kernel_rfl) (by decide)).1 (bd_of30 (l := two30) (by kernel_rfl) (by decide)).2 hd)
  unfold StrPost at HRry
  clear hRx hox hRy hoy hRx' hox' hRx2
  obtain ⟨qg, hqg⟩ : ∃ x, x = ask30k [1, 97, 0] 1 := ⟨_, rfl⟩
  obtain ⟨sg, hsg⟩ : ∃ x, x = resOf (groupR loop30) qg := ⟨_, rfl⟩
  have HAg := Lib.hid (show ∀ V, Calls Tryz.prog 17 #[S [1, 97, 0], .int .u16 1] V (fun e w' => e = .returned (S (ask30k [1, 97, 0] 1)) ∧ Ext V w') from fun V => law30_askedk [1, 97, 0] 1 V (by decide))
  rw [← hqg] at HAg
  have HRg := Lib.hid (fun V hV => HRrx.out qg V hV (by rw [hqg]; decide))
  rw [← hsg] at HRg
  have HCg := Lib.hid (fun V (hV : Ext w V) => law30_counts sg V (hg.ext hV) (hb.ext hV) (by rw [hsg, hqg]; exact Nat.le_of_ble_eq_true (by kernel_rfl)))
  unfold CntPost at HCg
  rw [show cnt30 sg = (2, 0, 0) from by rw [hsg, hqg]; exact n30h] at HCg
  clear hqg hsg
  have hne := HN6.out
  (try go_wp2_with fail)
  refine (HAg.out _).mono ?_
  rintro e wag ⟨rfl, hag⟩
  go_wp2_with fail
  refine (HRg.out _ ((Ext.refl wy).trans hag)).mono ?_
  rintro e wbg ⟨rfl, hbg⟩
  go_wp2_with fail
  refine (HCg.out _ (hy.trans (((Ext.refl wy).trans hag).trans hbg))).mono ?_
  rintro e wcg ⟨rfl, hcg⟩
  have Eg := (((Ext.refl wy).trans hag).trans hbg).trans hcg
  dsimp only [cntV]
  go_wp2_with fail
  clear HAg HRg HCg hag hbg hcg hne
  obtain ⟨qh, hqh⟩ : ∃ x, x = ask30k [1, 97, 0] 5 := ⟨_, rfl⟩
  obtain ⟨sh, hsh⟩ : ∃ x, x = resOf (groupR loop30) qh := ⟨_, rfl⟩
  have HAh := Lib.hid (show ∀ V, Calls Tryz.prog 17 #[S [1, 97, 0], .int .u16 5] V (fun e w' => e = .returned (S (ask30k [1, 97, 0] 5)) ∧ Ext V w') from fun V => law30_askedk [1, 97, 0] 5 V (by decide))
  rw [← hqh] at HAh
  have HRh := Lib.hid (fun V hV => HRrx.out qh V hV (by rw [hqh]; decide))
  rw [← hsh] at HRh
  have HCh := Lib.hid (fun V (hV : Ext w V) => law30_counts sh V (hg.ext hV) (hb.ext hV) (by rw [hsh, hqh]; exact Nat.le_of_ble_eq_true (by kernel_rfl)))
  unfold CntPost at HCh
  rw [show cnt30 sh = (0, 1, 0) from by rw [hsh, hqh]; exact n30i] at HCh
  clear hqh hsh
  have hne := HN5.out
  (try go_wp2_with fail)
  refine (HAh.out _).mono ?_
  rintro e wah ⟨rfl, hah⟩
  go_wp2_with fail
  refine (HRh.out _ ((Eg).trans hah)).mono ?_
  rintro e wbh ⟨rfl, hbh⟩
  go_wp2_with fail
  refine (HCh.out _ (hy.trans (((Eg).trans hah).trans hbh))).mono ?_
  rintro e wch ⟨rfl, hch⟩
  have Eh := (((Eg).trans hah).trans hbh).trans hch
  dsimp only [cntV]
  go_wp2_with fail
  clear HAh HRh HCh hah hbh hch hne
  obtain ⟨qi, hqi⟩ : ∃ x, x = ask30k [1, 97, 0] 1 := ⟨_, rfl⟩
  obtain ⟨si, hsi⟩ : ∃ x, x = resOf (groupR two30) qi := ⟨_, rfl⟩
  have HAi := Lib.hid (show ∀ V, Calls Tryz.prog 17 #[S [1, 97, 0], .int .u16 1] V (fun e w' => e = .returned (S (ask30k [1, 97, 0] 1)) ∧ Ext V w') from fun V => law30_askedk [1, 97, 0] 1 V (by decide))
  rw [← hqi] at HAi
  have HRi := Lib.hid (fun V hV => HRry.out qi V hV (by rw [hqi]; decide))
  rw [← hsi] at HRi
  have HCi := Lib.hid (fun V (hV : Ext w V) => law30_counts si V (hg.ext hV) (hb.ext hV) (by rw [hsi, hqi]; exact Nat.le_of_ble_eq_true (by kernel_rfl)))
  unfold CntPost at HCi
  rw [show cnt30 si = (2, 0, 0) from by rw [hsi, hqi]; exact n30j] at HCi
  clear hqi hsi
  have hne := HN6.out
  (try go_wp2_with fail)
  refine (HAi.out _).mono ?_
  rintro e wai ⟨rfl, hai⟩
  go_wp2_with fail
  refine (HRi.out _ ((Eh).trans hai)).mono ?_
  rintro e wbi ⟨rfl, hbi⟩
  go_wp2_with fail
  refine (HCi.out _ (hy.trans (((Eh).trans hai).trans hbi))).mono ?_
  rintro e wci ⟨rfl, hci⟩
  have Ei := (((Eh).trans hai).trans hbi).trans hci
  dsimp only [cntV]
  go_wp2_with fail
  clear HAi HRi HCi hai hbi hci hne
  obtain ⟨qj, hqj⟩ : ∃ x, x = ask30k [0] 6 := ⟨_, rfl⟩
  obtain ⟨sj, hsj⟩ : ∃ x, x = resOf (groupR two30) qj := ⟨_, rfl⟩
  have HAj := Lib.hid (show ∀ V, Calls Tryz.prog 17 #[S [0], .int .u16 6] V (fun e w' => e = .returned (S (ask30k [0] 6)) ∧ Ext V w') from fun V => law30_askedk [0] 6 V (by decide))
  rw [← hqj] at HAj
  have HRj := Lib.hid (fun V hV => HRry.out qj V hV (by rw [hqj]; decide))
  rw [← hsj] at HRj
  have HCj := Lib.hid (fun V (hV : Ext w V) => law30_counts sj V (hg.ext hV) (hb.ext hV) (by rw [hsj, hqj]; exact Nat.le_of_ble_eq_true (by kernel_rfl)))
  unfold CntPost at HCj
  rw [show cnt30 sj = (0, 2, 0) from by rw [hsj, hqj]; exact n30k] at HCj
  clear hqj hsj
  have hne := HN7.out
  (try go_wp2_with fail)
  refine (HAj.out _).mono ?_
  rintro e waj ⟨rfl, haj⟩
  go_wp2_with fail
  refine (HRj.out _ ((Ei).trans haj)).mono ?_
  rintro e wbj ⟨rfl, hbj⟩
  go_wp2_with fail
  refine (HCj.out _ (hy.trans (((Ei).trans haj).trans hbj))).mono ?_
  rintro e wcj ⟨rfl, hcj⟩
  have Ej := (((Ei).trans haj).trans hbj).trans hcj
  dsimp only [cntV]
  go_wp2_with fail
  clear HAj HRj HCj haj hbj hcj hne
  have hj := hy.trans Ej
  obtain ⟨wB, hwB⟩ : ∃ wB : World, wB = wcj := ⟨_, rfl⟩
  rw [← hwB] at hj ⊢
  clear hwB
  have hj0 := Lib.hid hj
  obtain ⟨i0, hi0, hz0, hz1, hz2⟩ := info_parts info_rec7
  have HM0 := Lib.hid (show (many30 0).flatMap recCells = [] from rfl)
  go_wp2_with fail
  go_loopw [8, 9] (fun s8 s9 wr => ∃ (i : Nat) (A : Option Addr) (c : Nat), i ≤ 31 ∧ s9 = .int .i64 i ∧ s8 = .slice A i c ∧ Own wr wB.heap.size 28 5 A i c ((many30 i).flatMap recCells) ∧ Ext wB wr) (fun _ s9 _ => 31 - (intOf s9).toNat)
  case atStart => exact ⟨0, none, 0, by omega, rfl, rfl, by rw [HM0.out]; exact Own.nil _ _ _ _, Ext.refl _⟩
  case round =>
    obtain ⟨i, A8, c8, hi, rfl, rfl, hown, hEi⟩ := hrel
    obtain ⟨wo, rfl⟩ : ∃ wo : World, wo = wr := ⟨_, rfl⟩
    by_cases hlt : i < 31
    · have hii : (i : Int) < 31 := by omega
      have HI := Lib.hid hlt
      obtain ⟨bt, hbt⟩ : ∃ bt : UInt8, bt = UInt8.ofNat i := ⟨_, rfl⟩
      have hbn : bt.toNat = i := by rw [hbt]; exact Nat.mod_eq_of_lt (by omega)
      have HMs := Lib.hid (many_succ i)
      rw [← hbt] at HMs
      have hrw : Rd (wo.alloc (.cells #[.int .u8 10, .int .u8 0, .int .u8 0, .int .u8 (i : Int)] 5)) 0 1 (some ⟨wo.heap.size, 0, none⟩) 4 (([10, 0, 0, bt] : List UInt8).map U8) := by
        have := rd_new wo wo.heap.size rfl 5 (([10, 0, 0, bt] : List UInt8).map U8) 4 1 rfl
        rw [← hbn]; exact this
      have hcv := conv_str 4 hrw
      have hu8 : IntKind.u8.wrap (i : Int) = (i : Int) := by show (i : Int) % 256 = _; omega
      have hsz : wB.heap.size ≤ wo.heap.size := hEi.size
      clear hrw hbt hbn
      go_wp2_with (first
        | (at_builtin
           refine wpList_app _ rfl (.tmp 175) (.tmp 181) _ rfl wB.heap.size 28 i0 _ 5 40 Tryz.underlying30 hi0 hz0 hz1 hz2 rfl (by omega) A8 i c8 ((many30 i).flatMap recCells) rfl (by exact hown.ext (((Ext.refl _).alloc _).alloc _)) 0 _ 1 1 (recCells ⟨[2, 101, 120, 0], 1, 1, 0, [10, 0, 0, bt]⟩) rfl (rd_new _ _ (by simp) _ _ 1 5 rfl) (rec_one7 _) (by omega) (by omega) (by simp; omega) ?_
           intro A6 c6 w6' hown6 hg6 hb6 _)
        | fail)
      go_roundw
      case rel =>
        refine ⟨i + 1, A6, c6, by have := HI.out; omega, by go_num, rfl, ?_, Ext.then ((hEi.alloc _).alloc _) hb6 (Nat.le_refl _)⟩
        rw [HMs.out, List.flatMap_append, List.flatMap_singleton]
        exact hown6
      case measure => (have := HI.out); simp [intOf]; omega
    · obtain rfl : i = 31 := by omega
      have HRs := Lib.hid (own_less hown)
      have hwo := hj0.out.trans hEi
      have hc30 : (30 : Int) ≤ (c8 : Int) := by have := hown.cap.1; omega
      clear hown
      have HNm := Lib.hid (fun V (hV : Ext w V) (hv : Recs V 0 (.slice A8 30 c8) (many30 30)) => res_new 0 (.slice A8 30 c8) (many30 30) V (hg.ext hV) hv (bd_of30 (l := (many30 30)) (by kernel_rfl) (by rw [many_len]; decide)).1 (recsOk_wf (bd_of30 (l := (many30 30)) (by kernel_rfl) (by rw [many_len]; decide)).2))
      unfold NewPost at HNm
      go_wp2_with fail
      refine (HNm.out _ (hwo) (HRs.out.2)).mono ?_
      rintro e wm (⟨_, Rm, gvm, rfl, _, hRm, hom, hEm⟩ | ⟨hno, _⟩)
      rotate_left
      · rw [n30p.2.2.2.1] at hno; cases hno
      have hm : Ext w wm := (hwo).trans hEm
      clear HNm
      have HNp := Lib.hid (fun V (hV : Ext w V) (hv : Recs V 0 (.slice A8 31 c8) (many30 31)) => res_new 0 (.slice A8 31 c8) (many30 31) V (hg.ext hV) hv (bd_of30 (l := (many30 31)) (by kernel_rfl) (by rw [many_len]; decide)).1 (recsOk_wf (bd_of30 (l := (many30 31)) (by kernel_rfl) (by rw [many_len]; decide)).2))
      unfold NewPost at HNp
      go_wp2_with fail
      refine (HNp.out _ (hm) (HRs.out.1.ext hEm)).mono ?_
      rintro e wp (⟨_, Rp, gvp, rfl, _, hRp, hop, hEp⟩ | ⟨hno, _⟩)
      rotate_left
      · rw [n30p.2.2.2.2] at hno; cases hno
      have hp : Ext w wp := (hm).trans hEp
      clear HNp
      have hRm' := (hEp.block _ (Array.getElem?_eq_some_iff.1 hRm).1).trans hRm
      have hSm := (hom.sets.lower (Nat.zero_le _)).ext hEp
      have hSp := (hop.sets.lower (Nat.zero_le _))
      have BD0 := bd_of30 (l := many30 30) (by kernel_rfl) (by rw [many_len]; decide)
      have BD1 := bd_of30 (l := many30 31) (by kernel_rfl) (by rw [many_len]; decide)
      have HAm := Lib.hid (fun (d : List UInt8) V (hV : Ext wp V) (hd : d.length ≤ 1048576) => res_answer (many30 30) gvm Rm d V (hg.ext (hp.trans hV)) (hb.ext (hp.trans hV)) (box_cell ((hV.block _ (Array.getElem?_eq_some_iff.1 hRm').1).trans hRm') rfl) (hSm.ext hV) BD0.1 BD0.2 hd)
      have HAp := Lib.hid (fun (d : List UInt8) V (hV : Ext wp V) (hd : d.length ≤ 1048576) => res_answer (many30 31) gvp Rp d V (hg.ext (hp.trans hV)) (hb.ext (hp.trans hV)) (box_cell ((hV.block _ (Array.getElem?_eq_some_iff.1 hRp).1).trans hRp) rfl) (hSp.ext hV) BD1.1 BD1.2 hd)
      unfold StrPost at HAm HAp
      obtain ⟨sm, hsm⟩ : ∃ x, x = resOf (groupR (many30 30)) [0, 7, 1, 0, 0, 1, 0, 0, 0, 0, 0, 0, 2, 101, 120, 0, 0, 1, 0, 1] := ⟨_, rfl⟩
      have HAmq := Lib.hid (fun V hV => HAm.out [0, 7, 1, 0, 0, 1, 0, 0, 0, 0, 0, 0, 2, 101, 120, 0, 0, 1, 0, 1] V hV (by decide))
      rw [← hsm] at HAmq
      have hml : ((sm.length : Int) != 500) = false := by rw [hsm, show (resOf (groupR (many30 30)) [0, 7, 1, 0, 0, 1, 0, 0, 0, 0, 0, 0, 2, 101, 120, 0, 0, 1, 0, 1]).length = 500 from n30l]; rfl
      have HApq := Lib.hid (fun V hV => HAp.out [0, 7, 1, 0, 0, 1, 0, 0, 0, 0, 0, 0, 2, 101, 120, 0, 0, 1, 0, 1] V hV (by decide))
      rw [show resOf (groupR (many30 31)) [0, 7, 1, 0, 0, 1, 0, 0, 0, 0, 0, 0, 2, 101, 120, 0, 0, 1, 0, 1] = [0, 7, 131, 128, 0, 1, 0, 0, 0, 0, 0, 0, 2, 101, 120, 0, 0, 1, 0, 1] from n30m] at HApq
      clear hom hop hRm hRp hSm hSp hRm' BD0 BD1 hsm hc30
      go_upto_region 20 with fail
      refine wp_region_noPanic ?_
      refine wp_region_tree (S := (fun _ => True)) (.take 0 (.take 1 (.run 2 (.take 3 (.take 4 (.take 5 (.take 6 (.take 7 (.take 9 (.take 10 (.take 11 (.run 8 (.take 12 (.take 13 (.done))))))))))))))) (by kernel_rfl) (by kernel_rfl) (fun _ _ _ _ _ h => h) (trivial) ?_
      repeat ((with_reducible refine treeIs ?_); first
        | (refine treeTakeX (a' := ?_) ⟨wp.drew, trivial⟩ (by rfl) rfl (by kernel_rfl) rfl ?_ ?_; rotate_left; (focus (intro V Q' hV hq; (repeat (first | go_guarded | go_skip | go_step)); (first | exact hq | exact wpList_nil hq)))))
      refine treeRun (by rfl) (fun K hK => ?_)
      go_simp
      refine (HAmq.out _ ((Ext.refl wp).drew)).mono ?_
      rintro e wu ⟨rfl, hqwu⟩
      have hEwu : Ext wp wu := Ext.trans ((Ext.refl wp).drew) hqwu
      clear hqwu
      refine hK.out _ _ ?_ ?_
      · exact trivial
      clear hK K
      (try simp only [Act.put, List.setIfInBounds_toArray, List.set_cons_zero, List.set_cons_succ])
      repeat ((with_reducible refine treeIs ?_); first
        | (refine treeTakeX (a' := ?_) ⟨wp.drew, trivial⟩ (by rfl) rfl (by kernel_rfl) rfl ?_ ?_; rotate_left; (focus (intro V Q' hV hq; (repeat (first | go_guarded | go_skip | go_step)); (first | exact hq | exact wpList_nil hq)))))
      refine treeRun (by rfl) (fun K hK => ?_)
      go_simp
      refine (HApq.out _ (hEwu)).mono ?_
      rintro e wv ⟨rfl, hqwv⟩
      have hEwv : Ext wp wv := Ext.trans (hEwu) hqwv
      clear hqwv
      refine hK.out _ _ ?_ ?_
      · exact trivial
      clear hK K
      (try simp only [Act.put, List.setIfInBounds_toArray, List.set_cons_zero, List.set_cons_succ])
      repeat ((with_reducible refine treeIs ?_); first
        | (refine treeTakeX (a' := ?_) ⟨wp.drew, trivial⟩ (by rfl) rfl (by kernel_rfl) rfl ?_ ?_; rotate_left; (focus (intro V Q' hV hq; (repeat (first | go_guarded | go_skip | go_step)); (first | exact hq | exact wpList_nil hq)))))
      refine treeDone ?_
      refine NoPanic.normal ?_
      have E20 := hEwv
      go_wp2_with fail
      obtain ⟨X22, hX22⟩ : ∃ X22, X22 = wv.alloc (.cells #[.int .i64 0, .int .i64 526, .int .i64 527, .int .i64 65535] 3) := ⟨_, rfl⟩
      obtain ⟨gb, hgb⟩ : ∃ gb, gb = wv.heap.size := ⟨_, rfl⟩
      have r22 : X22.heap[gb]? = some (.cells #[.int .i64 0, .int .i64 526, .int .i64 527, .int .i64 65535] 3) := by rw [hX22, hgb]; exact heap_alloc_new _ _
      have hE22 : Ext wp X22 := by rw [hX22]; exact E20.alloc _
      rw [← hX22, ← hgb]
      clear hX22 hgb
      have HK0 := Lib.hid (fun V (hV : Ext X22 V) => HAp.out [0, 7, 1, 0, 0, 1, 0, 0, 0, 0, 0, 1, 2, 101, 120, 0, 0, 1, 0, 1, 0, 0, 41, 0, 0, 0, 0, 0, 0, 0, 0] V (hE22.trans hV) (by decide))
      have HK1 := Lib.hid (fun V (hV : Ext X22 V) => HAp.out [0, 7, 1, 0, 0, 1, 0, 0, 0, 0, 0, 1, 2, 101, 120, 0, 0, 1, 0, 1, 0, 0, 41, 2, 14, 0, 0, 0, 0, 0, 0] V (hE22.trans hV) (by decide))
      have HK2 := Lib.hid (fun V (hV : Ext X22 V) => HAp.out [0, 7, 1, 0, 0, 1, 0, 0, 0, 0, 0, 1, 2, 101, 120, 0, 0, 1, 0, 1, 0, 0, 41, 2, 15, 0, 0, 0, 0, 0, 0] V (hE22.trans hV) (by decide))
      have HK3 := Lib.hid (fun V (hV : Ext X22 V) => HAp.out [0, 7, 1, 0, 0, 1, 0, 0, 0, 0, 0, 1, 2, 101, 120, 0, 0, 1, 0, 1, 0, 0, 41, 255, 255, 0, 0, 0, 0, 0, 0] V (hE22.trans hV) (by decide))
      rw [show resOf (groupR (many30 31)) [0, 7, 1, 0, 0, 1, 0, 0, 0, 0, 0, 1, 2, 101, 120, 0, 0, 1, 0, 1, 0, 0, 41, 0, 0, 0, 0, 0, 0, 0, 0] = [0, 7, 131, 128, 0, 1, 0, 0, 0, 0, 0, 1, 2, 101, 120, 0, 0, 1, 0, 1, 0, 0, 41, 16, 0, 0, 0, 0, 0, 0, 0] from by kernel_rfl] at HK0
      rw [show resOf (groupR (many30 31)) [0, 7, 1, 0, 0, 1, 0, 0, 0, 0, 0, 1, 2, 101, 120, 0, 0, 1, 0, 1, 0, 0, 41, 2, 14, 0, 0, 0, 0, 0, 0] = [0, 7, 131, 128, 0, 1, 0, 0, 0, 0, 0, 1, 2, 101, 120, 0, 0, 1, 0, 1, 0, 0, 41, 16, 0, 0, 0, 0, 0, 0, 0] from by kernel_rfl] at HK1
      obtain ⟨y2, hy2⟩ : ∃ x, x = resOf (groupR (many30 31)) [0, 7, 1, 0, 0, 1, 0, 0, 0, 0, 0, 1, 2, 101, 120, 0, 0, 1, 0, 1, 0, 0, 41, 2, 15, 0, 0, 0, 0, 0, 0] := ⟨_, rfl⟩
      obtain ⟨y3, hy3⟩ : ∃ x, x = resOf (groupR (many30 31)) [0, 7, 1, 0, 0, 1, 0, 0, 0, 0, 0, 1, 2, 101, 120, 0, 0, 1, 0, 1, 0, 0, 41, 255, 255, 0, 0, 0, 0, 0, 0] := ⟨_, rfl⟩
      rw [← hy2] at HK2
      rw [← hy3] at HK3
      have HY2 := Lib.hid (show y2.length = 527 ∧ y2.drop 516 = [0, 0, 41, 16, 0, 0, 0, 0, 0, 0, 0] from by rw [hy2]; exact ⟨n30n.2.2.1, n30o.2.2.1⟩)
      have HY3 := Lib.hid (show y3.length = 527 ∧ y3.drop 516 = [0, 0, 41, 16, 0, 0, 0, 0, 0, 0, 0] from by rw [hy3]; exact ⟨n30n.2.2.2, n30o.2.2.2⟩)
      clear hy2 hy3
      go_loopw [15, 16, 210] (fun _ _ s210 wr => ∃ k : Nat, k ≤ 4 ∧ s210 = .int .i64 k ∧ Ext X22 wr) (fun _ _ s210 _ => 4 - (intOf s210).toNat)
      case atStart => exact ⟨0, by omega, rfl, Ext.refl _⟩
      case round =>
        obtain ⟨k, hk, rfl, hEo⟩ := hrel
        obtain ⟨wo, rfl⟩ : ∃ wo : World, wo = wr := ⟨_, rfl⟩
        have r22o := (hEo.block _ (Array.getElem?_eq_some_iff.1 r22).1).trans r22
        by_cases hk4 : k < 4
        · obtain rfl | rfl | rfl | rfl : k = 0 ∨ k = 1 ∨ k = 2 ∨ k = 3 := by omega
          · have cz : wo.cell? ⟨gb, 0, none⟩ = some (.int .i64 0) := box_cell r22o rfl
            go_upto_region 25 with fail
            refine wp_region_noPanic ?_
            refine wp_region_tree (S := (fun _ => True)) (.take 0 (.take 1 (.take 2 (.take 3 (.take 4 (.take 5 (.take 6 (.take 7 (.take 8 (.take 9 (.take 10 (.take 11 (.take 12 (.take 13 (.run 14 (.run 15 (.take 16 (.take 17 (.run 18 (.take 19 (.done))))))))))))))))))))) (by kernel_rfl) (by kernel_rfl) (fun _ _ _ _ _ h => h) (trivial) ?_
            repeat ((with_reducible refine treeIs ?_); first
              | (refine treeTakeX (a' := ?_) ⟨wo.drew, trivial⟩ (by rfl) rfl (by kernel_rfl) rfl ?_ ?_; rotate_left; (focus (intro V Q' hV hq; (repeat (first | go_guarded | go_skip | go_step)); (first | exact hq | exact wpList_nil hq)))))
            refine treeRun (by rfl) (fun K hK => ?_)
            go_simp
            refine hK.out _ _ ?_ ?_
            · exact trivial
            clear hK K
            (try simp only [Act.put, List.setIfInBounds_toArray, List.set_cons_zero, List.set_cons_succ])
            refine treeRun (by rfl) (fun K hK => ?_)
            have hcv : (convert 62 9 (.slice (some ⟨wo.heap.size, 0, none⟩) 2 2)).run Tryz.prog ((wo.alloc (.cells #[.int .u8 0, .int .u8 0] 5)).drew) = .ok (S [0, 0]) ((wo.alloc (.cells #[.int .u8 0, .int .u8 0] 5)).drew) := conv_str 2 (rd_new wo wo.heap.size rfl 5 (([0, 0] : List UInt8).map U8) 2 1 rfl).drew
            go_simp
            (try simp only [hcv, Result.andThen_ok])
            refine hK.out _ _ ?_ ?_
            · exact trivial
            clear hK K
            (try simp only [Act.put, List.setIfInBounds_toArray, List.set_cons_zero, List.set_cons_succ])
            clear hcv
            repeat ((with_reducible refine treeIs ?_); first
              | (refine treeTakeX (a' := ?_) ⟨wo.drew, trivial⟩ (by rfl) rfl (by kernel_rfl) rfl ?_ ?_; rotate_left; (focus (intro V Q' hV hq; (repeat (first | go_guarded | go_skip | go_step)); (first | exact hq | exact wpList_nil hq)))))
            refine treeRun (by rfl) (fun K hK => ?_)
            go_simp
            refine (HK0.out _ ((hEo.alloc _).drew)).mono ?_
            rintro e wk ⟨rfl, hqk⟩
            have hEk : Ext X22 wk := Ext.trans ((hEo.alloc _).drew) hqk
            clear hqk
            refine hK.out _ _ ?_ ?_
            · exact trivial
            clear hK K
            (try simp only [Act.put, List.setIfInBounds_toArray, List.set_cons_zero, List.set_cons_succ])
            repeat ((with_reducible refine treeIs ?_); first
              | (refine treeTakeX (a' := ?_) ⟨wo.drew, trivial⟩ (by rfl) rfl (by kernel_rfl) rfl ?_ ?_; rotate_left; (focus (intro V Q' hV hq; (repeat (first | go_guarded | go_skip | go_step)); (first | exact hq | exact wpList_nil hq)))))
            refine treeDone ?_
            refine NoPanic.normal ?_
            go_wp2_with fail
            go_roundw
            case rel => exact ⟨1, by omega, rfl, hEk⟩
            case measure => simp [intOf]
          · have cz : wo.cell? ⟨gb, 1, none⟩ = some (.int .i64 526) := box_cell r22o rfl
            go_upto_region 25 with fail
            refine wp_region_noPanic ?_
            refine wp_region_tree (S := (fun _ => True)) (.take 0 (.take 1 (.take 2 (.take 3 (.take 4 (.take 5 (.take 6 (.take 7 (.take 8 (.take 9 (.take 10 (.take 11 (.take 12 (.take 13 (.run 14 (.run 15 (.take 16 (.take 17 (.run 18 (.take 19 (.done))))))))))))))))))))) (by kernel_rfl) (by kernel_rfl) (fun _ _ _ _ _ h => h) (trivial) ?_
            repeat ((with_reducible refine treeIs ?_); first
              | (refine treeTakeX (a' := ?_) ⟨wo.drew, trivial⟩ (by rfl) rfl (by kernel_rfl) rfl ?_ ?_; rotate_left; (focus (intro V Q' hV hq; (repeat (first | go_guarded | go_skip | go_step)); (first | exact hq | exact wpList_nil hq)))))
            refine treeRun (by rfl) (fun K hK => ?_)
            go_simp
            refine hK.out _ _ ?_ ?_
            · exact trivial
            clear hK K
            (try simp only [Act.put, List.setIfInBounds_toArray, List.set_cons_zero, List.set_cons_succ])
            refine treeRun (by rfl) (fun K hK => ?_)
            have hcv : (convert 62 9 (.slice (some ⟨wo.heap.size, 0, none⟩) 2 2)).run Tryz.prog ((wo.alloc (.cells #[.int .u8 2, .int .u8 14] 5)).drew) = .ok (S [2, 14]) ((wo.alloc (.cells #[.int .u8 2, .int .u8 14] 5)).drew) := conv_str 2 (rd_new wo wo.heap.size rfl 5 (([2, 14] : List UInt8).map U8) 2 1 rfl).drew
            go_simp
            (try simp only [hcv, Result.andThen_ok])
            refine hK.out _ _ ?_ ?_
            · exact trivial
            clear hK K
            (try simp only [Act.put, List.setIfInBounds_toArray, List.set_cons_zero, List.set_cons_succ])
            clear hcv
            repeat ((with_reducible refine treeIs ?_); first
              | (refine treeTakeX (a' := ?_) ⟨wo.drew, trivial⟩ (by rfl) rfl (by kernel_rfl) rfl ?_ ?_; rotate_left; (focus (intro V Q' hV hq; (repeat (first | go_guarded | go_skip | go_step)); (first | exact hq | exact wpList_nil hq)))))
            refine treeRun (by rfl) (fun K hK => ?_)
            go_simp
            refine (HK1.out _ ((hEo.alloc _).drew)).mono ?_
            rintro e wk ⟨rfl, hqk⟩
            have hEk : Ext X22 wk := Ext.trans ((hEo.alloc _).drew) hqk
            clear hqk
            refine hK.out _ _ ?_ ?_
            · exact trivial
            clear hK K
            (try simp only [Act.put, List.setIfInBounds_toArray, List.set_cons_zero, List.set_cons_succ])
            repeat ((with_reducible refine treeIs ?_); first
              | (refine treeTakeX (a' := ?_) ⟨wo.drew, trivial⟩ (by rfl) rfl (by kernel_rfl) rfl ?_ ?_; rotate_left; (focus (intro V Q' hV hq; (repeat (first | go_guarded | go_skip | go_step)); (first | exact hq | exact wpList_nil hq)))))
            refine treeDone ?_
            refine NoPanic.normal ?_
            go_wp2_with fail
            go_roundw
            case rel => exact ⟨2, by omega, rfl, hEk⟩
            case measure => simp [intOf]
          · have cz : wo.cell? ⟨gb, 2, none⟩ = some (.int .i64 527) := box_cell r22o rfl
            go_upto_region 25 with fail
            refine wp_region_noPanic ?_
            refine wp_region_tree (S := (fun _ => True)) (.take 0 (.take 1 (.take 2 (.take 3 (.take 4 (.take 5 (.take 6 (.take 7 (.take 8 (.take 9 (.take 10 (.take 11 (.take 12 (.take 13 (.run 14 (.run 15 (.take 16 (.take 17 (.run 18 (.take 19 (.done))))))))))))))))))))) (by kernel_rfl) (by kernel_rfl) (fun _ _ _ _ _ h => h) (trivial) ?_
            repeat ((with_reducible refine treeIs ?_); first
              | (refine treeTakeX (a' := ?_) ⟨wo.drew, trivial⟩ (by rfl) rfl (by kernel_rfl) rfl ?_ ?_; rotate_left; (focus (intro V Q' hV hq; (repeat (first | go_guarded | go_skip | go_step)); (first | exact hq | exact wpList_nil hq)))))
            refine treeRun (by rfl) (fun K hK => ?_)
            go_simp
            refine hK.out _ _ ?_ ?_
            · exact trivial
            clear hK K
            (try simp only [Act.put, List.setIfInBounds_toArray, List.set_cons_zero, List.set_cons_succ])
            refine treeRun (by rfl) (fun K hK => ?_)
            have hcv : (convert 62 9 (.slice (some ⟨wo.heap.size, 0, none⟩) 2 2)).run Tryz.prog ((wo.alloc (.cells #[.int .u8 2, .int .u8 15] 5)).drew) = .ok (S [2, 15]) ((wo.alloc (.cells #[.int .u8 2, .int .u8 15] 5)).drew) := conv_str 2 (rd_new wo wo.heap.size rfl 5 (([2, 15] : List UInt8).map U8) 2 1 rfl).drew
            go_simp
            (try simp only [hcv, Result.andThen_ok])
            refine hK.out _ _ ?_ ?_
            · exact trivial
            clear hK K
            (try simp only [Act.put, List.setIfInBounds_toArray, List.set_cons_zero, List.set_cons_succ])
            clear hcv
            repeat ((with_reducible refine treeIs ?_); first
              | (refine treeTakeX (a' := ?_) ⟨wo.drew, trivial⟩ (by rfl) rfl (by kernel_rfl) rfl ?_ ?_; rotate_left; (focus (intro V Q' hV hq; (repeat (first | go_guarded | go_skip | go_step)); (first | exact hq | exact wpList_nil hq)))))
            refine treeRun (by rfl) (fun K hK => ?_)
            go_simp
            refine (HK2.out _ ((hEo.alloc _).drew)).mono ?_
            rintro e wk ⟨rfl, hqk⟩
            have hEk : Ext X22 wk := Ext.trans ((hEo.alloc _).drew) hqk
            clear hqk
            refine hK.out _ _ ?_ ?_
            · exact trivial
            clear hK K
            (try simp only [Act.put, List.setIfInBounds_toArray, List.set_cons_zero, List.set_cons_succ])
            repeat ((with_reducible refine treeIs ?_); first
              | (refine treeTakeX (a' := ?_) ⟨wo.drew, trivial⟩ (by rfl) rfl (by kernel_rfl) rfl ?_ ?_; rotate_left; (focus (intro V Q' hV hq; (repeat (first | go_guarded | go_skip | go_step)); (first | exact hq | exact wpList_nil hq)))))
            refine treeDone ?_
            refine NoPanic.normal ?_
            have hl := HY2.out.1
            have hdr := HY2.out.2
            go_wp2_with fail
            go_roundw
            case rel => exact ⟨3, by omega, rfl, hEk⟩
            case measure => simp [intOf]
          · have cz : wo.cell? ⟨gb, 3, none⟩ = some (.int .i64 65535) := box_cell r22o rfl
            go_upto_region 25 with fail
            refine wp_region_noPanic ?_
            refine wp_region_tree (S := (fun _ => True)) (.take 0 (.take 1 (.take 2 (.take 3 (.take 4 (.take 5 (.take 6 (.take 7 (.take 8 (.take 9 (.take 10 (.take 11 (.take 12 (.take 13 (.run 14 (.run 15 (.take 16 (.take 17 (.run 18 (.take 19 (.done))))))))))))))))))))) (by kernel_rfl) (by kernel_rfl) (fun _ _ _ _ _ h => h) (trivial) ?_
            repeat ((with_reducible refine treeIs ?_); first
              | (refine treeTakeX (a' := ?_) ⟨wo.drew, trivial⟩ (by rfl) rfl (by kernel_rfl) rfl ?_ ?_; rotate_left; (focus (intro V Q' hV hq; (repeat (first | go_guarded | go_skip | go_step)); (first | exact hq | exact wpList_nil hq)))))
            refine treeRun (by rfl) (fun K hK => ?_)
            go_simp
            refine hK.out _ _ ?_ ?_
            · exact trivial
            clear hK K
            (try simp only [Act.put, List.setIfInBounds_toArray, List.set_cons_zero, List.set_cons_succ])
            refine treeRun (by rfl) (fun K hK => ?_)
            have hcv : (convert 62 9 (.slice (some ⟨wo.heap.size, 0, none⟩) 2 2)).run Tryz.prog ((wo.alloc (.cells #[.int .u8 255, .int .u8 255] 5)).drew) = .ok (S [255, 255]) ((wo.alloc (.cells #[.int .u8 255, .int .u8 255] 5)).drew) := conv_str 2 (rd_new wo wo.heap.size rfl 5 (([255, 255] : List UInt8).map U8) 2 1 rfl).drew
            go_simp
            (try simp only [hcv, Result.andThen_ok])
            refine hK.out _ _ ?_ ?_
            · exact trivial
            clear hK K
            (try simp only [Act.put, List.setIfInBounds_toArray, List.set_cons_zero, List.set_cons_succ])
            clear hcv
            repeat ((with_reducible refine treeIs ?_); first
              | (refine treeTakeX (a' := ?_) ⟨wo.drew, trivial⟩ (by rfl) rfl (by kernel_rfl) rfl ?_ ?_; rotate_left; (focus (intro V Q' hV hq; (repeat (first | go_guarded | go_skip | go_step)); (first | exact hq | exact wpList_nil hq)))))
            refine treeRun (by rfl) (fun K hK => ?_)
            go_simp
            refine (HK3.out _ ((hEo.alloc _).drew)).mono ?_
            rintro e wk ⟨rfl, hqk⟩
            have hEk : Ext X22 wk := Ext.trans ((hEo.alloc _).drew) hqk
            clear hqk
            refine hK.out _ _ ?_ ?_
            · exact trivial
            clear hK K
            (try simp only [Act.put, List.setIfInBounds_toArray, List.set_cons_zero, List.set_cons_succ])
            repeat ((with_reducible refine treeIs ?_); first
              | (refine treeTakeX (a' := ?_) ⟨wo.drew, trivial⟩ (by rfl) rfl (by kernel_rfl) rfl ?_ ?_; rotate_left; (focus (intro V Q' hV hq; (repeat (first | go_guarded | go_skip | go_step)); (first | exact hq | exact wpList_nil hq)))))
            refine treeDone ?_
            refine NoPanic.normal ?_
            have hl := HY3.out.1
            have hdr := HY3.out.2
            go_wp2_with fail
            go_roundw
            case rel => exact ⟨4, by omega, rfl, hEk⟩
            case measure => simp [intOf]
        · obtain rfl : k = 4 := by omega
          have HNs := Lib.hid (fun V v (hV : Ext w V) (hv : Recs V 0 v [(⟨[0], 1, 1, 0, [97, 98, 99]⟩ : RecD)]) => res_new 0 v [(⟨[0], 1, 1, 0, [97, 98, 99]⟩ : RecD)] V (hg.ext hV) hv (bd_of30 (l := [(⟨[0], 1, 1, 0, [97, 98, 99]⟩ : RecD)]) (by kernel_rfl) (by decide)).1 (recsOk_wf (bd_of30 (l := [(⟨[0], 1, 1, 0, [97, 98, 99]⟩ : RecD)]) (by kernel_rfl) (by decide)).2))
          unfold NewPost at HNs
          go_wp2_with fail
          refine (HNs.out _ _ (Ext.alloc (hp.trans (hE22.trans hEo)) _) (⟨_, 1, rfl, by decide, by unfold maxLen; decide, rd_new _ _ rfl _ ([(⟨[0], 1, 1, 0, [97, 98, 99]⟩ : RecD)].flatMap recCells) 1 5 rfl⟩)).mono ?_
          rintro e ws (⟨hall, _⟩ | ⟨_, rfl, hEs⟩)
          · rw [List.all_cons, n30q.1] at hall; cases hall
          have hs : Ext w ws := (Ext.alloc (hp.trans (hE22.trans hEo)) _).trans hEs
          clear HNs
          have HNt := Lib.hid (fun V v (hV : Ext w V) (hv : Recs V 0 v [(⟨[0], 41, 1, 0, []⟩ : RecD)]) => res_new 0 v [(⟨[0], 41, 1, 0, []⟩ : RecD)] V (hg.ext hV) hv (bd_of30 (l := [(⟨[0], 41, 1, 0, []⟩ : RecD)]) (by kernel_rfl) (by decide)).1 (recsOk_wf (bd_of30 (l := [(⟨[0], 41, 1, 0, []⟩ : RecD)]) (by kernel_rfl) (by decide)).2))
          unfold NewPost at HNt
          go_wp2_with fail
          refine (HNt.out _ _ (Ext.alloc (hs) _) (⟨_, 1, rfl, by decide, by unfold maxLen; decide, rd_new _ _ rfl _ ([(⟨[0], 41, 1, 0, []⟩ : RecD)].flatMap recCells) 1 5 rfl⟩)).mono ?_
          rintro e wt (⟨hall, _⟩ | ⟨_, rfl, hEt⟩)
          · rw [List.all_cons, n30q.2.1] at hall; cases hall
          have ht : Ext w wt := (Ext.alloc (hs) _).trans hEt
          clear HNt
          have HNu := Lib.hid (fun V v (hV : Ext w V) (hv : Recs V 0 v [(⟨[], 99, 1, 0, []⟩ : RecD)]) => res_new 0 v [(⟨[], 99, 1, 0, []⟩ : RecD)] V (hg.ext hV) hv (bd_of30 (l := [(⟨[], 99, 1, 0, []⟩ : RecD)]) (by kernel_rfl) (by decide)).1 (recsOk_wf (bd_of30 (l := [(⟨[], 99, 1, 0, []⟩ : RecD)]) (by kernel_rfl) (by decide)).2))
          unfold NewPost at HNu
          go_wp2_with fail
          refine (HNu.out _ _ (Ext.alloc (ht) _) (⟨_, 1, rfl, by decide, by unfold maxLen; decide, rd_new _ _ rfl _ ([(⟨[], 99, 1, 0, []⟩ : RecD)].flatMap recCells) 1 5 rfl⟩)).mono ?_
          rintro e wu (⟨hall, _⟩ | ⟨_, rfl, hEu⟩)
          · rw [List.all_cons, n30q.2.2] at hall; cases hall
          have hu : Ext w wu := (Ext.alloc (ht) _).trans hEu
          clear HNu
          go_wp2_with fail
          go_ret
          exact ⟨rfl, hu⟩
end Go.Proofs.YtcpikbanghoflaaGreatDoor
namespace Go.Proofs.YtcpikbanghoflaaGreatDoor
set_option linter.unusedSimpArgs false
set_option linter.unusedVariables false
open Go.ChangeShapes Go.WideShapes Go.ChangeAt Go.RowKit
set_option maxRecDepth 100000

theorem resolverNames_contract (H : Type) (enc : TypeId × Value → H) (W : World) (base : Nat) (args : Array Value) (ds gs : List (DataW H)) (before : List MemPlace)
    (hval : ∀ (j : Nat) t v, Tryz.f4.params[j]? = some t → args[j]? = some v → Value.okWide Tryz.prog W .any base t v)
    (hW : DataW.Whole enc Tryz.prog Tryz.f4.params.toList Rows.resolverNamesSpec.vars false W args.toList ds gs before)
    (hsz : (DataW.weightsEach Tryz.prog (Tryz.f4.params.toList ++ (OpenSpec.ofChange Rows.resolverNamesSpec).bare.plain.varTypes Tryz.prog) (ds ++ gs)).all (· ≤ reachBytes) = true)
    (hL : laidMetH Tryz.prog laidL W) :
    Calls Tryz.prog 4 args W fun e W' => ∃ v, e = .returned v ∧ Rows.resolverNamesSpec.post enc Tryz.prog Tryz.f4 false true false false W args v W' := by
  have hW' := hW
  have hp : ∀ t ∈ Tryz.f4.params.toList, Tryz.prog.readableRec t = true ∧ t < Tryz.prog.types.size := by
    have h : (Tryz.f4.params.toList.all fun t => Tryz.prog.readableRec t && decide (t < Tryz.prog.types.size)) = true := by kernel_rfl
    simpa only [List.all_eq_true, Bool.and_eq_true, decide_eq_true_eq] using h
  have hg := laid_of hL
  have hb := laidbits_of hL
  obtain ⟨p, q, hA0, hV, rfl, _, _⟩ := hW
  have hA : DataW.TrodAll enc Tryz.prog W 0 (fun _ => true) true Tryz.f4.params.toList args.toList ds p := hA0
  clear hA0
  rw [Tryz.params4] at hA hval hsz
  obtain ⟨rfl, rfl⟩ := trodVars_none hV
  obtain ⟨rfl, rfl, rfl⟩ := trodAll_none hA
  refine (law30_names W hg hb).mono ?_
  rintro e W' ⟨rfl, hE⟩
  exact ⟨_, rfl, post_true laid_out rfl (by kernel_rfl) Tryz.underlying4 hp hW' rfl hE⟩

theorem resolverNames_reads (os : Os) {H : Type} (enc : TypeId × Value → H) : ∃ places, DataW.whole enc Tryz.prog ((laidWorld os).forCall (fun _ _ => 0) ⟨#[], #[], []⟩).memory Tryz.f4.params.toList Rows.resolverNamesSpec.vars false (#[] : Array Value).toList 8 = some ([], [], places) :=
  ⟨[], by kernel_rfl⟩
theorem resolverNames_lifted (os : Os) (started : os.Started) (H : Type) (enc : TypeId × Value → H) (F : Stop.Interp) :
    ReturnsInHanded {} Tryz.checked os 4 .any ((OpenSpec.ofChange Rows.resolverNamesSpec).preRow enc Tryz.prog Tryz.f4 Rows.resolverNamesRow.domain false Rows.resolverNamesRow.laid) (((OpenSpec.ofChange Rows.resolverNamesSpec).at F).post enc Tryz.prog Tryz.f4 false true false false) := by
  obtain ⟨places, hx⟩ := resolverNames_reads os enc
  refine returnsInHanded_of_row (C := Tryz.checked) (s := OpenSpec.ofChange Rows.resolverNamesSpec) own_knob started (by kernel_rfl) Tryz.func4
    (witness_row_at (enc := enc) (C := Tryz.checked) false (laidWorld os) #[] rfl (by kernel_rfl) (by kernel_rfl) (by kernel_rfl)
      (OpenSpec.preRow_of_cond 8 hx (by kernel_rfl) (fun k hk => by cases hk) (by kernel_rfl) (laid_met os _))) ?_
  intro W base args ds gs before hval hW _ _ hsz hL _ _
  exact resolverNames_contract H enc W base args ds gs before hval hW hsz hL
theorem band_card (a b : Bool) (h1 : a = true) (h2 : b = true) : (a && b) = true := by rw [h1, h2]; rfl
set_option maxHeartbeats 4000000 in
theorem resolverNames_joined : joinedFacts Tryz.prog 4 Tryz.f4 (OpenSpec.ofChange Rows.resolverNamesSpec).bare Rows.resolverNamesRow = true := by
  unfold joinedFacts; repeat' (with_reducible refine band_card _ _ ?_ ?_)
  all_goals (as_aux_lemma => kernel_rfl)
set_option maxHeartbeats 4000000 in
theorem resolverNames_said : Rows.ResolverNamesSaid :=
  OpenClaim.holds_of_cond 4 Tryz.f4 rfl rfl rfl rfl rfl rfl rfl ⟨rfl, rfl, rfl, rfl, rfl⟩ rfl rfl rfl rfl rfl (by kernel_rfl) Tryz.func4 resolverNames_joined
    (of_decide_eq_true (by kernel_rfl)) (by unfold Func.isWrapper; first | (rw [if_pos (by decide +kernel)]; kernel_rfl) | (rw [if_neg (by decide +kernel)]; exact ⟨rfl, rfl⟩))
    (fun os started H enc _ F => by rw [OpenClaim.pre_eq_preRow]; exact resolverNames_lifted os started H enc F)
/-- THE CARD. -/
theorem resolverNames_card : Rows.ResolverNamesCardSaid :=
  Claim7.holds_tied_plain_at .later [] _ _ _ _ resolverNames_said (fun _ h => by cases h) (by as_aux_lemma => kernel_rfl) (fun _ h => by cases h) resolverNames_row_tie rfl ⟨rfl, rfl⟩ (by as_aux_lemma => kernel_rfl) rfl
    (fun f fn hf hfn => by
      obtain rfl : f = 4 := Option.some.inj ((show Tryz.prog.funcNamed Rows.resolverNamesRow.func = some 4 by kernel_rfl).symm.trans hf) |>.symm
      obtain rfl : fn = Tryz.f4 := (Option.some.inj (Tryz.func4.symm.trans hfn)).symm
      refine ⟨by kernel_rfl, fun j t ht => ?_⟩
      have h : (Tryz.f4.params.toList.all fun t => !Tryz.prog.wantsStandIn t) = true := by kernel_rfl
      have h2 := List.all_eq_true.1 h t (by simpa using Array.mem_of_getElem? ht)
      exact (by simpa using h2 : Tryz.prog.wantsStandIn t = false))
    (by as_aux_lemma => kernel_rfl)
#print axioms resolverNames_card
end Go.Proofs.YtcpikbanghoflaaGreatDoor
