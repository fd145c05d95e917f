/- Contracts of functions and plain lemmas that the proofs of this seat share (joined texts). No condition. -/
import Derived.Test.YtjmfpillnbnofaaDoorBf
import Derived.Deep.RegionHeld3
import Derived.Deep.DeepMust
import Derived.ProofKit
import Derived.OpenShut
import Derived.Deep.Slices
import Derived.Deep.Fields
import Derived.ChangeSame
import Derived.Lib.SmallJoins
import Derived.SizedLaws
import Derived.SliceStrings
import Derived.Carry
namespace Go.Proofs.YtjmfpillnbnofaaDoor
set_option linter.unusedSimpArgs false
set_option linter.unusedVariables false
open Go.RowKit
set_option maxRecDepth 100000

def RecsBd (l : List RecD) : Prop := l.length ≤ 4096 ∧ ∀ r ∈ l, r.name.length ≤ 300000 ∧ r.data.length ≤ 300000
theorem putS_len (l : List (List UInt8)) (s : List UInt8) : (putS l s).length ≤ l.length + 1 := by
  unfold putS
  split
  · omega
  · rw [insB_len]; omega
theorem modify_mem {α : Type} {l : List α} {k : Nat} {f : α → α} {x : α} (h : x ∈ l.modify k f) : x ∈ l ∨ ∃ y ∈ l, x = f y := by
  induction l generalizing k with
  | nil => simp at h
  | cons a l ih =>
    rcases k with _ | k
    · simp only [List.modify_zero_cons, List.mem_cons] at h
      rcases h with rfl | h
      · exact .inr ⟨a, by simp, rfl⟩
      · exact .inl (by simp [h])
    · simp only [List.modify_succ_cons, List.mem_cons] at h
      rcases h with rfl | h
      · exact .inl (by simp)
      · rcases ih h with h | ⟨y, hy, rfl⟩
        · exact .inl (by simp [h])
        · exact .inr ⟨y, by simp [hy], rfl⟩
theorem addR_bd (sets : List SetD) (x : RecD) (k : Nat) (h : ∀ s ∈ sets, s.name.length ≤ 255 ∧ s.data.length ≤ k) : ∀ s ∈ addR sets x, s.name.length ≤ 255 ∧ s.data.length ≤ k + 1 := by
  intro s hs
  unfold addR at hs
  split at hs
  · split at hs
    · rcases List.mem_append.1 hs with h1 | h1
      · have := h s h1; omega
      · rw [List.mem_singleton] at h1; subst h1; exact ⟨fold_le _, by simp⟩
    · rcases modify_mem hs with h1 | ⟨y, hy, rfl⟩
      · have := h s h1; omega
      · have h2 := h y hy
        have h3 := putS_len y.data (rfold x.typ x.data)
        unfold updS
        dsimp only
        omega
  · have := h s hs; omega
theorem groupTo_bd (l : List RecD) : ∀ k, k ≤ l.length → ∀ s ∈ groupTo l k, s.name.length ≤ 255 ∧ s.data.length ≤ k
  | 0, _ => by simp [groupTo]
  | k + 1, h => by
    rw [groupTo_step l k (by omega)]
    exact addR_bd _ _ _ (groupTo_bd l k (by omega))
theorem addR_len (sets : List SetD) (x : RecD) : (addR sets x).length ≤ sets.length + 1 := by
  unfold addR
  repeat' split
  all_goals simp
theorem groupTo_len (l : List RecD) : ∀ k, k ≤ l.length → (groupTo l k).length ≤ k
  | 0, _ => by simp [groupTo]
  | k + 1, h => by
    rw [groupTo_step l k (by omega)]
    have := addR_len (groupTo l k) l[k]
    have := groupTo_len l k (by omega)
    omega

structure GrInv (w : World) (sets : List SetD) (ps : List (SetD × Value)) (A : Option Addr) (c : Nat) (wr : World) : Prop where
  eq : ps.map Prod.fst = sets
  own : Own wr w.heap.size 39 5 A ps.length c (ps.flatMap setCells)
  datas : ∀ p ∈ ps, OStrs wr w.heap.size p.2 p.1.data
  ext : Ext w wr

def GroupPost (l : List SetD) (w : World) (e : Ending) (w' : World) : Prop := ∃ v, e = .returned v ∧ OSets w' w.heap.size v l ∧ Ext w w'

theorem flat5_len (l : List (SetD × Value)) : (l.flatMap setCells).length = l.length * 5 := by
  induction l with
  | nil => rfl
  | cons a l ih => rw [List.flatMap_cons, List.length_append, ih, List.length_cons]; show 5 + _ = _; omega
theorem Rd.takeS {w : World} {lo : Nat} {A : Option Addr} {n : Nat} {ss : List (SetD × Value)} (h : Rd w lo 5 A n (ss.flatMap setCells)) (m : Nat) (hm : m ≤ n) (hn : n = ss.length) : Rd w lo 5 A m ((ss.take m).flatMap setCells) := by
  subst hn
  refine ⟨by rw [flat5_len, List.length_take]; omega, fun h0 => ?_⟩
  obtain ⟨b, off, e, hl, hb, hc⟩ := h.2 (by omega)
  refine ⟨b, off, e, hl, hb, fun j u hu => hc j u ?_⟩
  conv => lhs; rw [← List.take_append_drop m ss]
  rw [List.flatMap_append, List.getElem?_append_left (List.getElem?_eq_some_iff.1 hu).1]; exact hu
theorem Rd.dropS {w : World} {lo : Nat} {b off n : Nat} {ss : List (SetD × Value)} (h : Rd w lo 5 (some ⟨b, off, none⟩) n (ss.flatMap setCells)) (m : Nat) (hm : m ≤ n) (hn : n = ss.length) : Rd w lo 5 (some ⟨b, off + m * 5, none⟩) (n - m) ((ss.drop m).flatMap setCells) := by
  subst hn
  refine ⟨by rw [flat5_len, List.length_drop], fun h0 => ?_⟩
  obtain ⟨b', off', e, hl, hb, hc⟩ := h.2 (by omega)
  injection e with e
  injection e with e1 e2 _
  subst e1 e2
  refine ⟨b, off + m * 5, rfl, hl, hb, fun j u hu => ?_⟩
  rw [Nat.add_assoc]
  refine hc (m * 5 + j) u ?_
  conv => lhs; rw [← List.take_append_drop m ss]
  have hl : ((ss.take m).flatMap setCells).length = m * 5 := by rw [flat5_len, List.length_take]; congr 1; omega
  rw [List.flatMap_append, List.getElem?_append_right (by omega), hl, Nat.add_sub_cancel_left]; exact hu
theorem set_oneL {w : World} {lo : Nat} {ss : List (SetD × Value)} (h : ∀ p ∈ ss, OStrs w lo p.2 p.1.data) : ∀ u ∈ ss.flatMap setCells, u.oneCell' = true := by
  intro u hu
  obtain ⟨p, hp, hu⟩ := List.mem_flatMap.1 hu
  obtain ⟨s, v⟩ := p
  obtain ⟨A, c, e, _⟩ := h _ hp
  dsimp only at e
  subst e
  exact set_oneS s A _ c u hu

structure SelInv (w : World) (G : List SetD) (F : Nat) (ss os : List (SetD × Value)) (sA : Option Addr) (sc : Nat) (oA : Option Addr) (oc : Nat) (wr : World) : Prop where
  fuel : ss.length + os.length ≤ F
  sown : Own wr w.heap.size 39 5 sA ss.length sc (ss.flatMap setCells)
  oown : Own wr w.heap.size 39 5 oA os.length oc (os.flatMap setCells)
  sdat : ∀ p ∈ ss, OStrs wr w.heap.size p.2 p.1.data
  odat : ∀ p ∈ os, OStrs wr w.heap.size p.2 p.1.data
  apart : (Value.slice oA os.length oc).ownBlock = none ∨ (Value.slice oA os.length oc).ownBlock ≠ (Value.slice sA ss.length sc).ownBlock
  names : ∀ p ∈ ss, p.1.name.length ≤ 255
  ext : Ext w wr
  eq : G = os.map Prod.fst ++ selF (F - os.length) (ss.map Prod.fst)

end Go.Proofs.YtjmfpillnbnofaaDoor
namespace Go.Proofs.YtjmfpillnbnofaaDoor
set_option linter.unusedSimpArgs false
set_option linter.unusedVariables false

theorem fold_len (n : List UInt8) : (fold n).length ≤ n.length := by
  unfold fold
  split
  · rw [length_low]; exact Nat.le_refl _
  · simp
theorem foldP_len (l : List Pc) : (l.flatMap fun p => if p.nm then fold p.text else p.text).length ≤ (textOf l).length := by
  induction l with
  | nil => simp [textOf]
  | cons a l ih =>
    unfold textOf at *
    rw [List.flatMap_cons, List.flatMap_cons, List.length_append, List.length_append]
    have : (if a.nm then fold a.text else a.text).length ≤ a.text.length := by
      split
      · exact fold_len _
      · exact Nat.le_refl _
    omega
theorem rfold_len (k : Int) (d : List UInt8) : (rfold k d).length ≤ d.length := by
  unfold rfold partsOf wholeOf
  split
  · rename_i h
    have := foldP_len (splitOf d 0 k).1
    rw [h.2] at this
    exact this
  · simp
theorem insB_mem {l : List (List UInt8)} {s x : List UInt8} (h : x ∈ insB l s) : x ∈ l ∨ x = s := by
  induction l with
  | nil => simp [insB] at h; exact .inr h
  | cons a l ih =>
    simp only [insB] at h
    split at h
    · simp only [List.mem_cons] at h ⊢
      rcases h with h | h | h
      · exact .inr h
      · exact .inl (.inl h)
      · exact .inl (.inr h)
    · simp only [List.mem_cons] at h ⊢
      rcases h with h | h
      · exact .inl (.inl h)
      · rcases ih h with h | h
        · exact .inl (.inr h)
        · exact .inr h
theorem putS_mem {l : List (List UInt8)} {s x : List UInt8} (h : x ∈ putS l s) : x ∈ l ∨ x = s := by
  unfold putS at h
  split at h
  · exact .inl h
  · exact insB_mem h
theorem groupTo_data (l : List RecD) (B : Nat) (hB : ∀ r ∈ l, r.data.length ≤ B) : ∀ k, k ≤ l.length → ∀ s ∈ groupTo l k, ∀ d ∈ s.data, d.length ≤ B
  | 0, _ => by simp [groupTo]
  | k + 1, h => by
    rw [groupTo_step l k (by omega)]
    have ih := groupTo_data l B hB k (by omega)
    have hx := hB l[k] (List.getElem_mem (by omega))
    have hr := rfold_len l[k].typ l[k].data
    intro s hs d hd
    unfold addR at hs
    split at hs
    · split at hs
      · rcases List.mem_append.1 hs with h1 | h1
        · exact ih s h1 d hd
        · rw [List.mem_singleton] at h1; subst h1; simp at hd; subst hd; omega
      · rcases modify_mem hs with h1 | ⟨y, hy, rfl⟩
        · exact ih s h1 d hd
        · rcases putS_mem hd with h2 | h2
          · exact ih y hy d h2
          · subst h2; omega
    · exact ih s hs d hd
theorem selF_mem : ∀ (n : Nat) (l : List SetD) (s : SetD), s ∈ selF n l → s ∈ l
  | 0, _, _, h => by simp [selF] at h
  | n + 1, l, s, h => by
    unfold selF at h
    split at h
    · simp at h
    · rename_i h0
      have hm := minTo_lt l l.length (by omega)
      rcases List.mem_cons.1 h with h | h
      · subst h
        rw [List.getD_eq_getElem?_getD, List.getElem?_eq_getElem hm]
        exact List.getElem_mem hm
      · rcases List.mem_append.1 (selF_mem n _ s h) with h | h
        · exact List.mem_of_mem_take h
        · exact List.mem_of_mem_drop h
theorem groupR_bd {l : List RecD} (h : RecsBd l) : SetsBd (groupR l) := by
  intro s hs
  have hm := selF_mem _ _ _ hs
  have h1 := groupTo_bd l l.length (Nat.le_refl _) s hm
  have h2 := groupTo_data l 300000 (fun r hr => (h.2 r hr).2) l.length (Nat.le_refl _) s hm
  have := h.1
  exact ⟨by omega, by omega, fun d hd => by have := h2 d hd; omega⟩
end Go.Proofs.YtjmfpillnbnofaaDoor
namespace Go.Proofs.YtjmfpillnbnofaaDoor
set_option linter.unusedSimpArgs false
set_option linter.unusedVariables false
open Go.ChangeShapes Go.WideShapes Go.RowKit Go.Deep Go.Joins
set_option maxRecDepth 100000
section
variable {H : Type} {enc : TypeId × Value → H} {P : Program} {w : World} {base : Nat} {spare : Nat → Bool} {held : Bool}
theorem open_slice_fields {t e : TypeId} {fs : Array Field} {fuel : Nat} {cs : List Value} {x : DataW H × List MemPlace} (ht : P.underlying t = some (.slice e)) (he : P.underlying e = some (.struct fs))
    (hone : oneCellFields P fs = true) (hC : P.cellsOf e = fs.size) (h : DataW.trod enc P w base spare held fuel t cs = some x) :
    (cs = [.slice none 0 0] ∧ x = (.nil, [])) ∨
    ∃ (a : Addr) (len cap m : Nat) (D : Nat → DataW H) (Pl : Nat → List MemPlace), cs = [.slice (some a) len cap] ∧ base ≤ a.block ∧ len ≤ cap ∧ cap ≤ maxLen ∧ m = (if spare a.block then cap else len) ∧
      x = (.slice ((List.range len).map D) ((List.range (m - len)).map fun j => D (len + j)), MemPlace.row a (m * fs.size) ++ (List.range m).flatMap Pl) ∧
      ∀ i, i < m → ∃ (ys : List (DataW H × List MemPlace)) (n : Nat), D i = .agg (ys.map (·.1)) ∧ Pl i = ys.flatMap (·.2) ∧ ys.length = fs.size ∧
        ∀ (j : Nat) (f : Field), fs[j]? = some f → ∃ (v : Value) (y : DataW H × List MemPlace), w.cell? (a.add (i * fs.size + j)) = some v ∧ ys[j]? = some y ∧ DataW.trod enc P w base spare held n f.type [v] = some y := by
  rcases open_slice ht h with h0 | ⟨a, len, cap, m, n, D, Pl, hcs, hb, hl, hm, hmm, hx, hi⟩
  · exact .inl h0
  · refine .inr ⟨a, len, cap, m, D, Pl, hcs, hb, hl, hm, hmm, by rw [hC] at hx; exact hx, fun i him => ?_⟩
    obtain ⟨cs', hc, ht'⟩ := hi i him
    rw [hC] at hc
    obtain ⟨ys, n', hn', hy, hlen, hyl, hf⟩ := DataW.trod_struct he ht'
    obtain ⟨_, hcl, hat⟩ := World.cells?_some hc
    simp only [Prod.mk.injEq] at hy
    refine ⟨ys, n', hy.1, hy.2, hyl, fun j f hj => ?_⟩
    obtain ⟨ho, hk⟩ := hone_of hone j f hj
    have hjl : j < fs.size := (Array.getElem?_eq_some_iff.1 hj).1
    have hcell := hat j hjl
    have hv : cs'[j]? = some (cs'[j]'(by omega)) := List.getElem?_eq_getElem (by omega)
    have h1 := hf j f hj
    rw [ho, hk] at h1
    have hone' : (cs'.drop j).take 1 = [cs'[j]'(by omega)] := by
      rw [List.drop_eq_getElem_cons (by omega)]
      rfl
    rw [hone'] at h1
    have hys : ys[j]? = some (ys[j]'(by omega)) := List.getElem?_eq_getElem (by omega)
    refine ⟨_, _, ?_, hys, h1.trans hys⟩
    rw [← Go.Deep.add_add, hcell, hv]
theorem S_of (s : ByteArray) : Value.string s = S s.data.toList := by cases s; simp
theorem spot_of {a : Addr} {v : Value} (h : w.cell? a = some v) : a = ⟨a.block, a.off, none⟩ ∧ a.block < w.heap.size := by
  obtain ⟨b, o, s⟩ := a
  unfold World.cell? at h
  rcases hb : w.heap[b]? with _ | ob
  · simp [hb] at h
  · refine ⟨?_, (Array.getElem?_eq_some_iff.1 hb).1⟩
    rcases s with _ | s
    · rfl
    · simp only [hb] at h
      split at h <;> simp at h
theorem pick {α : Type} (z : α) (n : Nat) (Q : Nat → α → Prop) (h : ∀ i, i < n → ∃ x, Q i x) : ∃ l : List α, l.length = n ∧ ∀ i (hi : i < l.length), Q i l[i] := by
  classical
  refine ⟨(List.range n).map fun i => if hi : i < n then Classical.choose (h i hi) else z, by simp, fun i hi => ?_⟩
  have hi' : i < n := by simpa using hi
  simp only [List.getElem_map, List.getElem_range, dif_pos hi']
  exact Classical.choose_spec (h i hi')
theorem wf_u16 {n : Int} (h : (Lit.int .u16 n).wf = true) : 0 ≤ n ∧ n ≤ 65535 := by
  have h1 : IntKind.u16.min = 0 := rfl
  have h2 : IntKind.u16.max = 65535 := rfl
  simp [Lit.wf] at h; omega
theorem wf_u32 {n : Int} (h : (Lit.int .u32 n).wf = true) : 0 ≤ n ∧ n ≤ 4294967295 := by
  have h1 : IntKind.u32.min = 0 := rfl
  have h2 : IntKind.u32.max = 4294967295 := rfl
  simp [Lit.wf] at h; omega
theorem len_of {s : ByteArray} (h : s.size ≤ maxLen) : s.data.toList.length ≤ maxLen := by rw [Array.length_toList]; exact h
end

/-- A question. -/
theorem open_question {H : Type} {enc : TypeId × Value → H} {W : World} {r : Reach} {b0 : Nat} {v : Value} {d : DataW H} {p : List MemPlace}
    (hv : Value.okWide Tryd.prog W r b0 27 v) (h : DataW.Trod enc Tryd.prog W 0 (fun _ => true) true 27 v d p) :
    ∃ (n : List UInt8) (ty cl : Int), v = .agg #[S n, .int .u16 ty, .int .u16 cl] ∧ n.length ≤ maxLen ∧ (0 ≤ ty ∧ ty ≤ 65535) ∧ (0 ≤ cl ∧ cl ≤ 65535) := by
  obtain ⟨v0, v1, v2, y0, y1, y2, n, rfl, _, _, h0, h1, h2⟩ := open_agg3 Tryd.underlying27 (by kernel_rfl) (by kernel_rfl) hv h
  obtain ⟨s, e0, _, hs⟩ := DataW.trod_string Tryd.underlying9 h0
  obtain ⟨a, e1, _, w1⟩ := DataW.trod_int Tryd.underlying23 h1
  obtain ⟨b, e2, _, w2⟩ := DataW.trod_int Tryd.underlying23 h2
  injection e0 with e0 _
  injection e1 with e1 _
  injection e2 with e2 _
  subst e0 e1 e2
  exact ⟨s.data.toList, a, b, by rw [S_of], len_of hs, wf_u16 w1, wf_u16 w2⟩

def RecOk (r : RecD) : Prop := r.name.length ≤ maxLen ∧ r.data.length ≤ maxLen ∧ (0 ≤ r.typ ∧ r.typ ≤ 65535) ∧ (0 ≤ r.cls ∧ r.cls ≤ 65535) ∧ (0 ≤ r.ttl ∧ r.ttl ≤ 4294967295)
theorem flatR_len (l : List RecD) : (l.flatMap recCells).length = l.length * 5 := by
  induction l with
  | nil => rfl
  | cons a l ih => rw [List.flatMap_cons, List.length_append, ih, List.length_cons]; show 5 + _ = _; omega
theorem recs_of {w : World} {b off : Nat} {l : List RecD} (h : ∀ i (hi : i < l.length), w.cell? ⟨b, off + (i * 5 + 0), none⟩ = some (S l[i].name) ∧ w.cell? ⟨b, off + (i * 5 + 1), none⟩ = some (.int .u16 l[i].typ) ∧ w.cell? ⟨b, off + (i * 5 + 2), none⟩ = some (.int .u16 l[i].cls) ∧ w.cell? ⟨b, off + (i * 5 + 3), none⟩ = some (.int .u32 l[i].ttl) ∧ w.cell? ⟨b, off + (i * 5 + 4), none⟩ = some (S l[i].data)) :
    ∀ j u, (l.flatMap recCells)[j]? = some u → w.cell? ⟨b, off + j, none⟩ = some u := by
  intro j u hu
  have hlen := flatR_len l
  have hj : j < l.length * 5 := by rw [← hlen]; exact (List.getElem?_eq_some_iff.1 hu).1
  have hi : j / 5 < l.length := by omega
  obtain ⟨h0, h1, h2, h3, h4⟩ := h (j / 5) hi
  have hg := flat_get recCells 5 (fun _ => rfl) l (j / 5) (j % 5) l[j / 5] (List.getElem?_eq_getElem hi) (by omega)
  rw [show j / 5 * 5 + j % 5 = j by omega, hu] at hg
  have e : j = j / 5 * 5 + j % 5 := by omega
  generalize hr : j % 5 = k at *
  have hk : k < 5 := by omega
  rw [e]
  rcases k with _ | _ | _ | _ | _ | k
  · rw [h0, hg]; rfl
  · rw [h1, hg]; rfl
  · rw [h2, hg]; rfl
  · rw [h3, hg]; rfl
  · rw [h4, hg]; rfl
  · omega

theorem open_recs {H : Type} {enc : TypeId × Value → H} {W : World} {r : Reach} {b0 : Nat} {v : Value} {d : DataW H} {p : List MemPlace}
    (hv : Value.okWide Tryd.prog W r b0 50 v) (h : DataW.Trod enc Tryd.prog W 0 (fun _ => true) true 50 v d p) :
    ∃ l : List RecD, Recs W 0 v l ∧ ∀ x ∈ l, RecOk x := by
  obtain ⟨a0, n0, c0, rfl⟩ := okWide_slice Tryd.underlying50 hv
  obtain ⟨fuel, hf⟩ := h
  rcases open_slice_fields Tryd.underlying50 Tryd.underlying75 (by kernel_rfl) (by kernel_rfl) hf with ⟨e, _⟩ | ⟨a, len, cap, m, D, Pl, e, _, hl, hm, hmm, _, hi⟩
  · simp only [Value.cells, List.cons.injEq, and_true] at e
    rw [e]
    exact ⟨[], ⟨none, 0, rfl, by simp, by unfold maxLen; omega, Rd.nil _ _ _ _⟩, by simp⟩
  · simp only [Value.cells, List.cons.injEq, and_true] at e
    rw [e]
    have hmc : len ≤ m := by rw [hmm]; split <;> omega
    obtain ⟨l, hll, hq⟩ := pick (⟨[], 0, 0, 0, []⟩ : RecD) len (fun i r => (W.cell? (a.add (i * 5 + 0)) = some (S r.name) ∧ W.cell? (a.add (i * 5 + 1)) = some (.int .u16 r.typ) ∧ W.cell? (a.add (i * 5 + 2)) = some (.int .u16 r.cls) ∧ W.cell? (a.add (i * 5 + 3)) = some (.int .u32 r.ttl) ∧ W.cell? (a.add (i * 5 + 4)) = some (S r.data)) ∧ RecOk r) (fun i hi' => by
      obtain ⟨ys, n, _, _, _, hy⟩ := hi i (by omega)
      obtain ⟨v0, y0, c0, _, t0⟩ := hy 0 _ rfl
      obtain ⟨v1, y1, c1, _, t1⟩ := hy 1 _ rfl
      obtain ⟨v2, y2, c2, _, t2⟩ := hy 2 _ rfl
      obtain ⟨v3, y3, c3, _, t3⟩ := hy 3 _ rfl
      obtain ⟨v4, y4, c4, _, t4⟩ := hy 4 _ rfl
      obtain ⟨s, e0, _, hs⟩ := DataW.trod_string Tryd.underlying9 t0
      obtain ⟨x1, e1, _, w1⟩ := DataW.trod_int Tryd.underlying23 t1
      obtain ⟨x2, e2, _, w2⟩ := DataW.trod_int Tryd.underlying23 t2
      obtain ⟨x3, e3, _, w3⟩ := DataW.trod_int Tryd.underlying36 t3
      obtain ⟨u, e4, _, hu⟩ := DataW.trod_string Tryd.underlying9 t4
      injection e0 with e0 _
      injection e1 with e1 _
      injection e2 with e2 _
      injection e3 with e3 _
      injection e4 with e4 _
      subst e0 e1 e2 e3 e4
      rw [S_of] at c0 c4
      exact ⟨⟨s.data.toList, x1, x2, x3, u.data.toList⟩, ⟨c0, c1, c2, c3, c4⟩, len_of hs, len_of hu, wf_u16 w1, wf_u16 w2, wf_u32 w3⟩)
    subst hll
    refine ⟨l, ⟨some a, cap, rfl, hl, hm, ?_, fun h0 => ?_⟩, fun x hx => ?_⟩
    · exact flatR_len l
    · have hz := (hq 0 h0).1.1
      rw [show a.add (0 * 5 + 0) = a from rfl] at hz
      obtain ⟨ea, hb⟩ := spot_of hz
      refine ⟨a.block, a.off, by rw [← ea], Nat.zero_le _, hb, recs_of fun i hi' => ?_⟩
      have := (hq i hi').1
      rw [ea] at this
      simp only [add_none] at this
      exact this
    · obtain ⟨i, hi', rfl⟩ := List.getElem_of_mem hx
      exact (hq i hi').2
end Go.Proofs.YtjmfpillnbnofaaDoor
namespace Go.Proofs.YtjmfpillnbnofaaDoor
set_option linter.unusedSimpArgs false
set_option linter.unusedVariables false
open Go.ChangeShapes Go.WideShapes Go.RowKit Go.Deep Go.Joins
set_option maxRecDepth 100000
section
variable {H : Type} {enc : TypeId × Value → H} {P : Program} {w : World} {base : Nat} {spare : Nat → Bool} {held : Bool}
theorem weights_all {e : TypeId} : ∀ {l : List (DataW H)} {d : DataW H}, d ∈ l → ∀ n ∈ d.weights P e, n ∈ DataW.weightsAll P e l
  | [], _, h, _, _ => by simp at h
  | a :: l, d, h, n, hn => by
    simp only [DataW.weightsAll, List.mem_append]
    rcases List.mem_cons.1 h with rfl | h
    · exact .inl hn
    · exact .inr (weights_all h n hn)
theorem weights_elem {t e : TypeId} (ht : P.underlying t = some (.slice e)) {elems sp : List (DataW H)} {d : DataW H} (hd : d ∈ elems) {n : Nat} (hn : n ∈ d.weights P e) : n ∈ (DataW.slice elems sp).weights P t := by
  simp only [DataW.weights, ht, List.mem_cons, List.mem_append]
  exact .inr (.inl (weights_all hd n hn))
theorem weights_field {e : TypeId} {fs : Array Field} (he : P.underlying e = some (.struct fs)) {parts : List (DataW H)} {j : Nat} {f : Field} {d : DataW H} (hf : fs[j]? = some f) (hd : parts[j]? = some d) {n : Nat} (hn : n ∈ d.weights P f.type) : n ∈ (DataW.agg parts).weights P e := by
  simp only [DataW.weights, he]
  exact DataW.weights_mem_each (j := j) (t := f.type) (by simp [hf]) hd n hn
theorem weights_str (t : TypeId) (s : ByteArray) : s.data.toList.length ∈ (DataW.lit (H := H) (.string s.data.toList)).weights P t := by simp [DataW.weights]
theorem open_agg5 {r : Reach} {b0 : Nat} {t : TypeId} {f0 f1 f2 f3 f4 : Field} {v : Value} {d : DataW H} {p : List MemPlace} (hs : P.underlying t = some (.struct #[f0, f1, f2, f3, f4])) (hone : oneCellFields P #[f0, f1, f2, f3, f4] = true) (hC : P.cellsOf t = 5)
    (hv : Value.okWide P w r b0 t v) (h : DataW.Trod enc P w base spare held t v d p) :
    ∃ (v0 v1 v2 v3 v4 : Value) (y0 y1 y2 y3 y4 : DataW H × List MemPlace) (n : Nat), v = .agg #[v0, v1, v2, v3, v4] ∧ d = .agg [y0.1, y1.1, y2.1, y3.1, y4.1] ∧ p = y0.2 ++ (y1.2 ++ (y2.2 ++ (y3.2 ++ y4.2))) ∧
      DataW.trod enc P w base spare held n f0.type [v0] = some y0 ∧ DataW.trod enc P w base spare held n f1.type [v1] = some y1 ∧ DataW.trod enc P w base spare held n f2.type [v2] = some y2 ∧ DataW.trod enc P w base spare held n f3.type [v3] = some y3 ∧ DataW.trod enc P w base spare held n f4.type [v4] = some y4 := by
  obtain ⟨cs, rfl, hsz⟩ := okWide_struct hs hv
  obtain ⟨l⟩ := cs
  match l, hsz.trans hC with
  | [c0, c1, c2, c3, c4], _ =>
    obtain ⟨fuel, hf⟩ := h
    obtain ⟨xs, n, _, hx, _, hlen, hg⟩ := DataW.trod_struct hs hf
    obtain ⟨o0, k0⟩ := hone_of hone 0 f0 rfl
    obtain ⟨o1, k1⟩ := hone_of hone 1 f1 rfl
    obtain ⟨o2, k2⟩ := hone_of hone 2 f2 rfl
    obtain ⟨o3, k3⟩ := hone_of hone 3 f3 rfl
    obtain ⟨o4, k4⟩ := hone_of hone 4 f4 rfl
    match xs, hlen with
    | [y0, y1, y2, y3, y4], _ =>
      simp only [Prod.mk.injEq] at hx
      exact ⟨c0, c1, c2, c3, c4, y0, y1, y2, y3, y4, n, rfl, by simpa using hx.1, by simpa using hx.2, by simpa [Value.cells, o0, k0] using hg 0 f0 rfl, by simpa [Value.cells, o1, k1] using hg 1 f1 rfl, by simpa [Value.cells, o2, k2] using hg 2 f2 rfl, by simpa [Value.cells, o3, k3] using hg 3 f3 rfl, by simpa [Value.cells, o4, k4] using hg 4 f4 rfl⟩
end

/-- Records, with the reach of their texts. -/
theorem open_recsW {H : Type} {enc : TypeId × Value → H} {W : World} {r : Reach} {b0 : Nat} {v : Value} {d : DataW H} {p : List MemPlace}
    (hv : Value.okWide Tryd.prog W r b0 50 v) (h : DataW.Trod enc Tryd.prog W 0 (fun _ => true) true 50 v d p) :
    ∃ l : List RecD, Recs W 0 v l ∧ ∀ x ∈ l, RecOk x ∧ x.name.length ∈ d.weights Tryd.prog 50 ∧ x.data.length ∈ d.weights Tryd.prog 50 := by
  obtain ⟨a0, n0, c0, rfl⟩ := okWide_slice Tryd.underlying50 hv
  obtain ⟨fuel, hf⟩ := h
  rcases open_slice_fields Tryd.underlying50 Tryd.underlying75 (by kernel_rfl) (by kernel_rfl) hf with ⟨e, _⟩ | ⟨a, len, cap, m, D, Pl, e, _, hl, hm, hmm, hdp, hi⟩
  · simp only [Value.cells, List.cons.injEq, and_true] at e
    rw [e]
    exact ⟨[], ⟨none, 0, rfl, by simp, by unfold maxLen; omega, Rd.nil _ _ _ _⟩, by simp⟩
  · simp only [Value.cells, List.cons.injEq, and_true] at e
    rw [e]
    have hmc : len ≤ m := by rw [hmm]; split <;> omega
    have hdd := (Prod.mk.inj hdp).1
    obtain ⟨l, hll, hq⟩ := pick (⟨[], 0, 0, 0, []⟩ : RecD) len (fun i r => (W.cell? (a.add (i * 5 + 0)) = some (S r.name) ∧ W.cell? (a.add (i * 5 + 1)) = some (.int .u16 r.typ) ∧ W.cell? (a.add (i * 5 + 2)) = some (.int .u16 r.cls) ∧ W.cell? (a.add (i * 5 + 3)) = some (.int .u32 r.ttl) ∧ W.cell? (a.add (i * 5 + 4)) = some (S r.data)) ∧ RecOk r ∧ r.name.length ∈ d.weights Tryd.prog 50 ∧ r.data.length ∈ d.weights Tryd.prog 50) (fun i hi' => by
      obtain ⟨ys, n, hD, _, _, hy⟩ := hi i (by omega)
      obtain ⟨v0, y0, c0, g0, t0⟩ := hy 0 _ rfl
      obtain ⟨v1, y1, c1, _, t1⟩ := hy 1 _ rfl
      obtain ⟨v2, y2, c2, _, t2⟩ := hy 2 _ rfl
      obtain ⟨v3, y3, c3, _, t3⟩ := hy 3 _ rfl
      obtain ⟨v4, y4, c4, g4, t4⟩ := hy 4 _ rfl
      obtain ⟨s, e0, z0, hs⟩ := DataW.trod_string Tryd.underlying9 t0
      obtain ⟨x1, e1, _, w1⟩ := DataW.trod_int Tryd.underlying23 t1
      obtain ⟨x2, e2, _, w2⟩ := DataW.trod_int Tryd.underlying23 t2
      obtain ⟨x3, e3, _, w3⟩ := DataW.trod_int Tryd.underlying36 t3
      obtain ⟨u, e4, z4, hu⟩ := DataW.trod_string Tryd.underlying9 t4
      injection e0 with e0 _
      injection e1 with e1 _
      injection e2 with e2 _
      injection e3 with e3 _
      injection e4 with e4 _
      subst e0 e1 e2 e3 e4
      rw [S_of] at c0 c4
      have hmem : D i ∈ (List.range len).map D := List.mem_map.2 ⟨i, List.mem_range.2 hi', rfl⟩
      refine ⟨⟨s.data.toList, x1, x2, x3, u.data.toList⟩, ⟨c0, c1, c2, c3, c4⟩, ⟨len_of hs, len_of hu, wf_u16 w1, wf_u16 w2, wf_u32 w3⟩, ?_, ?_⟩
      · rw [hdd]
        refine weights_elem Tryd.underlying50 hmem ?_
        rw [hD]
        refine weights_field (j := 0) (d := y0.1) Tryd.underlying75 rfl (by simp [g0]) ?_
        rw [z0]; exact weights_str _ s
      · rw [hdd]
        refine weights_elem Tryd.underlying50 hmem ?_
        rw [hD]
        refine weights_field (j := 4) (d := y4.1) Tryd.underlying75 rfl (by simp [g4]) ?_
        rw [z4]; exact weights_str _ u)
    subst hll
    refine ⟨l, ⟨some a, cap, rfl, hl, hm, ?_, fun h0 => ?_⟩, fun x hx => ?_⟩
    · exact flatR_len l
    · have hz := (hq 0 h0).1.1
      rw [show a.add (0 * 5 + 0) = a from rfl] at hz
      obtain ⟨ea, hb⟩ := spot_of hz
      refine ⟨a.block, a.off, by rw [← ea], Nat.zero_le _, hb, recs_of fun i hi' => ?_⟩
      have := (hq i hi').1
      rw [ea] at this
      simp only [add_none] at this
      exact this
    · obtain ⟨i, hi', rfl⟩ := List.getElem_of_mem hx
      exact (hq i hi').2

/-- A []string, opened out of its one cell. -/
theorem open_strs {H : Type} {enc : TypeId × Value → H} {W : World} {fuel : Nat} {v : Value} {x : DataW H × List MemPlace}
    (h : DataW.trod enc Tryd.prog W 0 (fun _ => true) true fuel 37 [v] = some x) :
    ∃ l : List (List UInt8), Strs W 0 v l ∧ ∀ s ∈ l, s.length ∈ x.1.weights Tryd.prog 37 := by
  rcases open_strings Tryd.underlying37 Tryd.underlying9 (by kernel_rfl) h with ⟨e, _⟩ | ⟨a, len, cap, ss, e, _, hl, hm, hss, hx, hc, _⟩
  · simp only [List.cons.injEq, and_true] at e
    rw [e]
    exact ⟨[], ⟨none, 0, rfl, by simp, by unfold maxLen; omega, Rd.nil _ _ _ _⟩, by simp⟩
  · simp only [List.cons.injEq, and_true] at e
    rw [e]
    have hsl : len ≤ ss.length := by rw [hss]; split <;> omega
    have hll : ((ss.take len).map fun s => s.data.toList).length = len := by simp; omega
    refine ⟨(ss.take len).map fun s => s.data.toList, ⟨some a, cap, by rw [hll], by rw [hll]; exact hl, hm, by simp, fun h0 => ?_⟩, fun s hs => ?_⟩
    · rw [hll] at h0
      have hz := hc 0 (by omega)
      obtain ⟨ea, hb⟩ := spot_of (show W.cell? a = _ from hz)
      refine ⟨a.block, a.off, by rw [← ea], Nat.zero_le _, hb, fun j u hu => ?_⟩
      simp only [List.map_map, List.getElem?_map, Option.map_eq_some_iff] at hu
      obtain ⟨y, hy, rfl⟩ := hu
      rw [List.getElem?_take] at hy
      split at hy
      · have hj := hc j (List.getElem?_eq_some_iff.1 hy).1
        rw [ea, add_none] at hj
        rw [hj, List.getD_eq_getElem?_getD, hy]
        exact congrArg some (S_of y)
      · cases hy
    · obtain ⟨y, hy, rfl⟩ := List.mem_map.1 hs
      rw [hx]
      exact weights_elem Tryd.underlying37 (d := .lit (.string y.data.toList)) (List.mem_map.2 ⟨y, hy, rfl⟩) (weights_str _ y)

/-- What a set that came in keeps to. -/
def SetIn (s : SetD) : Prop := (0 ≤ s.typ ∧ s.typ ≤ 65535) ∧ (0 ≤ s.cls ∧ s.cls ≤ 65535) ∧ (0 ≤ s.ttl ∧ s.ttl ≤ 4294967295)
theorem open_set {H : Type} {enc : TypeId × Value → H} {W : World} {r : Reach} {b0 : Nat} {v : Value} {d : DataW H} {p : List MemPlace}
    (hv : Value.okWide Tryd.prog W r b0 39 v) (h : DataW.Trod enc Tryd.prog W 0 (fun _ => true) true 39 v d p) :
    ∃ (s : SetD) (dv : Value), v = setVal s dv ∧ Strs W 0 dv s.data ∧ SetIn s ∧ s.name.length ∈ d.weights Tryd.prog 39 ∧ ∀ x ∈ s.data, x.length ∈ d.weights Tryd.prog 39 := by
  obtain ⟨v0, v1, v2, v3, v4, y0, y1, y2, y3, y4, n, rfl, rfl, _, h0, h1, h2, h3, h4⟩ := open_agg5 Tryd.underlying39 (by kernel_rfl) (by kernel_rfl) hv h
  obtain ⟨s, e0, z0, hs⟩ := DataW.trod_string Tryd.underlying9 h0
  obtain ⟨a, e1, _, w1⟩ := DataW.trod_int Tryd.underlying23 h1
  obtain ⟨b, e2, _, w2⟩ := DataW.trod_int Tryd.underlying23 h2
  obtain ⟨c, e3, _, w3⟩ := DataW.trod_int Tryd.underlying36 h3
  obtain ⟨l, hl, hw⟩ := open_strs h4
  injection e0 with e0 _
  injection e1 with e1 _
  injection e2 with e2 _
  injection e3 with e3 _
  subst e0 e1 e2 e3
  refine ⟨⟨s.data.toList, a, b, c, l⟩, v4, by rw [S_of], hl, ⟨wf_u16 w1, wf_u16 w2, wf_u32 w3⟩, ?_, fun x hx => ?_⟩
  · exact weights_field (j := 0) (d := y0.1) Tryd.underlying39 rfl rfl (by rw [z0]; exact weights_str _ s)
  · exact weights_field (j := 4) (d := y4.1) Tryd.underlying39 rfl rfl (hw x hx)
theorem flatS_len (ps : List (SetD × Value)) : (ps.flatMap setCells).length = ps.length * 5 := by
  induction ps with
  | nil => rfl
  | cons a l ih => rw [List.flatMap_cons, List.length_append, ih, List.length_cons]; show 5 + _ = _; omega
theorem sets_of {w : World} {b off : Nat} {l : List (SetD × Value)} (h : ∀ i (hi : i < l.length), w.cell? ⟨b, off + (i * 5 + 0), none⟩ = some (S l[i].1.name) ∧ w.cell? ⟨b, off + (i * 5 + 1), none⟩ = some (.int .u16 l[i].1.typ) ∧ w.cell? ⟨b, off + (i * 5 + 2), none⟩ = some (.int .u16 l[i].1.cls) ∧ w.cell? ⟨b, off + (i * 5 + 3), none⟩ = some (.int .u32 l[i].1.ttl) ∧ w.cell? ⟨b, off + (i * 5 + 4), none⟩ = some l[i].2) :
    ∀ j u, (l.flatMap setCells)[j]? = some u → w.cell? ⟨b, off + j, none⟩ = some u := by
  intro j u hu
  have hlen := flatS_len l
  have hj : j < l.length * 5 := by rw [← hlen]; exact (List.getElem?_eq_some_iff.1 hu).1
  have hi : j / 5 < l.length := by omega
  obtain ⟨h0, h1, h2, h3, h4⟩ := h (j / 5) hi
  have hg := flat_get setCells 5 (fun _ => rfl) l (j / 5) (j % 5) l[j / 5] (List.getElem?_eq_getElem hi) (by omega)
  rw [show j / 5 * 5 + j % 5 = j by omega, hu] at hg
  have e : j = j / 5 * 5 + j % 5 := by omega
  generalize hr : j % 5 = k at *
  have hk : k < 5 := by omega
  rw [e]
  rcases k with _ | _ | _ | _ | _ | k
  · rw [h0, hg]; rfl
  · rw [h1, hg]; rfl
  · rw [h2, hg]; rfl
  · rw [h3, hg]; rfl
  · rw [h4, hg]; rfl
  · omega
theorem open_sets {H : Type} {enc : TypeId × Value → H} {W : World} {r : Reach} {b0 : Nat} {v : Value} {d : DataW H} {p : List MemPlace}
    (hv : Value.okWide Tryd.prog W r b0 32 v) (h : DataW.Trod enc Tryd.prog W 0 (fun _ => true) true 32 v d p) :
    ∃ l : List SetD, Sets W 0 v l ∧ ∀ s ∈ l, SetIn s ∧ s.name.length ∈ d.weights Tryd.prog 32 ∧ ∀ x ∈ s.data, x.length ∈ d.weights Tryd.prog 32 := by
  obtain ⟨a0, n0, c0, rfl⟩ := okWide_slice Tryd.underlying32 hv
  obtain ⟨fuel, hf⟩ := h
  rcases open_slice_fields Tryd.underlying32 Tryd.underlying39 (by kernel_rfl) (by kernel_rfl) hf with ⟨e, _⟩ | ⟨a, len, cap, m, D, Pl, e, _, hl, hm, hmm, hdp, hi⟩
  · simp only [Value.cells, List.cons.injEq, and_true] at e
    rw [e]
    exact ⟨[], ⟨[], none, 0, rfl, rfl, Nat.le_refl _, by unfold maxLen; omega, Rd.nil _ _ _ _, by simp⟩, by simp⟩
  · simp only [Value.cells, List.cons.injEq, and_true] at e
    rw [e]
    have hmc : len ≤ m := by rw [hmm]; split <;> omega
    have hdd := (Prod.mk.inj hdp).1
    obtain ⟨l, hll, hq⟩ := pick ((SetD.zero, .slice none 0 0) : SetD × Value) len (fun i r => (W.cell? (a.add (i * 5 + 0)) = some (S r.1.name) ∧ W.cell? (a.add (i * 5 + 1)) = some (.int .u16 r.1.typ) ∧ W.cell? (a.add (i * 5 + 2)) = some (.int .u16 r.1.cls) ∧ W.cell? (a.add (i * 5 + 3)) = some (.int .u32 r.1.ttl) ∧ W.cell? (a.add (i * 5 + 4)) = some r.2) ∧ Strs W 0 r.2 r.1.data ∧ SetIn r.1 ∧ r.1.name.length ∈ d.weights Tryd.prog 32 ∧ ∀ x ∈ r.1.data, x.length ∈ d.weights Tryd.prog 32) (fun i hi' => by
      obtain ⟨ys, n, hD, _, _, hy⟩ := hi i (by omega)
      obtain ⟨v0, y0, c0, g0, t0⟩ := hy 0 _ rfl
      obtain ⟨v1, y1, c1, _, t1⟩ := hy 1 _ rfl
      obtain ⟨v2, y2, c2, _, t2⟩ := hy 2 _ rfl
      obtain ⟨v3, y3, c3, _, t3⟩ := hy 3 _ rfl
      obtain ⟨v4, y4, c4, g4, t4⟩ := hy 4 _ rfl
      obtain ⟨s, e0, z0, hs⟩ := DataW.trod_string Tryd.underlying9 t0
      obtain ⟨x1, e1, _, w1⟩ := DataW.trod_int Tryd.underlying23 t1
      obtain ⟨x2, e2, _, w2⟩ := DataW.trod_int Tryd.underlying23 t2
      obtain ⟨x3, e3, _, w3⟩ := DataW.trod_int Tryd.underlying36 t3
      obtain ⟨sl, hsl, hsw⟩ := open_strs t4
      injection e0 with e0 _
      injection e1 with e1 _
      injection e2 with e2 _
      injection e3 with e3 _
      subst e0 e1 e2 e3
      rw [S_of] at c0
      have hmem : D i ∈ (List.range len).map D := List.mem_map.2 ⟨i, List.mem_range.2 hi', rfl⟩
      refine ⟨(⟨s.data.toList, x1, x2, x3, sl⟩, v4), ⟨c0, c1, c2, c3, c4⟩, hsl, ⟨wf_u16 w1, wf_u16 w2, wf_u32 w3⟩, ?_, fun x hx => ?_⟩
      · rw [hdd]
        refine weights_elem Tryd.underlying32 hmem ?_
        rw [hD]
        refine weights_field (j := 0) (d := y0.1) Tryd.underlying39 rfl (by simp [g0]) ?_
        rw [z0]; exact weights_str _ s
      · rw [hdd]
        refine weights_elem Tryd.underlying32 hmem ?_
        rw [hD]
        exact weights_field (j := 4) (d := y4.1) Tryd.underlying39 rfl (by simp [g4]) (hsw x hx))
    subst hll
    refine ⟨l.map Prod.fst, ⟨l, some a, cap, rfl, rfl, hl, hm, ?_, fun p hp => ?_⟩, fun s hs => ?_⟩
    · refine ⟨flatS_len l, fun h0 => ?_⟩
      have hz := (hq 0 h0).1.1
      rw [show a.add (0 * 5 + 0) = a from rfl] at hz
      obtain ⟨ea, hb⟩ := spot_of hz
      refine ⟨a.block, a.off, by rw [← ea], Nat.zero_le _, hb, sets_of fun i hi' => ?_⟩
      have := (hq i hi').1
      rw [ea] at this
      simp only [add_none] at this
      exact this
    · obtain ⟨i, hi', rfl⟩ := List.getElem_of_mem hp
      exact (hq i hi').2.1
    · obtain ⟨p, hp, rfl⟩ := List.mem_map.1 hs
      obtain ⟨i, hi', rfl⟩ := List.getElem_of_mem hp
      exact (hq i hi').2.2
/-- What the form's reach says of a text's length. -/
theorem reach_of {H : Type} {P : Program} {ts : List TypeId} {ds : List (DataW H)} (h : (DataW.weightsEach P ts ds).all (· ≤ reachBytes) = true) {j : Nat} {t : TypeId} {d : DataW H} (ht : ts[j]? = some t) (hd : ds[j]? = some d) {n : Nat} (hn : n ∈ d.weights P t) : n ≤ 140737488351232 := by
  have := List.all_eq_true.1 h _ (DataW.weights_mem_each ht hd n hn)
  exact of_decide_eq_true this
end Go.Proofs.YtjmfpillnbnofaaDoor
namespace Go.Proofs.YtjmfpillnbnofaaDoor
set_option linter.unusedSimpArgs false
set_option linter.unusedVariables false
open Go.ChangeShapes Go.WideShapes Go.RowKit Go.Deep Go.Joins
set_option maxRecDepth 100000
section
variable {H : Type} {enc : TypeId × Value → H} {P : Program} {w : World} {base : Nat} {spare : Nat → Bool} {held : Bool}
theorem trodAll_six {t0 t1 t2 t3 t4 t5 : TypeId} {args : Array Value} {ds : List (DataW H)} {ps : List MemPlace} (h : DataW.TrodAll enc P w base spare held [t0, t1, t2, t3, t4, t5] args.toList ds ps) :
    ∃ v0 v1 v2 v3 v4 v5 d0 d1 d2 d3 d4 d5 p0 p1 p2 p3 p4 p5, args = #[v0, v1, v2, v3, v4, v5] ∧ ds = [d0, d1, d2, d3, d4, d5] ∧ ps = p0 ++ p1 ++ p2 ++ p3 ++ p4 ++ p5 ∧ DataW.Trod enc P w base spare held t0 v0 d0 p0 ∧ DataW.Trod enc P w base spare held t1 v1 d1 p1 ∧ DataW.Trod enc P w base spare held t2 v2 d2 p2 ∧ DataW.Trod enc P w base spare held t3 v3 d3 p3 ∧ DataW.Trod enc P w base spare held t4 v4 d4 p4 ∧ DataW.Trod enc P w base spare held t5 v5 d5 p5 := by
  obtain ⟨v0, vs0, d0, ds0, p0, q0, hargs, rfl, rfl, h0, r0⟩ := trodAll_cons h
  obtain ⟨v1, vs1, d1, ds1, p1, q1, rfl, rfl, rfl, h1, r1⟩ := trodAll_cons r0
  obtain ⟨v2, vs2, d2, ds2, p2, q2, rfl, rfl, rfl, h2, r2⟩ := trodAll_cons r1
  obtain ⟨v3, vs3, d3, ds3, p3, q3, rfl, rfl, rfl, h3, r3⟩ := trodAll_cons r2
  obtain ⟨v4, vs4, d4, ds4, p4, q4, rfl, rfl, rfl, h4, r4⟩ := trodAll_cons r3
  obtain ⟨v5, vs5, d5, ds5, p5, q5, rfl, rfl, rfl, h5, r5⟩ := trodAll_cons r4
  obtain ⟨rfl, rfl, rfl⟩ := trodAll_nil r5
  exact ⟨v0, v1, v2, v3, v4, v5, d0, d1, d2, d3, d4, d5, p0, p1, p2, p3, p4, p5, by cases args; simp_all, rfl, by simp, h0, h1, h2, h3, h4, h5⟩
end
theorem open_str {H : Type} {enc : TypeId × Value → H} {W : World} {r : Reach} {b0 : Nat} {v : Value} {d : DataW H} {p : List MemPlace}
    (hv : Value.okWide Tryd.prog W r b0 9 v) (h : DataW.Trod enc Tryd.prog W 0 (fun _ => true) true 9 v d p) : ∃ n : List UInt8, v = S n ∧ n.length ≤ maxLen := by
  obtain ⟨s, rfl⟩ := okWide_string Tryd.underlying9 hv
  obtain ⟨fuel, hf⟩ := h
  obtain ⟨s', e, _, hs⟩ := DataW.trod_string Tryd.underlying9 hf
  simp only [Value.cells, List.cons.injEq, and_true] at e
  injection e with e
  subst e
  exact ⟨s.data.toList, S_of s, len_of hs⟩
theorem open_u16 {H : Type} {enc : TypeId × Value → H} {W : World} {r : Reach} {b0 : Nat} {v : Value} {d : DataW H} {p : List MemPlace}
    (hv : Value.okWide Tryd.prog W r b0 23 v) (h : DataW.Trod enc Tryd.prog W 0 (fun _ => true) true 23 v d p) : ∃ n : Int, v = .int .u16 n ∧ 0 ≤ n ∧ n ≤ 65535 := by
  obtain ⟨n, rfl⟩ := okWide_int Tryd.underlying23 hv
  obtain ⟨fuel, hf⟩ := h
  obtain ⟨x, e, _, wf⟩ := DataW.trod_int Tryd.underlying23 hf
  simp only [Value.cells, List.cons.injEq, and_true] at e
  injection e with _ e
  subst e
  exact ⟨n, rfl, wf_u16 wf⟩
theorem open_u32 {H : Type} {enc : TypeId × Value → H} {W : World} {r : Reach} {b0 : Nat} {v : Value} {d : DataW H} {p : List MemPlace}
    (hv : Value.okWide Tryd.prog W r b0 36 v) (h : DataW.Trod enc Tryd.prog W 0 (fun _ => true) true 36 v d p) : ∃ n : Int, v = .int .u32 n ∧ 0 ≤ n ∧ n ≤ 4294967295 := by
  obtain ⟨n, rfl⟩ := okWide_int Tryd.underlying36 hv
  obtain ⟨fuel, hf⟩ := h
  obtain ⟨x, e, _, wf⟩ := DataW.trod_int Tryd.underlying36 hf
  simp only [Value.cells, List.cons.injEq, and_true] at e
  injection e with _ e
  subst e
  exact ⟨n, rfl, wf_u32 wf⟩
theorem open_i64 {H : Type} {enc : TypeId × Value → H} {W : World} {r : Reach} {b0 : Nat} {v : Value} {d : DataW H} {p : List MemPlace}
    (hv : Value.okWide Tryd.prog W r b0 3 v) (h : DataW.Trod enc Tryd.prog W 0 (fun _ => true) true 3 v d p) : ∃ n : Int, v = .int .i64 n ∧ -9223372036854775808 ≤ n ∧ n ≤ 9223372036854775807 := by
  obtain ⟨n, rfl⟩ := okWide_int Tryd.underlying3 hv
  obtain ⟨fuel, hf⟩ := h
  obtain ⟨x, e, _, wf⟩ := DataW.trod_int Tryd.underlying3 hf
  simp only [Value.cells, List.cons.injEq, and_true] at e
  injection e with _ e
  subst e
  have h1 : IntKind.i64.min = -9223372036854775808 := rfl
  have h2 : IntKind.i64.max = 9223372036854775807 := rfl
  simp [Lit.wf] at wf
  exact ⟨n, rfl, by omega, by omega⟩
end Go.Proofs.YtjmfpillnbnofaaDoor
