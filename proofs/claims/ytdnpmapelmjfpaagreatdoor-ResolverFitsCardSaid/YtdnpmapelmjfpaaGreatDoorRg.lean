/- Contracts of functions and plain lemmas that the proofs of this seat share (joined texts). No condition. -/
import Derived.Test.YtdnpmapelmjfpaaGreatDoorRf
import Derived.Deep.RegionHeld3
import Derived.Deep.DeepMust
import Derived.ProofKit
import Derived.OpenShut
import Derived.Deep.Slices
import Derived.Deep.Fields
import Derived.ChangeSame
import Derived.Lib.SmallJoins
import Derived.SizedLaws
import Derived.SliceStrings
import Derived.Carry
namespace Go.Proofs.YtdnpmapelmjfpaaGreatDoor
set_option linter.unusedSimpArgs false
set_option linter.unusedVariables false
open Go.RowKit
set_option maxRecDepth 100000
def RecsBd (l : List RecD) : Prop := l.length ≤ 4096 ∧ ∀ r ∈ l, r.name.length ≤ 300000 ∧ r.data.length ≤ 300000
theorem putS_len (l : List (List UInt8)) (s : List UInt8) : (putS l s).length ≤ l.length + 1 := by
  unfold putS
  split
  · omega
  · rw [insB_len]; omega
theorem modify_mem {α : Type} {l : List α} {k : Nat} {f : α → α} {x : α} (h : x ∈ l.modify k f) : x ∈ l ∨ ∃ y ∈ l, x = f y := by
  induction l generalizing k with
  | nil => simp at h
  | cons a l ih =>
    rcases k with _ | k
    · simp only [List.modify_zero_cons, List.mem_cons] at h
      rcases h with rfl | h
      · exact .inr ⟨a, by simp, rfl⟩
      · exact .inl (by simp [h])
    · simp only [List.modify_succ_cons, List.mem_cons] at h
      rcases h with rfl | h
      · exact .inl (by simp)
      · rcases ih h with h | ⟨y, hy, rfl⟩
        · exact .inl (by simp [h])
        · exact .inr ⟨y, by simp [hy], rfl⟩
theorem addR_bd (sets : List SetD) (x : RecD) (k : Nat) (h : ∀ s ∈ sets, s.name.length ≤ 255 ∧ s.data.length ≤ k) : ∀ s ∈ addR sets x, s.name.length ≤ 255 ∧ s.data.length ≤ k + 1 := by
  intro s hs
  unfold addR at hs
  split at hs
  · split at hs
    · rcases List.mem_append.1 hs with h1 | h1
      · have := h s h1; omega
      · rw [List.mem_singleton] at h1; subst h1; exact ⟨fold_le _, by simp⟩
    · rcases modify_mem hs with h1 | ⟨y, hy, rfl⟩
      · have := h s h1; omega
      · have h2 := h y hy
        have h3 := putS_len y.data (rfold x.typ x.data)
        unfold updS
        dsimp only
        omega
  · have := h s hs; omega
theorem groupTo_bd (l : List RecD) : ∀ k, k ≤ l.length → ∀ s ∈ groupTo l k, s.name.length ≤ 255 ∧ s.data.length ≤ k
  | 0, _ => by simp [groupTo]
  | k + 1, h => by
    rw [groupTo_step l k (by omega)]
    exact addR_bd _ _ _ (groupTo_bd l k (by omega))
theorem addR_len (sets : List SetD) (x : RecD) : (addR sets x).length ≤ sets.length + 1 := by
  unfold addR
  repeat' split
  all_goals simp
theorem groupTo_len (l : List RecD) : ∀ k, k ≤ l.length → (groupTo l k).length ≤ k
  | 0, _ => by simp [groupTo]
  | k + 1, h => by
    rw [groupTo_step l k (by omega)]
    have := addR_len (groupTo l k) l[k]
    have := groupTo_len l k (by omega)
    omega

def GroupPost (l : List SetD) (w : World) (e : Ending) (w' : World) : Prop := ∃ v, e = .returned v ∧ OSets w' w.heap.size v l ∧ Ext w w'
theorem fold_len (n : List UInt8) : (fold n).length ≤ n.length := by
  unfold fold
  split
  · rw [length_low]; exact Nat.le_refl _
  · simp
theorem foldP_len (l : List Pc) : (l.flatMap fun p => if p.nm then fold p.text else p.text).length ≤ (textOf l).length := by
  induction l with
  | nil => simp [textOf]
  | cons a l ih =>
    unfold textOf at *
    rw [List.flatMap_cons, List.flatMap_cons, List.length_append, List.length_append]
    have : (if a.nm then fold a.text else a.text).length ≤ a.text.length := by
      split
      · exact fold_len _
      · exact Nat.le_refl _
    omega
theorem rfold_len (k : Int) (d : List UInt8) : (rfold k d).length ≤ d.length := by
  unfold rfold partsOf wholeOf
  split
  · rename_i h
    have := foldP_len (splitOf d 0 k).1
    rw [h.2] at this
    exact this
  · simp
theorem insB_mem {l : List (List UInt8)} {s x : List UInt8} (h : x ∈ insB l s) : x ∈ l ∨ x = s := by
  induction l with
  | nil => simp [insB] at h; exact .inr h
  | cons a l ih =>
    simp only [insB] at h
    split at h
    · simp only [List.mem_cons] at h ⊢
      rcases h with h | h | h
      · exact .inr h
      · exact .inl (.inl h)
      · exact .inl (.inr h)
    · simp only [List.mem_cons] at h ⊢
      rcases h with h | h
      · exact .inl (.inl h)
      · rcases ih h with h | h
        · exact .inl (.inr h)
        · exact .inr h
theorem putS_mem {l : List (List UInt8)} {s x : List UInt8} (h : x ∈ putS l s) : x ∈ l ∨ x = s := by
  unfold putS at h
  split at h
  · exact .inl h
  · exact insB_mem h
theorem groupTo_data (l : List RecD) (B : Nat) (hB : ∀ r ∈ l, r.data.length ≤ B) : ∀ k, k ≤ l.length → ∀ s ∈ groupTo l k, ∀ d ∈ s.data, d.length ≤ B
  | 0, _ => by simp [groupTo]
  | k + 1, h => by
    rw [groupTo_step l k (by omega)]
    have ih := groupTo_data l B hB k (by omega)
    have hx := hB l[k] (List.getElem_mem (by omega))
    have hr := rfold_len l[k].typ l[k].data
    intro s hs d hd
    unfold addR at hs
    split at hs
    · split at hs
      · rcases List.mem_append.1 hs with h1 | h1
        · exact ih s h1 d hd
        · rw [List.mem_singleton] at h1; subst h1; simp at hd; subst hd; omega
      · rcases modify_mem hs with h1 | ⟨y, hy, rfl⟩
        · exact ih s h1 d hd
        · rcases putS_mem hd with h2 | h2
          · exact ih y hy d h2
          · subst h2; omega
    · exact ih s hs d hd
theorem selF_mem : ∀ (n : Nat) (l : List SetD) (s : SetD), s ∈ selF n l → s ∈ l
  | 0, _, _, h => by simp [selF] at h
  | n + 1, l, s, h => by
    unfold selF at h
    split at h
    · simp at h
    · rename_i h0
      have hm := minTo_lt l l.length (by omega)
      rcases List.mem_cons.1 h with h | h
      · subst h
        rw [List.getD_eq_getElem?_getD, List.getElem?_eq_getElem hm]
        exact List.getElem_mem hm
      · rcases List.mem_append.1 (selF_mem n _ s h) with h | h
        · exact List.mem_of_mem_take h
        · exact List.mem_of_mem_drop h
theorem groupR_bd {l : List RecD} (h : RecsBd l) : SetsBd (groupR l) := by
  intro s hs
  have hm := selF_mem _ _ _ hs
  have h1 := groupTo_bd l l.length (Nat.le_refl _) s hm
  have h2 := groupTo_data l 300000 (fun r hr => (h.2 r hr).2) l.length (Nat.le_refl _) s hm
  have := h.1
  exact ⟨by omega, by omega, fun d hd => by have := h2 d hd; omega⟩
end Go.Proofs.YtdnpmapelmjfpaaGreatDoor
namespace Go.Proofs.YtdnpmapelmjfpaaGreatDoor
set_option linter.unusedSimpArgs false
set_option linter.unusedVariables false
open Go.ChangeShapes Go.WideShapes Go.RowKit Go.Deep Go.Joins
set_option maxRecDepth 100000
section
variable {H : Type} {enc : TypeId × Value → H} {P : Program} {w : World} {base : Nat} {spare : Nat → Bool} {held : Bool}
theorem open_slice_fields {t e : TypeId} {fs : Array Field} {fuel : Nat} {cs : List Value} {x : DataW H × List MemPlace} (ht : P.underlying t = some (.slice e)) (he : P.underlying e = some (.struct fs))
    (hone : oneCellFields P fs = true) (hC : P.cellsOf e = fs.size) (h : DataW.trod enc P w base spare held fuel t cs = some x) :
    (cs = [.slice none 0 0] ∧ x = (.nil, [])) ∨
    ∃ (a : Addr) (len cap m : Nat) (D : Nat → DataW H) (Pl : Nat → List MemPlace), cs = [.slice (some a) len cap] ∧ base ≤ a.block ∧ len ≤ cap ∧ cap ≤ maxLen ∧ m = (if spare a.block then cap else len) ∧
      x = (.slice ((List.range len).map D) ((List.range (m - len)).map fun j => D (len + j)), MemPlace.row a (m * fs.size) ++ (List.range m).flatMap Pl) ∧
      ∀ i, i < m → ∃ (ys : List (DataW H × List MemPlace)) (n : Nat), D i = .agg (ys.map (·.1)) ∧ Pl i = ys.flatMap (·.2) ∧ ys.length = fs.size ∧
        ∀ (j : Nat) (f : Field), fs[j]? = some f → ∃ (v : Value) (y : DataW H × List MemPlace), w.cell? (a.add (i * fs.size + j)) = some v ∧ ys[j]? = some y ∧ DataW.trod enc P w base spare held n f.type [v] = some y := by
  rcases open_slice ht h with h0 | ⟨a, len, cap, m, n, D, Pl, hcs, hb, hl, hm, hmm, hx, hi⟩
  · exact .inl h0
  · refine .inr ⟨a, len, cap, m, D, Pl, hcs, hb, hl, hm, hmm, by rw [hC] at hx; exact hx, fun i him => ?_⟩
    obtain ⟨cs', hc, ht'⟩ := hi i him
    rw [hC] at hc
    obtain ⟨ys, n', hn', hy, hlen, hyl, hf⟩ := DataW.trod_struct he ht'
    obtain ⟨_, hcl, hat⟩ := World.cells?_some hc
    simp only [Prod.mk.injEq] at hy
    refine ⟨ys, n', hy.1, hy.2, hyl, fun j f hj => ?_⟩
    obtain ⟨ho, hk⟩ := hone_of hone j f hj
    have hjl : j < fs.size := (Array.getElem?_eq_some_iff.1 hj).1
    have hcell := hat j hjl
    have hv : cs'[j]? = some (cs'[j]'(by omega)) := List.getElem?_eq_getElem (by omega)
    have h1 := hf j f hj
    rw [ho, hk] at h1
    have hone' : (cs'.drop j).take 1 = [cs'[j]'(by omega)] := by
      rw [List.drop_eq_getElem_cons (by omega)]
      rfl
    rw [hone'] at h1
    have hys : ys[j]? = some (ys[j]'(by omega)) := List.getElem?_eq_getElem (by omega)
    refine ⟨_, _, ?_, hys, h1.trans hys⟩
    rw [← Go.Deep.add_add, hcell, hv]
theorem S_of (s : ByteArray) : Value.string s = S s.data.toList := by cases s; simp
theorem spot_of {a : Addr} {v : Value} (h : w.cell? a = some v) : a = ⟨a.block, a.off, none⟩ ∧ a.block < w.heap.size := by
  obtain ⟨b, o, s⟩ := a
  unfold World.cell? at h
  rcases hb : w.heap[b]? with _ | ob
  · simp [hb] at h
  · refine ⟨?_, (Array.getElem?_eq_some_iff.1 hb).1⟩
    rcases s with _ | s
    · rfl
    · simp only [hb] at h
      split at h <;> simp at h
theorem pick {α : Type} (z : α) (n : Nat) (Q : Nat → α → Prop) (h : ∀ i, i < n → ∃ x, Q i x) : ∃ l : List α, l.length = n ∧ ∀ i (hi : i < l.length), Q i l[i] := by
  classical
  refine ⟨(List.range n).map fun i => if hi : i < n then Classical.choose (h i hi) else z, by simp, fun i hi => ?_⟩
  have hi' : i < n := by simpa using hi
  simp only [List.getElem_map, List.getElem_range, dif_pos hi']
  exact Classical.choose_spec (h i hi')
theorem wf_u16 {n : Int} (h : (Lit.int .u16 n).wf = true) : 0 ≤ n ∧ n ≤ 65535 := by
  have h1 : IntKind.u16.min = 0 := rfl
  have h2 : IntKind.u16.max = 65535 := rfl
  simp [Lit.wf] at h; omega
theorem wf_u32 {n : Int} (h : (Lit.int .u32 n).wf = true) : 0 ≤ n ∧ n ≤ 4294967295 := by
  have h1 : IntKind.u32.min = 0 := rfl
  have h2 : IntKind.u32.max = 4294967295 := rfl
  simp [Lit.wf] at h; omega
theorem len_of {s : ByteArray} (h : s.size ≤ maxLen) : s.data.toList.length ≤ maxLen := by rw [Array.length_toList]; exact h
end

def RecOk (r : RecD) : Prop := r.name.length ≤ maxLen ∧ r.data.length ≤ maxLen ∧ (0 ≤ r.typ ∧ r.typ ≤ 65535) ∧ (0 ≤ r.cls ∧ r.cls ≤ 65535) ∧ (0 ≤ r.ttl ∧ r.ttl ≤ 4294967295)
theorem flatR_len (l : List RecD) : (l.flatMap recCells).length = l.length * 5 := by
  induction l with
  | nil => rfl
  | cons a l ih => rw [List.flatMap_cons, List.length_append, ih, List.length_cons]; show 5 + _ = _; omega
theorem recs_of {w : World} {b off : Nat} {l : List RecD} (h : ∀ i (hi : i < l.length), w.cell? ⟨b, off + (i * 5 + 0), none⟩ = some (S l[i].name) ∧ w.cell? ⟨b, off + (i * 5 + 1), none⟩ = some (.int .u16 l[i].typ) ∧ w.cell? ⟨b, off + (i * 5 + 2), none⟩ = some (.int .u16 l[i].cls) ∧ w.cell? ⟨b, off + (i * 5 + 3), none⟩ = some (.int .u32 l[i].ttl) ∧ w.cell? ⟨b, off + (i * 5 + 4), none⟩ = some (S l[i].data)) :
    ∀ j u, (l.flatMap recCells)[j]? = some u → w.cell? ⟨b, off + j, none⟩ = some u := by
  intro j u hu
  have hlen := flatR_len l
  have hj : j < l.length * 5 := by rw [← hlen]; exact (List.getElem?_eq_some_iff.1 hu).1
  have hi : j / 5 < l.length := by omega
  obtain ⟨h0, h1, h2, h3, h4⟩ := h (j / 5) hi
  have hg := flat_get recCells 5 (fun _ => rfl) l (j / 5) (j % 5) l[j / 5] (List.getElem?_eq_getElem hi) (by omega)
  rw [show j / 5 * 5 + j % 5 = j by omega, hu] at hg
  have e : j = j / 5 * 5 + j % 5 := by omega
  generalize hr : j % 5 = k at *
  have hk : k < 5 := by omega
  rw [e]
  rcases k with _ | _ | _ | _ | _ | k
  · rw [h0, hg]; rfl
  · rw [h1, hg]; rfl
  · rw [h2, hg]; rfl
  · rw [h3, hg]; rfl
  · rw [h4, hg]; rfl
  · omega
end Go.Proofs.YtdnpmapelmjfpaaGreatDoor
namespace Go.Proofs.YtdnpmapelmjfpaaGreatDoor
set_option linter.unusedSimpArgs false
set_option linter.unusedVariables false
open Go.ChangeShapes Go.WideShapes Go.RowKit Go.Deep Go.Joins
set_option maxRecDepth 100000
section
variable {H : Type} {enc : TypeId × Value → H} {P : Program} {w : World} {base : Nat} {spare : Nat → Bool} {held : Bool}
theorem weights_all {e : TypeId} : ∀ {l : List (DataW H)} {d : DataW H}, d ∈ l → ∀ n ∈ d.weights P e, n ∈ DataW.weightsAll P e l
  | [], _, h, _, _ => by simp at h
  | a :: l, d, h, n, hn => by
    simp only [DataW.weightsAll, List.mem_append]
    rcases List.mem_cons.1 h with rfl | h
    · exact .inl hn
    · exact .inr (weights_all h n hn)
theorem weights_elem {t e : TypeId} (ht : P.underlying t = some (.slice e)) {elems sp : List (DataW H)} {d : DataW H} (hd : d ∈ elems) {n : Nat} (hn : n ∈ d.weights P e) : n ∈ (DataW.slice elems sp).weights P t := by
  simp only [DataW.weights, ht, List.mem_cons, List.mem_append]
  exact .inr (.inl (weights_all hd n hn))
theorem weights_field {e : TypeId} {fs : Array Field} (he : P.underlying e = some (.struct fs)) {parts : List (DataW H)} {j : Nat} {f : Field} {d : DataW H} (hf : fs[j]? = some f) (hd : parts[j]? = some d) {n : Nat} (hn : n ∈ d.weights P f.type) : n ∈ (DataW.agg parts).weights P e := by
  simp only [DataW.weights, he]
  exact DataW.weights_mem_each (j := j) (t := f.type) (by simp [hf]) hd n hn
theorem weights_str (t : TypeId) (s : ByteArray) : s.data.toList.length ∈ (DataW.lit (H := H) (.string s.data.toList)).weights P t := by simp [DataW.weights]
end

theorem open_recsW {H : Type} {enc : TypeId × Value → H} {W : World} {r : Reach} {b0 : Nat} {v : Value} {d : DataW H} {p : List MemPlace}
    (hv : Value.okWide Tryz.prog W r b0 40 v) (h : DataW.Trod enc Tryz.prog W 0 (fun _ => true) true 40 v d p) :
    ∃ l : List RecD, Recs W 0 v l ∧ ∀ x ∈ l, RecOk x ∧ x.name.length ∈ d.weights Tryz.prog 40 ∧ x.data.length ∈ d.weights Tryz.prog 40 := by
  obtain ⟨a0, n0, c0, rfl⟩ := okWide_slice Tryz.underlying40 hv
  obtain ⟨fuel, hf⟩ := h
  rcases open_slice_fields Tryz.underlying40 Tryz.underlying99 (by kernel_rfl) (by kernel_rfl) hf with ⟨e, _⟩ | ⟨a, len, cap, m, D, Pl, e, _, hl, hm, hmm, hdp, hi⟩
  · simp only [Value.cells, List.cons.injEq, and_true] at e
    rw [e]
    exact ⟨[], ⟨none, 0, rfl, by simp, by unfold maxLen; omega, Rd.nil _ _ _ _⟩, by simp⟩
  · simp only [Value.cells, List.cons.injEq, and_true] at e
    rw [e]
    have hmc : len ≤ m := by rw [hmm]; split <;> omega
    have hdd := (Prod.mk.inj hdp).1
    obtain ⟨l, hll, hq⟩ := pick (⟨[], 0, 0, 0, []⟩ : RecD) len (fun i r => (W.cell? (a.add (i * 5 + 0)) = some (S r.name) ∧ W.cell? (a.add (i * 5 + 1)) = some (.int .u16 r.typ) ∧ W.cell? (a.add (i * 5 + 2)) = some (.int .u16 r.cls) ∧ W.cell? (a.add (i * 5 + 3)) = some (.int .u32 r.ttl) ∧ W.cell? (a.add (i * 5 + 4)) = some (S r.data)) ∧ RecOk r ∧ r.name.length ∈ d.weights Tryz.prog 40 ∧ r.data.length ∈ d.weights Tryz.prog 40) (fun i hi' => by
      obtain ⟨ys, n, hD, _, _, hy⟩ := hi i (by omega)
      obtain ⟨v0, y0, c0, g0, t0⟩ := hy 0 _ rfl
      obtain ⟨v1, y1, c1, _, t1⟩ := hy 1 _ rfl
      obtain ⟨v2, y2, c2, _, t2⟩ := hy 2 _ rfl
      obtain ⟨v3, y3, c3, _, t3⟩ := hy 3 _ rfl
      obtain ⟨v4, y4, c4, g4, t4⟩ := hy 4 _ rfl
      obtain ⟨s, e0, z0, hs⟩ := DataW.trod_string Tryz.underlying9 t0
      obtain ⟨x1, e1, _, w1⟩ := DataW.trod_int Tryz.underlying26 t1
      obtain ⟨x2, e2, _, w2⟩ := DataW.trod_int Tryz.underlying26 t2
      obtain ⟨x3, e3, _, w3⟩ := DataW.trod_int Tryz.underlying25 t3
      obtain ⟨u, e4, z4, hu⟩ := DataW.trod_string Tryz.underlying9 t4
      injection e0 with e0 _
      injection e1 with e1 _
      injection e2 with e2 _
      injection e3 with e3 _
      injection e4 with e4 _
      subst e0 e1 e2 e3 e4
      rw [S_of] at c0 c4
      have hmem : D i ∈ (List.range len).map D := List.mem_map.2 ⟨i, List.mem_range.2 hi', rfl⟩
      refine ⟨⟨s.data.toList, x1, x2, x3, u.data.toList⟩, ⟨c0, c1, c2, c3, c4⟩, ⟨len_of hs, len_of hu, wf_u16 w1, wf_u16 w2, wf_u32 w3⟩, ?_, ?_⟩
      · rw [hdd]
        refine weights_elem Tryz.underlying40 hmem ?_
        rw [hD]
        refine weights_field (j := 0) (d := y0.1) Tryz.underlying99 rfl (by simp [g0]) ?_
        rw [z0]; exact weights_str _ s
      · rw [hdd]
        refine weights_elem Tryz.underlying40 hmem ?_
        rw [hD]
        refine weights_field (j := 4) (d := y4.1) Tryz.underlying99 rfl (by simp [g4]) ?_
        rw [z4]; exact weights_str _ u)
    subst hll
    refine ⟨l, ⟨some a, cap, rfl, hl, hm, ?_, fun h0 => ?_⟩, fun x hx => ?_⟩
    · exact flatR_len l
    · have hz := (hq 0 h0).1.1
      rw [show a.add (0 * 5 + 0) = a from rfl] at hz
      obtain ⟨ea, hb⟩ := spot_of hz
      refine ⟨a.block, a.off, by rw [← ea], Nat.zero_le _, hb, recs_of fun i hi' => ?_⟩
      have := (hq i hi').1
      rw [ea] at this
      simp only [add_none] at this
      exact this
    · obtain ⟨i, hi', rfl⟩ := List.getElem_of_mem hx
      exact (hq i hi').2

theorem reach_of {H : Type} {P : Program} {ts : List TypeId} {ds : List (DataW H)} (h : (DataW.weightsEach P ts ds).all (· ≤ reachBytes) = true) {j : Nat} {t : TypeId} {d : DataW H} (ht : ts[j]? = some t) (hd : ds[j]? = some d) {n : Nat} (hn : n ∈ d.weights P t) : n ≤ 140737488351232 := by
  have := List.all_eq_true.1 h _ (DataW.weights_mem_each ht hd n hn)
  exact of_decide_eq_true this
end Go.Proofs.YtdnpmapelmjfpaaGreatDoor
namespace Go.Proofs.YtdnpmapelmjfpaaGreatDoor
set_option linter.unusedSimpArgs false
set_option linter.unusedVariables false
open Go.ChangeShapes Go.WideShapes Go.RowKit Go.Deep Go.Joins
set_option maxRecDepth 100000
section
variable {H : Type} {enc : TypeId × Value → H} {P : Program} {w : World} {base : Nat} {spare : Nat → Bool} {held : Bool}
end
end Go.Proofs.YtdnpmapelmjfpaaGreatDoor
