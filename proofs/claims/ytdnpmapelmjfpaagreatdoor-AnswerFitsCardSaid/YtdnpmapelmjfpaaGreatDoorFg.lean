/- Contracts of functions and plain lemmas that the proofs of this seat share (joined texts). No condition. -/
import Derived.Test.YtdnpmapelmjfpaaGreatDoorFf
import Derived.Deep.RegionHeld3
import Derived.Deep.DeepMust
import Derived.ProofKit
import Derived.OpenShut
import Derived.Deep.Slices
import Derived.Deep.Fields
import Derived.ChangeSame
import Derived.Lib.SmallJoins
import Derived.SizedLaws
import Derived.SliceStrings
import Derived.Carry
namespace Go.Proofs.YtdnpmapelmjfpaaGreatDoor
set_option linter.unusedSimpArgs false
set_option linter.unusedVariables false
open Go.ChangeShapes Go.WideShapes Go.RowKit Go.Deep Go.Joins
set_option maxRecDepth 100000
section
variable {H : Type} {enc : TypeId × Value → H} {P : Program} {w : World} {base : Nat} {spare : Nat → Bool} {held : Bool}
theorem open_slice_fields {t e : TypeId} {fs : Array Field} {fuel : Nat} {cs : List Value} {x : DataW H × List MemPlace} (ht : P.underlying t = some (.slice e)) (he : P.underlying e = some (.struct fs))
    (hone : oneCellFields P fs = true) (hC : P.cellsOf e = fs.size) (h : DataW.trod enc P w base spare held fuel t cs = some x) :
    (cs = [.slice none 0 0] ∧ x = (.nil, [])) ∨
    ∃ (a : Addr) (len cap m : Nat) (D : Nat → DataW H) (Pl : Nat → List MemPlace), cs = [.slice (some a) len cap] ∧ base ≤ a.block ∧ len ≤ cap ∧ cap ≤ maxLen ∧ m = (if spare a.block then cap else len) ∧
      x = (.slice ((List.range len).map D) ((List.range (m - len)).map fun j => D (len + j)), MemPlace.row a (m * fs.size) ++ (List.range m).flatMap Pl) ∧
      ∀ i, i < m → ∃ (ys : List (DataW H × List MemPlace)) (n : Nat), D i = .agg (ys.map (·.1)) ∧ Pl i = ys.flatMap (·.2) ∧ ys.length = fs.size ∧
        ∀ (j : Nat) (f : Field), fs[j]? = some f → ∃ (v : Value) (y : DataW H × List MemPlace), w.cell? (a.add (i * fs.size + j)) = some v ∧ ys[j]? = some y ∧ DataW.trod enc P w base spare held n f.type [v] = some y := by
  rcases open_slice ht h with h0 | ⟨a, len, cap, m, n, D, Pl, hcs, hb, hl, hm, hmm, hx, hi⟩
  · exact .inl h0
  · refine .inr ⟨a, len, cap, m, D, Pl, hcs, hb, hl, hm, hmm, by rw [hC] at hx; exact hx, fun i him => ?_⟩
    obtain ⟨cs', hc, ht'⟩ := hi i him
    rw [hC] at hc
    obtain ⟨ys, n', hn', hy, hlen, hyl, hf⟩ := DataW.trod_struct he ht'
    obtain ⟨_, hcl, hat⟩ := World.cells?_some hc
    simp only [Prod.mk.injEq] at hy
    refine ⟨ys, n', hy.1, hy.2, hyl, fun j f hj => ?_⟩
    obtain ⟨ho, hk⟩ := hone_of hone j f hj
    have hjl : j < fs.size := (Array.getElem?_eq_some_iff.1 hj).1
    have hcell := hat j hjl
    have hv : cs'[j]? = some (cs'[j]'(by omega)) := List.getElem?_eq_getElem (by omega)
    have h1 := hf j f hj
    rw [ho, hk] at h1
    have hone' : (cs'.drop j).take 1 = [cs'[j]'(by omega)] := by
      rw [List.drop_eq_getElem_cons (by omega)]
      rfl
    rw [hone'] at h1
    have hys : ys[j]? = some (ys[j]'(by omega)) := List.getElem?_eq_getElem (by omega)
    refine ⟨_, _, ?_, hys, h1.trans hys⟩
    rw [← Go.Deep.add_add, hcell, hv]
theorem S_of (s : ByteArray) : Value.string s = S s.data.toList := by cases s; simp
theorem spot_of {a : Addr} {v : Value} (h : w.cell? a = some v) : a = ⟨a.block, a.off, none⟩ ∧ a.block < w.heap.size := by
  obtain ⟨b, o, s⟩ := a
  unfold World.cell? at h
  rcases hb : w.heap[b]? with _ | ob
  · simp [hb] at h
  · refine ⟨?_, (Array.getElem?_eq_some_iff.1 hb).1⟩
    rcases s with _ | s
    · rfl
    · simp only [hb] at h
      split at h <;> simp at h
theorem pick {α : Type} (z : α) (n : Nat) (Q : Nat → α → Prop) (h : ∀ i, i < n → ∃ x, Q i x) : ∃ l : List α, l.length = n ∧ ∀ i (hi : i < l.length), Q i l[i] := by
  classical
  refine ⟨(List.range n).map fun i => if hi : i < n then Classical.choose (h i hi) else z, by simp, fun i hi => ?_⟩
  have hi' : i < n := by simpa using hi
  simp only [List.getElem_map, List.getElem_range, dif_pos hi']
  exact Classical.choose_spec (h i hi')
theorem wf_u16 {n : Int} (h : (Lit.int .u16 n).wf = true) : 0 ≤ n ∧ n ≤ 65535 := by
  have h1 : IntKind.u16.min = 0 := rfl
  have h2 : IntKind.u16.max = 65535 := rfl
  simp [Lit.wf] at h; omega
theorem wf_u32 {n : Int} (h : (Lit.int .u32 n).wf = true) : 0 ≤ n ∧ n ≤ 4294967295 := by
  have h1 : IntKind.u32.min = 0 := rfl
  have h2 : IntKind.u32.max = 4294967295 := rfl
  simp [Lit.wf] at h; omega
theorem len_of {s : ByteArray} (h : s.size ≤ maxLen) : s.data.toList.length ≤ maxLen := by rw [Array.length_toList]; exact h
end
end Go.Proofs.YtdnpmapelmjfpaaGreatDoor
namespace Go.Proofs.YtdnpmapelmjfpaaGreatDoor
set_option linter.unusedSimpArgs false
set_option linter.unusedVariables false
open Go.ChangeShapes Go.WideShapes Go.RowKit Go.Deep Go.Joins
set_option maxRecDepth 100000
section
variable {H : Type} {enc : TypeId × Value → H} {P : Program} {w : World} {base : Nat} {spare : Nat → Bool} {held : Bool}
theorem weights_all {e : TypeId} : ∀ {l : List (DataW H)} {d : DataW H}, d ∈ l → ∀ n ∈ d.weights P e, n ∈ DataW.weightsAll P e l
  | [], _, h, _, _ => by simp at h
  | a :: l, d, h, n, hn => by
    simp only [DataW.weightsAll, List.mem_append]
    rcases List.mem_cons.1 h with rfl | h
    · exact .inl hn
    · exact .inr (weights_all h n hn)
theorem weights_elem {t e : TypeId} (ht : P.underlying t = some (.slice e)) {elems sp : List (DataW H)} {d : DataW H} (hd : d ∈ elems) {n : Nat} (hn : n ∈ d.weights P e) : n ∈ (DataW.slice elems sp).weights P t := by
  simp only [DataW.weights, ht, List.mem_cons, List.mem_append]
  exact .inr (.inl (weights_all hd n hn))
theorem weights_field {e : TypeId} {fs : Array Field} (he : P.underlying e = some (.struct fs)) {parts : List (DataW H)} {j : Nat} {f : Field} {d : DataW H} (hf : fs[j]? = some f) (hd : parts[j]? = some d) {n : Nat} (hn : n ∈ d.weights P f.type) : n ∈ (DataW.agg parts).weights P e := by
  simp only [DataW.weights, he]
  exact DataW.weights_mem_each (j := j) (t := f.type) (by simp [hf]) hd n hn
theorem weights_str (t : TypeId) (s : ByteArray) : s.data.toList.length ∈ (DataW.lit (H := H) (.string s.data.toList)).weights P t := by simp [DataW.weights]
end

theorem open_strs {H : Type} {enc : TypeId × Value → H} {W : World} {fuel : Nat} {v : Value} {x : DataW H × List MemPlace}
    (h : DataW.trod enc Tryz.prog W 0 (fun _ => true) true fuel 77 [v] = some x) :
    ∃ l : List (List UInt8), Strs W 0 v l ∧ ∀ s ∈ l, s.length ∈ x.1.weights Tryz.prog 77 := by
  rcases open_strings Tryz.underlying77 Tryz.underlying9 (by kernel_rfl) h with ⟨e, _⟩ | ⟨a, len, cap, ss, e, _, hl, hm, hss, hx, hc, _⟩
  · simp only [List.cons.injEq, and_true] at e
    rw [e]
    exact ⟨[], ⟨none, 0, rfl, by simp, by unfold maxLen; omega, Rd.nil _ _ _ _⟩, by simp⟩
  · simp only [List.cons.injEq, and_true] at e
    rw [e]
    have hsl : len ≤ ss.length := by rw [hss]; split <;> omega
    have hll : ((ss.take len).map fun s => s.data.toList).length = len := by simp; omega
    refine ⟨(ss.take len).map fun s => s.data.toList, ⟨some a, cap, by rw [hll], by rw [hll]; exact hl, hm, by simp, fun h0 => ?_⟩, fun s hs => ?_⟩
    · rw [hll] at h0
      have hz := hc 0 (by omega)
      obtain ⟨ea, hb⟩ := spot_of (show W.cell? a = _ from hz)
      refine ⟨a.block, a.off, by rw [← ea], Nat.zero_le _, hb, fun j u hu => ?_⟩
      simp only [List.map_map, List.getElem?_map, Option.map_eq_some_iff] at hu
      obtain ⟨y, hy, rfl⟩ := hu
      rw [List.getElem?_take] at hy
      split at hy
      · have hj := hc j (List.getElem?_eq_some_iff.1 hy).1
        rw [ea, add_none] at hj
        rw [hj, List.getD_eq_getElem?_getD, hy]
        exact congrArg some (S_of y)
      · cases hy
    · obtain ⟨y, hy, rfl⟩ := List.mem_map.1 hs
      rw [hx]
      exact weights_elem Tryz.underlying77 (d := .lit (.string y.data.toList)) (List.mem_map.2 ⟨y, hy, rfl⟩) (weights_str _ y)

def SetIn (s : SetD) : Prop := (0 ≤ s.typ ∧ s.typ ≤ 65535) ∧ (0 ≤ s.cls ∧ s.cls ≤ 65535) ∧ (0 ≤ s.ttl ∧ s.ttl ≤ 4294967295)
theorem flatS_len (ps : List (SetD × Value)) : (ps.flatMap setCells).length = ps.length * 5 := by
  induction ps with
  | nil => rfl
  | cons a l ih => rw [List.flatMap_cons, List.length_append, ih, List.length_cons]; show 5 + _ = _; omega
theorem sets_of {w : World} {b off : Nat} {l : List (SetD × Value)} (h : ∀ i (hi : i < l.length), w.cell? ⟨b, off + (i * 5 + 0), none⟩ = some (S l[i].1.name) ∧ w.cell? ⟨b, off + (i * 5 + 1), none⟩ = some (.int .u16 l[i].1.typ) ∧ w.cell? ⟨b, off + (i * 5 + 2), none⟩ = some (.int .u16 l[i].1.cls) ∧ w.cell? ⟨b, off + (i * 5 + 3), none⟩ = some (.int .u32 l[i].1.ttl) ∧ w.cell? ⟨b, off + (i * 5 + 4), none⟩ = some l[i].2) :
    ∀ j u, (l.flatMap setCells)[j]? = some u → w.cell? ⟨b, off + j, none⟩ = some u := by
  intro j u hu
  have hlen := flatS_len l
  have hj : j < l.length * 5 := by rw [← hlen]; exact (List.getElem?_eq_some_iff.1 hu).1
  have hi : j / 5 < l.length := by omega
  obtain ⟨h0, h1, h2, h3, h4⟩ := h (j / 5) hi
  have hg := flat_get setCells 5 (fun _ => rfl) l (j / 5) (j % 5) l[j / 5] (List.getElem?_eq_getElem hi) (by omega)
  rw [show j / 5 * 5 + j % 5 = j by omega, hu] at hg
  have e : j = j / 5 * 5 + j % 5 := by omega
  generalize hr : j % 5 = k at *
  have hk : k < 5 := by omega
  rw [e]
  rcases k with _ | _ | _ | _ | _ | k
  · rw [h0, hg]; rfl
  · rw [h1, hg]; rfl
  · rw [h2, hg]; rfl
  · rw [h3, hg]; rfl
  · rw [h4, hg]; rfl
  · omega
end Go.Proofs.YtdnpmapelmjfpaaGreatDoor
namespace Go.Proofs.YtdnpmapelmjfpaaGreatDoor
set_option linter.unusedSimpArgs false
set_option linter.unusedVariables false
open Go.ChangeShapes Go.WideShapes Go.RowKit Go.Deep Go.Joins
set_option maxRecDepth 100000
section
variable {H : Type} {enc : TypeId × Value → H} {P : Program} {w : World} {base : Nat} {spare : Nat → Bool} {held : Bool}
end
theorem open_str {H : Type} {enc : TypeId × Value → H} {W : World} {r : Reach} {b0 : Nat} {v : Value} {d : DataW H} {p : List MemPlace}
    (hv : Value.okWide Tryz.prog W r b0 9 v) (h : DataW.Trod enc Tryz.prog W 0 (fun _ => true) true 9 v d p) : ∃ n : List UInt8, v = S n ∧ n.length ≤ maxLen := by
  obtain ⟨s, rfl⟩ := okWide_string Tryz.underlying9 hv
  obtain ⟨fuel, hf⟩ := h
  obtain ⟨s', e, _, hs⟩ := DataW.trod_string Tryz.underlying9 hf
  simp only [Value.cells, List.cons.injEq, and_true] at e
  injection e with e
  subst e
  exact ⟨s.data.toList, S_of s, len_of hs⟩
theorem open_u16 {H : Type} {enc : TypeId × Value → H} {W : World} {r : Reach} {b0 : Nat} {v : Value} {d : DataW H} {p : List MemPlace}
    (hv : Value.okWide Tryz.prog W r b0 26 v) (h : DataW.Trod enc Tryz.prog W 0 (fun _ => true) true 26 v d p) : ∃ n : Int, v = .int .u16 n ∧ 0 ≤ n ∧ n ≤ 65535 := by
  obtain ⟨n, rfl⟩ := okWide_int Tryz.underlying26 hv
  obtain ⟨fuel, hf⟩ := h
  obtain ⟨x, e, _, wf⟩ := DataW.trod_int Tryz.underlying26 hf
  simp only [Value.cells, List.cons.injEq, and_true] at e
  injection e with _ e
  subst e
  exact ⟨n, rfl, wf_u16 wf⟩
theorem open_u32 {H : Type} {enc : TypeId × Value → H} {W : World} {r : Reach} {b0 : Nat} {v : Value} {d : DataW H} {p : List MemPlace}
    (hv : Value.okWide Tryz.prog W r b0 25 v) (h : DataW.Trod enc Tryz.prog W 0 (fun _ => true) true 25 v d p) : ∃ n : Int, v = .int .u32 n ∧ 0 ≤ n ∧ n ≤ 4294967295 := by
  obtain ⟨n, rfl⟩ := okWide_int Tryz.underlying25 hv
  obtain ⟨fuel, hf⟩ := h
  obtain ⟨x, e, _, wf⟩ := DataW.trod_int Tryz.underlying25 hf
  simp only [Value.cells, List.cons.injEq, and_true] at e
  injection e with _ e
  subst e
  exact ⟨n, rfl, wf_u32 wf⟩
end Go.Proofs.YtdnpmapelmjfpaaGreatDoor
