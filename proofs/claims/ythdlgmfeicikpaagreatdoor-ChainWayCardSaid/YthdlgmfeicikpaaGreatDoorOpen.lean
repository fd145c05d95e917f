/- Arguments opened: a question, records, sets, texts. The laws on structs are the guide's own (extra-structs). No condition. -/
import Derived.Test.YthdlgmfeicikpaaGreatDoorGrp1
import Derived.ProofKit
import Derived.OpenShut
import Derived.Deep.Slices
import Derived.Deep.Fields
import Derived.ChangeSame
import Derived.Lib.SmallJoins
namespace Go.Proofs.YthdlgmfeicikpaaGreatDoor
set_option linter.unusedSimpArgs false
set_option linter.unusedVariables false
open Go.ChangeShapes Go.WideShapes Go.RowKit Go.Deep Go.Joins
set_option maxRecDepth 100000
section
variable {H : Type} {enc : TypeId × Value → H} {P : Program} {w : World} {base : Nat} {spare : Nat → Bool} {held : Bool}
theorem open_slice_fields {t e : TypeId} {fs : Array Field} {fuel : Nat} {cs : List Value} {x : DataW H × List MemPlace} (ht : P.underlying t = some (.slice e)) (he : P.underlying e = some (.struct fs))
    (hone : oneCellFields P fs = true) (hC : P.cellsOf e = fs.size) (h : DataW.trod enc P w base spare held fuel t cs = some x) :
    (cs = [.slice none 0 0] ∧ x = (.nil, [])) ∨
    ∃ (a : Addr) (len cap m : Nat) (D : Nat → DataW H) (Pl : Nat → List MemPlace), cs = [.slice (some a) len cap] ∧ base ≤ a.block ∧ len ≤ cap ∧ cap ≤ maxLen ∧ m = (if spare a.block then cap else len) ∧
      x = (.slice ((List.range len).map D) ((List.range (m - len)).map fun j => D (len + j)), MemPlace.row a (m * fs.size) ++ (List.range m).flatMap Pl) ∧
      ∀ i, i < m → ∃ (ys : List (DataW H × List MemPlace)) (n : Nat), D i = .agg (ys.map (·.1)) ∧ Pl i = ys.flatMap (·.2) ∧ ys.length = fs.size ∧
        ∀ (j : Nat) (f : Field), fs[j]? = some f → ∃ (v : Value) (y : DataW H × List MemPlace), w.cell? (a.add (i * fs.size + j)) = some v ∧ ys[j]? = some y ∧ DataW.trod enc P w base spare held n f.type [v] = some y := by
  rcases open_slice ht h with h0 | ⟨a, len, cap, m, n, D, Pl, hcs, hb, hl, hm, hmm, hx, hi⟩
  · exact .inl h0
  · refine .inr ⟨a, len, cap, m, D, Pl, hcs, hb, hl, hm, hmm, by rw [hC] at hx; exact hx, fun i him => ?_⟩
    obtain ⟨cs', hc, ht'⟩ := hi i him
    rw [hC] at hc
    obtain ⟨ys, n', hn', hy, hlen, hyl, hf⟩ := DataW.trod_struct he ht'
    obtain ⟨_, hcl, hat⟩ := World.cells?_some hc
    simp only [Prod.mk.injEq] at hy
    refine ⟨ys, n', hy.1, hy.2, hyl, fun j f hj => ?_⟩
    obtain ⟨ho, hk⟩ := hone_of hone j f hj
    have hjl : j < fs.size := (Array.getElem?_eq_some_iff.1 hj).1
    have hcell := hat j hjl
    have hv : cs'[j]? = some (cs'[j]'(by omega)) := List.getElem?_eq_getElem (by omega)
    have h1 := hf j f hj
    rw [ho, hk] at h1
    have hone' : (cs'.drop j).take 1 = [cs'[j]'(by omega)] := by
      rw [List.drop_eq_getElem_cons (by omega)]
      rfl
    rw [hone'] at h1
    have hys : ys[j]? = some (ys[j]'(by omega)) := List.getElem?_eq_getElem (by omega)
    refine ⟨_, _, ?_, hys, h1.trans hys⟩
    rw [← Go.Deep.add_add, hcell, hv]
theorem S_of (s : ByteArray) : Value.string s = S s.data.toList := by cases s; simp
theorem spot_of {a : Addr} {v : Value} (h : w.cell? a = some v) : a = ⟨a.block, a.off, none⟩ ∧ a.block < w.heap.size := by
  obtain ⟨b, o, s⟩ := a
  unfold World.cell? at h
  rcases hb : w.heap[b]? with _ | ob
  · simp [hb] at h
  · refine ⟨?_, (Array.getElem?_eq_some_iff.1 hb).1⟩
    rcases s with _ | s
    · rfl
    · simp only [hb] at h
      split at h <;> simp at h
theorem pick {α : Type} (z : α) (n : Nat) (Q : Nat → α → Prop) (h : ∀ i, i < n → ∃ x, Q i x) : ∃ l : List α, l.length = n ∧ ∀ i (hi : i < l.length), Q i l[i] := by
  classical
  refine ⟨(List.range n).map fun i => if hi : i < n then Classical.choose (h i hi) else z, by simp, fun i hi => ?_⟩
  have hi' : i < n := by simpa using hi
  simp only [List.getElem_map, List.getElem_range, dif_pos hi']
  exact Classical.choose_spec (h i hi')
theorem wf_u16 {n : Int} (h : (Lit.int .u16 n).wf = true) : 0 ≤ n ∧ n ≤ 65535 := by
  have h1 : IntKind.u16.min = 0 := rfl
  have h2 : IntKind.u16.max = 65535 := rfl
  simp [Lit.wf] at h; omega
theorem wf_u32 {n : Int} (h : (Lit.int .u32 n).wf = true) : 0 ≤ n ∧ n ≤ 4294967295 := by
  have h1 : IntKind.u32.min = 0 := rfl
  have h2 : IntKind.u32.max = 4294967295 := rfl
  simp [Lit.wf] at h; omega
theorem len_of {s : ByteArray} (h : s.size ≤ maxLen) : s.data.toList.length ≤ maxLen := by rw [Array.length_toList]; exact h
end

/-- A question. -/
theorem open_question {H : Type} {enc : TypeId × Value → H} {W : World} {r : Reach} {b0 : Nat} {v : Value} {d : DataW H} {p : List MemPlace}
    (hv : Value.okWide Tryz.prog W r b0 54 v) (h : DataW.Trod enc Tryz.prog W 0 (fun _ => true) true 54 v d p) :
    ∃ (n : List UInt8) (ty cl : Int), v = .agg #[S n, .int .u16 ty, .int .u16 cl] ∧ n.length ≤ maxLen ∧ (0 ≤ ty ∧ ty ≤ 65535) ∧ (0 ≤ cl ∧ cl ≤ 65535) := by
  obtain ⟨v0, v1, v2, y0, y1, y2, n, rfl, _, _, h0, h1, h2⟩ := open_agg3 Tryz.underlying54 (by kernel_rfl) (by kernel_rfl) hv h
  obtain ⟨s, e0, _, hs⟩ := DataW.trod_string Tryz.underlying9 h0
  obtain ⟨a, e1, _, w1⟩ := DataW.trod_int Tryz.underlying23 h1
  obtain ⟨b, e2, _, w2⟩ := DataW.trod_int Tryz.underlying23 h2
  injection e0 with e0 _
  injection e1 with e1 _
  injection e2 with e2 _
  subst e0 e1 e2
  exact ⟨s.data.toList, a, b, by rw [S_of], len_of hs, wf_u16 w1, wf_u16 w2⟩

def RecOk (r : RecD) : Prop := r.name.length ≤ maxLen ∧ r.data.length ≤ maxLen ∧ (0 ≤ r.typ ∧ r.typ ≤ 65535) ∧ (0 ≤ r.cls ∧ r.cls ≤ 65535) ∧ (0 ≤ r.ttl ∧ r.ttl ≤ 4294967295)
theorem flatR_len (l : List RecD) : (l.flatMap recCells).length = l.length * 5 := by
  induction l with
  | nil => rfl
  | cons a l ih => rw [List.flatMap_cons, List.length_append, ih, List.length_cons]; show 5 + _ = _; omega
theorem recs_of {w : World} {b off : Nat} {l : List RecD} (h : ∀ i (hi : i < l.length), w.cell? ⟨b, off + (i * 5 + 0), none⟩ = some (S l[i].name) ∧ w.cell? ⟨b, off + (i * 5 + 1), none⟩ = some (.int .u16 l[i].typ) ∧ w.cell? ⟨b, off + (i * 5 + 2), none⟩ = some (.int .u16 l[i].cls) ∧ w.cell? ⟨b, off + (i * 5 + 3), none⟩ = some (.int .u32 l[i].ttl) ∧ w.cell? ⟨b, off + (i * 5 + 4), none⟩ = some (S l[i].data)) :
    ∀ j u, (l.flatMap recCells)[j]? = some u → w.cell? ⟨b, off + j, none⟩ = some u := by
  intro j u hu
  have hlen := flatR_len l
  have hj : j < l.length * 5 := by rw [← hlen]; exact (List.getElem?_eq_some_iff.1 hu).1
  have hi : j / 5 < l.length := by omega
  obtain ⟨h0, h1, h2, h3, h4⟩ := h (j / 5) hi
  have hg := flat_get recCells 5 (fun _ => rfl) l (j / 5) (j % 5) l[j / 5] (List.getElem?_eq_getElem hi) (by omega)
  rw [show j / 5 * 5 + j % 5 = j by omega, hu] at hg
  have e : j = j / 5 * 5 + j % 5 := by omega
  generalize hr : j % 5 = k at *
  have hk : k < 5 := by omega
  rw [e]
  rcases k with _ | _ | _ | _ | _ | k
  · rw [h0, hg]; rfl
  · rw [h1, hg]; rfl
  · rw [h2, hg]; rfl
  · rw [h3, hg]; rfl
  · rw [h4, hg]; rfl
  · omega

theorem open_recs {H : Type} {enc : TypeId × Value → H} {W : World} {r : Reach} {b0 : Nat} {v : Value} {d : DataW H} {p : List MemPlace}
    (hv : Value.okWide Tryz.prog W r b0 34 v) (h : DataW.Trod enc Tryz.prog W 0 (fun _ => true) true 34 v d p) :
    ∃ l : List RecD, Recs W 0 v l ∧ ∀ x ∈ l, RecOk x := by
  obtain ⟨a0, n0, c0, rfl⟩ := okWide_slice Tryz.underlying34 hv
  obtain ⟨fuel, hf⟩ := h
  rcases open_slice_fields Tryz.underlying34 Tryz.underlying38 (by kernel_rfl) (by kernel_rfl) hf with ⟨e, _⟩ | ⟨a, len, cap, m, D, Pl, e, _, hl, hm, hmm, _, hi⟩
  · simp only [Value.cells, List.cons.injEq, and_true] at e
    rw [e]
    exact ⟨[], ⟨none, 0, rfl, by simp, by unfold maxLen; omega, Rd.nil _ _ _ _⟩, by simp⟩
  · simp only [Value.cells, List.cons.injEq, and_true] at e
    rw [e]
    have hmc : len ≤ m := by rw [hmm]; split <;> omega
    obtain ⟨l, hll, hq⟩ := pick (⟨[], 0, 0, 0, []⟩ : RecD) len (fun i r => (W.cell? (a.add (i * 5 + 0)) = some (S r.name) ∧ W.cell? (a.add (i * 5 + 1)) = some (.int .u16 r.typ) ∧ W.cell? (a.add (i * 5 + 2)) = some (.int .u16 r.cls) ∧ W.cell? (a.add (i * 5 + 3)) = some (.int .u32 r.ttl) ∧ W.cell? (a.add (i * 5 + 4)) = some (S r.data)) ∧ RecOk r) (fun i hi' => by
      obtain ⟨ys, n, _, _, _, hy⟩ := hi i (by omega)
      obtain ⟨v0, y0, c0, _, t0⟩ := hy 0 _ rfl
      obtain ⟨v1, y1, c1, _, t1⟩ := hy 1 _ rfl
      obtain ⟨v2, y2, c2, _, t2⟩ := hy 2 _ rfl
      obtain ⟨v3, y3, c3, _, t3⟩ := hy 3 _ rfl
      obtain ⟨v4, y4, c4, _, t4⟩ := hy 4 _ rfl
      obtain ⟨s, e0, _, hs⟩ := DataW.trod_string Tryz.underlying9 t0
      obtain ⟨x1, e1, _, w1⟩ := DataW.trod_int Tryz.underlying23 t1
      obtain ⟨x2, e2, _, w2⟩ := DataW.trod_int Tryz.underlying23 t2
      obtain ⟨x3, e3, _, w3⟩ := DataW.trod_int Tryz.underlying24 t3
      obtain ⟨u, e4, _, hu⟩ := DataW.trod_string Tryz.underlying9 t4
      injection e0 with e0 _
      injection e1 with e1 _
      injection e2 with e2 _
      injection e3 with e3 _
      injection e4 with e4 _
      subst e0 e1 e2 e3 e4
      rw [S_of] at c0 c4
      exact ⟨⟨s.data.toList, x1, x2, x3, u.data.toList⟩, ⟨c0, c1, c2, c3, c4⟩, len_of hs, len_of hu, wf_u16 w1, wf_u16 w2, wf_u32 w3⟩)
    subst hll
    refine ⟨l, ⟨some a, cap, rfl, hl, hm, ?_, fun h0 => ?_⟩, fun x hx => ?_⟩
    · exact flatR_len l
    · have hz := (hq 0 h0).1.1
      rw [show a.add (0 * 5 + 0) = a from rfl] at hz
      obtain ⟨ea, hb⟩ := spot_of hz
      refine ⟨a.block, a.off, by rw [← ea], Nat.zero_le _, hb, recs_of fun i hi' => ?_⟩
      have := (hq i hi').1
      rw [ea] at this
      simp only [add_none] at this
      exact this
    · obtain ⟨i, hi', rfl⟩ := List.getElem_of_mem hx
      exact (hq i hi').2
end Go.Proofs.YthdlgmfeicikpaaGreatDoor
