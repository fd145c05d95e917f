/- A map of keys (rrset.key) to the places of sets, made by the call: look-up and store. The key type's law is the library's (deep_law_laid). No condition. -/
import Derived.Test.YthdlgmfeicikpaaGreatDoorGrp1
import Derived.Maps.Keyed
import Derived.DeepKeys4
import Derived.Maps.Own
namespace Go.Proofs.YthdlgmfeicikpaaGreatDoor
set_option linter.unusedSimpArgs false
set_option linter.unusedVariables false
open Go.RowKit
set_option maxRecDepth 100000

theorem laidOutZ : laidOutB Tryz.prog = true := by kernel_rfl
theorem keyLaw : WideMaps.KeyLaw Tryz.prog 66 :=
  deep_law_laid laidOutZ (m := 3) (by omega) (of_decide_eq_true (by kernel_rfl)) (by kernel_rfl) (by kernel_rfl)
abbrev keyV (n : List UInt8) (t c : Int) : Value := .agg #[S n, .int .u16 t, .int .u16 c]
theorem wf16 {n : Int} (h0 : 0 ≤ n) (h1 : n ≤ 65535) : (Lit.int .u16 n).wf = true := by
  have e1 : IntKind.u16.min = 0 := rfl
  have e2 : IntKind.u16.max = 65535 := rfl
  simp [Lit.wf]; omega
theorem keyOf_key (n : List UInt8) (t c : Int) (hn : n.length ≤ maxLen) (ht : 0 ≤ t ∧ t ≤ 65535) (hc : 0 ≤ c ∧ c ≤ 65535) : ∃ kl, keyOf Tryz.prog 66 (keyV n t c) = some kl := by
  have hk : Tryz.prog.keyType 66 = true := by kernel_rfl
  have hz : Tryz.prog.types.size = (Tryz.prog.types.size - 1) + 1 := by
    have : Tryz.prog.types.size ≠ 0 := by
      have : decide (Tryz.prog.types.size ≠ 0) = true := by kernel_rfl
      exact of_decide_eq_true this
    omega
  have c9 : Tryz.prog.cellsOf 9 = 1 := by kernel_rfl
  have c23 : Tryz.prog.cellsOf 23 = 1 := by kernel_rfl
  have c66 : Tryz.prog.cellsOf 66 = 3 := by kernel_rfl
  have hl : Tryz.prog.keyLits (Tryz.prog.types.size + 1) 66 [S n, .int .u16 t, .int .u16 c] = some [.string n, .int .u16 t, .int .u16 c] := by
    rw [hz]
    generalize Tryz.prog.types.size - 1 = m
    have h9 : Tryz.prog.keyLits (m + 1) 9 [S n] = some [.string n] := by
      unfold Program.keyLits
      simp only [Tryz.underlying9]
      rw [if_pos (by rw [size_mk]; exact hn)]
    have h23 : ∀ x, 0 ≤ x → x ≤ 65535 → Tryz.prog.keyLits (m + 1) 23 [.int .u16 x] = some [.int .u16 x] := fun x h0 h1 => by
      unfold Program.keyLits
      simp only [Tryz.underlying23]
      rw [if_pos ⟨trivial, wf16 h0 h1⟩]
    unfold Program.keyLits
    simp [Tryz.underlying66, c66, c9, c23, h9, h23 t ht.1 ht.2, h23 c hc.1 hc.2]
  unfold keyOf
  simp only [Tryz.underlying66, hk, Bool.true_and]
  rw [if_pos (by simp [Value.formed, Tryz.underlying66, c66])]
  exact ⟨_, by
    show Option.map _ (Tryz.prog.keyLits (Tryz.prog.types.size + 1) 66 [S n, .int .u16 t, .int .u16 c]) = _
    rw [hl]; rfl⟩

def keyS (s : SetD) : Value := keyV s.name s.typ s.cls
def SetKey (s : SetD) : Prop := s.name.length ≤ maxLen ∧ (0 ≤ s.typ ∧ s.typ ≤ 65535) ∧ (0 ≤ s.cls ∧ s.cls ≤ 65535)
/-- The map in block b holds the place of each set under its key. -/
def KMap (w : World) (b : Nat) (sets : List SetD) : Prop :=
  ∃ es clock, w.heap[b]? = some (.map es clock) ∧ es.toList.map (fun e => (e.key, e.val)) = sets.zipIdx.map (fun p => (keyS p.1, Value.int .i64 (p.2 : Int))) ∧ ∀ s ∈ sets, SetKey s
theorem KMap.made (w : World) : KMap (w.alloc (.map #[] 0)) w.heap.size [] := ⟨#[], 0, heap_alloc_new w _, rfl, by simp⟩
theorem KMap.lt {w : World} {b : Nat} {sets : List SetD} (h : KMap w b sets) : b < w.heap.size := by
  obtain ⟨es, clock, hb, _⟩ := h
  exact (Array.getElem?_eq_some_iff.1 hb).1
theorem KMap.ext {w w' : World} {b : Nat} {sets : List SetD} (h : KMap w b sets) (hE : Ext w w') : KMap w' b sets := by
  have hlt := h.lt
  obtain ⟨es, clock, hb, h1⟩ := h
  exact ⟨es, clock, (hE.block b hlt).trans hb, h1⟩
theorem KMap.kept {w w' : World} {b : Nat} {sets : List SetD} {row : Option Nat} (h : KMap w b sets) (hg : w.grownBy w' row) (hne : some b ≠ row) : KMap w' b sets := by
  have hlt := h.lt
  obtain ⟨es, clock, hb, h1⟩ := h
  exact ⟨es, clock, (hg.block b hlt hne).trans hb, h1⟩
theorem KMap.set {w : World} {b : Nat} {sets : List SetD} (h : KMap w b sets) {p : Addr} (hp : b ≠ p.block) (u : Value) : KMap (w.setCell p u) b sets := by
  obtain ⟨es, clock, hb, h1⟩ := h
  exact ⟨es, clock, (Below.heap_setCell w p u b hp).trans hb, h1⟩
theorem KMap.congr {w : World} {b : Nat} {s s' : List SetD} (h : KMap w b s) (he : s'.map (fun x => (x.name, x.typ, x.cls)) = s.map (fun x => (x.name, x.typ, x.cls))) : KMap w b s' := by
  obtain ⟨es, clock, hb, h1, h2⟩ := h
  have hlen : s'.length = s.length := by simpa using congrArg List.length he
  have hget : ∀ i (h : i < s'.length) (h' : i < s.length), (s'[i].name, s'[i].typ, s'[i].cls) = (s[i].name, s[i].typ, s[i].cls) := fun i h h' => by
    have := congrArg (fun l => l[i]?) he
    simpa [h, h'] using this
  refine ⟨es, clock, hb, ?_, fun x hx => ?_⟩
  · rw [h1]
    apply List.ext_getElem (by simp [hlen])
    intro i h3 h4
    simp only [List.length_map, List.length_zipIdx] at h3 h4
    have := hget i h4 h3
    simp only [Prod.mk.injEq] at this
    simp [keyS, this.1, this.2.1, this.2.2]
  · obtain ⟨i, hi, rfl⟩ := List.getElem_of_mem hx
    have := hget i hi (by omega)
    simp only [Prod.mk.injEq] at this
    have h5 := h2 s[i] (List.getElem_mem (by omega))
    unfold SetKey at *
    rw [this.1, this.2.1, this.2.2]; exact h5

theorem keyV_inj {n n' : List UInt8} {t t' c c' : Int} (h : keyV n t c = keyV n' t' c') : n = n' ∧ t = t' ∧ c = c' := by
  simp only [keyV, Value.agg.injEq, Array.mk.injEq, List.cons.injEq, Value.string.injEq, Value.int.injEq, true_and, and_true, ByteArray.mk.injEq] at h
  exact ⟨h.1, h.2.1, h.2.2⟩
theorem KMap.keys {es : Array MapEntry} {sets : List SetD} (h : es.toList.map (fun e => (e.key, e.val)) = sets.zipIdx.map (fun p => (keyS p.1, Value.int .i64 (p.2 : Int)))) (hk : ∀ s ∈ sets, SetKey s) :
    (∀ e ∈ es.toList, ∃ l, keyOf Tryz.prog 66 e.key = some l) ∧ (∀ (j : Nat) (e : MapEntry), es.toList[j]? = some e → ∃ s, sets[j]? = some s ∧ e.key = keyS s ∧ e.val = .int .i64 j) ∧ es.toList.length = sets.length := by
  have hlen : es.toList.length = sets.length := by simpa using congrArg List.length h
  have h2 : ∀ (j : Nat) (e : MapEntry), es.toList[j]? = some e → ∃ s, sets[j]? = some s ∧ e.key = keyS s ∧ e.val = .int .i64 j := by
    intro j e he
    have hj : j < sets.length := by rw [← hlen]; exact (List.getElem?_eq_some_iff.1 he).1
    have := congrArg (fun l => l[j]?) h
    simp only [List.getElem?_map, he, Option.map_some, List.getElem?_zipIdx, Nat.zero_add] at this
    rw [List.getElem?_eq_getElem hj] at this
    simp only [Option.map_some, Option.some.injEq, Prod.mk.injEq] at this
    exact ⟨sets[j], List.getElem?_eq_getElem hj, this.1, by rw [this.2]⟩
  refine ⟨fun e he => ?_, h2, hlen⟩
  obtain ⟨j, hj, rfl⟩ := List.getElem_of_mem he
  obtain ⟨s, hs, hk1, _⟩ := h2 j _ (List.getElem?_eq_getElem hj)
  have := hk s (List.mem_of_getElem? hs)
  rw [hk1]
  exact keyOf_key _ _ _ this.1 this.2.1 this.2.2

theorem KMap.look {w : World} {b : Nat} {sets : List SetD} (h : KMap w b sets) (n : List UInt8) (t c : Int) (hn : n.length ≤ maxLen) (ht : 0 ≤ t ∧ t ≤ 65535) (hc : 0 ≤ c ∧ c ≤ 65535) :
    ((Instr.lookup 62 (.map (some b)) (keyV n t c) true).run Tryz.prog w = .ok (.tuple #[.int .i64 0, .bool false]) w ∧ ∀ s ∈ sets, keyM n t c s = false) ∨
    ∃ j s, (Instr.lookup 62 (.map (some b)) (keyV n t c) true).run Tryz.prog w = .ok (.tuple #[.int .i64 (j : Nat), .bool true]) w ∧ sets[j]? = some s ∧ keyM n t c s = true := by
  obtain ⟨es, clock, hb, h1, h2⟩ := h
  obtain ⟨hks, hat, hlen⟩ := KMap.keys h1 h2
  obtain ⟨kl, hkl⟩ := keyOf_key n t c hn ht hc
  rcases keyLaw.find w hkl es.toList hks with ⟨f1, f2⟩ | ⟨j, e0, f1, f2, f3⟩
  · left
    refine ⟨by simp [Instr.lookup, run_underlying Tryz.underlying62, MapKept.run_getObj_map hb, keyLaw.check w _ hkl, f1, Tryz.zeroValue3, Result.andThen], fun s hs => ?_⟩
    obtain ⟨i, hi, rfl⟩ := List.getElem_of_mem hs
    have hi' : i < es.toList.length := by omega
    obtain ⟨s', hs', hk', _⟩ := hat i _ (List.getElem?_eq_getElem hi')
    rw [List.getElem?_eq_getElem hi] at hs'
    injection hs' with hs'
    rcases hkm : keyM n t c sets[i] with _ | _
    · rfl
    · exfalso
      apply f2 _ (List.getElem_mem hi')
      rw [hk', ← hs']
      simp only [keyM, Bool.and_eq_true, beq_iff_eq] at hkm
      simp [keyS, keyV, hkm.1, hkm.2.1, hkm.2.2]
  · right
    obtain ⟨s, hs, hk', hv⟩ := hat j e0 f2
    refine ⟨j, s, by simp [Instr.lookup, run_underlying Tryz.underlying62, MapKept.run_getObj_map hb, keyLaw.check w _ hkl, f1, Result.andThen, hv], hs, ?_⟩
    have := keyV_inj (hk'.symm.trans f3)
    simp [keyM, this.1, this.2.1, this.2.2]

theorem KMap.store {w : World} {b : Nat} {sets : List SetD} (h : KMap w b sets) (s : SetD) (hs : SetKey s) (hno : ∀ x ∈ sets, keyM s.name s.typ s.cls x = false) :
    ∃ w', (Instr.mapUpdate 62 (.map (some b)) (keyS s) (.int .i64 sets.length)).run Tryz.prog w = .ok () w' ∧ KMap w' b (sets ++ [s]) ∧ w.grownBy w' (some b) := by
  obtain ⟨es, clock, hb, h1, h2⟩ := h
  obtain ⟨hks, hat, hlen⟩ := KMap.keys h1 h2
  obtain ⟨kl, hkl⟩ := keyOf_key s.name s.typ s.cls hs.1 hs.2.1 hs.2.2
  have hbl : b < w.heap.size := (Array.getElem?_eq_some_iff.1 hb).1
  rcases keyLaw.find w hkl es.toList hks with ⟨f1, f2⟩ | ⟨j, e0, f1, f2, f3⟩
  · have hkl' : keyOf Tryz.prog 66 (keyS s) = some kl := hkl
    have f1' : (Instr.findKey 66 (keyS s) es.toList).run Tryz.prog w = .ok none w := f1
    refine ⟨_, by simp [Instr.mapUpdate, run_underlying Tryz.underlying62, MapKept.run_getObj_map hb, keyLaw.check w false hkl', f1', MapKept.run_setObj_map _ hb, Result.andThen]; rfl, ⟨es.push ⟨keyS s, .int .i64 sets.length, clock⟩, clock + 1, ?_, ?_, ?_⟩, ?_⟩
    · exact Array.getElem?_setIfInBounds_self_of_lt hbl
    · rw [Array.toList_push, List.map_append, h1, List.zipIdx_append, List.map_append]; simp
    · intro x hx
      rcases List.mem_append.1 hx with h | h
      · exact h2 x h
      · rw [List.mem_singleton] at h; subst h; exact hs
    · refine ⟨rfl, rfl, rfl, by simp, fun k hk hne => ?_⟩
      exact Array.getElem?_setIfInBounds_ne (fun e => hne (by rw [e]))
  · exfalso
    obtain ⟨s', hs', hk', hv⟩ := hat j e0 f2
    have h3 := hno s' (List.mem_of_getElem? hs')
    have h4 := keyV_inj (hk'.symm.trans f3)
    simp [keyM, h4.1, h4.2.1, h4.2.2] at h3
end Go.Proofs.YthdlgmfeicikpaaGreatDoor
