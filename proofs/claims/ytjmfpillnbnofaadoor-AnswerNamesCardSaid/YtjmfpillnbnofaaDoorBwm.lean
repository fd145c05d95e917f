/- Contracts of functions and plain lemmas that the proofs of this seat share (joined texts). No condition. -/
import Derived.Test.YtjmfpillnbnofaaDoorBwp
import Derived.Maps.Keyed
import Derived.DeepKeys4
import Derived.Maps.Own
namespace Go.Proofs.YtjmfpillnbnofaaDoor
set_option linter.unusedSimpArgs false
set_option linter.unusedVariables false
open Go.RowKit
set_option maxRecDepth 100000

theorem strLaw : WideMaps.KeyLaw Tryd.prog 9 := WideMaps.string_law Tryd.underlying9
theorem keyOf_str (n : List UInt8) (hn : n.length ≤ maxLen) : ∃ kl, keyOf Tryd.prog 9 (S n) = some kl := by
  unfold keyOf
  simp only [Tryd.underlying9]
  unfold mapKey
  simp only [Tryd.underlying9]
  rw [if_pos (by rw [size_mk]; exact hn)]
  exact ⟨_, rfl⟩
/-- The map in block b holds the table. -/
def TMap (w : World) (b : Nat) (t : Tab) : Prop :=
  ∃ es clock, w.heap[b]? = some (.map es clock) ∧ es.toList.map (fun e => (e.key, e.val)) = t.map (fun p => (S p.1, Value.int .i64 (p.2 : Int))) ∧ ∀ p ∈ t, p.1.length ≤ maxLen
theorem TMap.made (w : World) : TMap (w.alloc (.map #[] 0)) w.heap.size [] := ⟨#[], 0, heap_alloc_new w _, rfl, by simp⟩
theorem TMap.lt {w : World} {b : Nat} {t : Tab} (h : TMap w b t) : b < w.heap.size := by
  obtain ⟨es, clock, hb, _⟩ := h
  exact (Array.getElem?_eq_some_iff.1 hb).1
theorem TMap.ext {w w' : World} {b : Nat} {t : Tab} (h : TMap w b t) (hE : Ext w w') : TMap w' b t := by
  have hlt := h.lt
  obtain ⟨es, clock, hb, h1⟩ := h
  exact ⟨es, clock, (hE.block b hlt).trans hb, h1⟩
theorem TMap.kept {w w' : World} {b : Nat} {t : Tab} {row : Option Nat} (h : TMap w b t) (hg : w.grownBy w' row) (hne : some b ≠ row) : TMap w' b t := by
  have hlt := h.lt
  obtain ⟨es, clock, hb, h1⟩ := h
  exact ⟨es, clock, (hg.block b hlt hne).trans hb, h1⟩
theorem TMap.set {w : World} {b : Nat} {t : Tab} (h : TMap w b t) {p : Addr} (hp : b ≠ p.block) (u : Value) : TMap (w.setCell p u) b t := by
  obtain ⟨es, clock, hb, h1⟩ := h
  exact ⟨es, clock, (Below.heap_setCell w p u b hp).trans hb, h1⟩
theorem strV_inj {n n' : List UInt8} (h : S n = S n') : n = n' := by
  simp only [Value.string.injEq, ByteArray.mk.injEq, Array.mk.injEq] at h
  simpa using h
theorem TMap.keys {es : Array MapEntry} {t : Tab} (h : es.toList.map (fun e => (e.key, e.val)) = t.map (fun p => (S p.1, Value.int .i64 (p.2 : Int)))) (hk : ∀ p ∈ t, p.1.length ≤ maxLen) :
    (∀ e ∈ es.toList, ∃ l, keyOf Tryd.prog 9 e.key = some l) ∧ (∀ (j : Nat) (e : MapEntry), es.toList[j]? = some e → ∃ p, t[j]? = some p ∧ e.key = S p.1 ∧ e.val = .int .i64 (p.2 : Int)) ∧ es.toList.length = t.length := by
  have hlen : es.toList.length = t.length := by simpa using congrArg List.length h
  have h2 : ∀ (j : Nat) (e : MapEntry), es.toList[j]? = some e → ∃ p, t[j]? = some p ∧ e.key = S p.1 ∧ e.val = .int .i64 (p.2 : Int) := by
    intro j e he
    have hj : j < t.length := by rw [← hlen]; exact (List.getElem?_eq_some_iff.1 he).1
    have := congrArg (fun l => l[j]?) h
    simp only [List.getElem?_map, he, Option.map_some] at this
    rw [List.getElem?_eq_getElem hj] at this
    simp only [Option.map_some, Option.some.injEq, Prod.mk.injEq] at this
    exact ⟨t[j], List.getElem?_eq_getElem hj, this.1, this.2⟩
  refine ⟨fun e he => ?_, h2, hlen⟩
  obtain ⟨j, hj, rfl⟩ := List.getElem_of_mem he
  obtain ⟨p, hp, hk1, _⟩ := h2 j _ (List.getElem?_eq_getElem hj)
  have := hk p (List.mem_of_getElem? hp)
  rw [hk1]
  exact keyOf_str _ this
theorem tabAt_none {t : Tab} {n : List UInt8} (h : ∀ p ∈ t, p.1 ≠ n) : tabAt t n = none := by
  unfold tabAt
  rw [List.find?_eq_none.2 (fun p hp => by simpa using h p hp)]; rfl
theorem tab_uniq : ∀ {t : Tab} {p q : List UInt8 × Nat}, (t.map Prod.fst).Nodup → p ∈ t → q ∈ t → q.1 = p.1 → q = p
  | [], _, _, _, hp, _, _ => by cases hp
  | e :: t, p, q, hd, hp, hq, h => by
    rw [List.map_cons, List.nodup_cons] at hd
    rcases List.mem_cons.1 hp with e1 | hp
    · rcases List.mem_cons.1 hq with e2 | hq
      · rw [e1, e2]
      · exact absurd (List.mem_map.2 ⟨q, hq, h.trans (by rw [e1])⟩) hd.1
    · rcases List.mem_cons.1 hq with e2 | hq
      · exact absurd (List.mem_map.2 ⟨p, hp, h.symm.trans (by rw [e2])⟩) hd.1
      · exact tab_uniq hd.2 hp hq h
/-- What stands in the table under distinct keys is what is found first. -/
theorem tabAt_at {t : Tab} (hd : (t.map Prod.fst).Nodup) {j : Nat} {p : List UInt8 × Nat} (h : t[j]? = some p) : tabAt t p.1 = some p.2 := by
  unfold tabAt
  have hm := List.mem_of_getElem? h
  rcases hf : t.find? fun e => e.1 == p.1 with _ | q
  · rw [List.find?_eq_none] at hf
    exact absurd (by simp) (hf p hm)
  · have h1 := List.find?_some hf
    have h2 := List.mem_of_find?_eq_some hf
    simp only [beq_iff_eq] at h1
    rw [hf, tab_uniq hd hm h2 h1]; rfl
theorem TMap.look {w : World} {b : Nat} {t : Tab} (h : TMap w b t) (hd : (t.map Prod.fst).Nodup) (n : List UInt8) (hn : n.length ≤ maxLen) :
    (Instr.lookup 124 (.map (some b)) (S n) true).run Tryd.prog w = .ok (.tuple #[.int .i64 (((tabAt t n).getD 0 : Nat) : Int), .bool (tabAt t n).isSome]) w := by
  obtain ⟨es, clock, hb, h1, h2⟩ := h
  obtain ⟨hks, hat, hlen⟩ := TMap.keys h1 h2
  obtain ⟨kl, hkl⟩ := keyOf_str n hn
  rcases strLaw.find w hkl es.toList hks with ⟨f1, f2⟩ | ⟨j, e0, f1, f2, f3⟩
  · have e : tabAt t n = none := tabAt_none fun p hp he => by
      obtain ⟨i, hi, rfl⟩ := List.getElem_of_mem hp
      have hi' : i < es.toList.length := by omega
      obtain ⟨p', hp', hk', _⟩ := hat i _ (List.getElem?_eq_getElem hi')
      rw [List.getElem?_eq_getElem hi] at hp'
      injection hp' with hp'
      apply f2 _ (List.getElem_mem hi')
      rw [hk', ← hp', he]
    rw [e]
    simp [Instr.lookup, run_underlying Tryd.underlying124, MapKept.run_getObj_map hb, strLaw.check w _ hkl, f1, Tryd.zeroValue3, Result.andThen]
  · obtain ⟨p, hp, hk', hv⟩ := hat j e0 f2
    have e1 : p.1 = n := strV_inj (hk'.symm.trans f3)
    have e2 := tabAt_at hd hp
    rw [e1] at e2
    rw [e2]
    simp [Instr.lookup, run_underlying Tryd.underlying124, MapKept.run_getObj_map hb, strLaw.check w _ hkl, f1, Result.andThen, hv]
theorem TMap.store {w : World} {b : Nat} {t : Tab} (h : TMap w b t) (n : List UInt8) (k : Nat) (hn : n.length ≤ maxLen) (hno : tabAt t n = none) :
    ∃ w', (Instr.mapUpdate 124 (.map (some b)) (S n) (.int .i64 (k : Int))).run Tryd.prog w = .ok () w' ∧ TMap w' b (t ++ [(n, k)]) ∧ w.grownBy w' (some b) := by
  obtain ⟨es, clock, hb, h1, h2⟩ := h
  obtain ⟨hks, hat, hlen⟩ := TMap.keys h1 h2
  obtain ⟨kl, hkl⟩ := keyOf_str n hn
  have hbl : b < w.heap.size := (Array.getElem?_eq_some_iff.1 hb).1
  rcases strLaw.find w hkl es.toList hks with ⟨f1, f2⟩ | ⟨j, e0, f1, f2, f3⟩
  · refine ⟨_, by simp [Instr.mapUpdate, run_underlying Tryd.underlying124, MapKept.run_getObj_map hb, strLaw.check w false hkl, f1, MapKept.run_setObj_map _ hb, Result.andThen]; rfl, ⟨es.push ⟨S n, .int .i64 (k : Int), clock⟩, clock + 1, ?_, ?_, ?_⟩, ?_⟩
    · exact Array.getElem?_setIfInBounds_self_of_lt hbl
    · rw [Array.toList_push, List.map_append, h1, List.map_append]; simp
    · intro x hx
      rcases List.mem_append.1 hx with h | h
      · exact h2 x h
      · rw [List.mem_singleton] at h; subst h; exact hn
    · refine ⟨rfl, rfl, rfl, by simp, fun k hk hne => ?_⟩
      exact Array.getElem?_setIfInBounds_ne (fun e => hne (by rw [e]))
  · exfalso
    obtain ⟨p, hp, hk', hv⟩ := hat j e0 f2
    have e1 : p.1 = n := strV_inj (hk'.symm.trans f3)
    unfold tabAt at hno
    rw [Option.map_eq_none_iff, List.find?_eq_none] at hno
    exact hno p (List.mem_of_getElem? hp) (by simp [e1])
end Go.Proofs.YtjmfpillnbnofaaDoor
