/- slices.Sort, slices.Compact at []string and slices.SortFunc at []api.Set, in the words of rows that the call owns. The contracts are the shelf's. -/
import Derived.Test.YthdlgmfeicikpaaGreatDoorCmp8
import Derived.Test.YthdlgmfeicikpaaGreatDoorGrp1
import Derived.Test.YthdlgmfeicikpaaGreatDoorShelf
namespace Go.Proofs.YthdlgmfeicikpaaGreatDoor
set_option linter.unusedSimpArgs false
set_option linter.unusedVariables false
open Go.RowKit Go.Sort Go.Lib
set_option maxRecDepth 100000

theorem map_block {w : World} {g q : Nat} {os : Array Obj} {F : Array Value → Array Value} {cur : Array Value} {e : TypeId} {fr : Nat × Nat} (hg : w.heap[g]? = some (.cells cur e fr)) :
    (Sort.grow (Sort.mapBlock (Sort.ahead w q) g F) os).heap[g]? = some (.cells (F cur) e fr) := by
  have hlt : g < w.heap.size := (Array.getElem?_eq_some_iff.1 hg).1
  simp only [Sort.grow, Sort.mapBlock, Sort.ahead]
  rw [Array.getElem?_append_left (by simpa using hlt), Array.getElem?_modify, if_pos rfl, hg]
  rfl
theorem map_grown (w : World) (g q : Nat) (os : Array Obj) (F : Array Value → Array Value) : w.grownBy (Sort.grow (Sort.mapBlock (Sort.ahead w q) g F) os) (some g) := by
  refine ⟨rfl, rfl, rfl, by simp [Sort.grow, Sort.mapBlock, Sort.ahead], fun k hk hne => ?_⟩
  simp only [Sort.grow, Sort.mapBlock, Sort.ahead]
  rw [Array.getElem?_append_left (by simpa using hk), Array.getElem?_modify, if_neg (fun e => hne (by rw [e]))]
theorem put_own {w : World} {lo : Nat} {e : TypeId} {sz n c g : Nat} {xs : List Value} (h : Own w lo e sz (some ⟨g, 0, none⟩) n c xs) (q : Nat) (os : Array Obj) (m : Nat) (f : Nat → Value) (n' : Nat) (ys : List Value)
    (hn' : n' ≤ c) (hl : ys.length = n' * sz) (hm : n' * sz ≤ m) (hf : ∀ j u, ys[j]? = some u → f j = u) :
    Own (Sort.grow (Sort.mapBlock (Sort.ahead w q) g (fun cs => cs.mapIdx fun k x => if 0 ≤ k ∧ k < 0 + m then f (k - 0) else x)) os) lo e sz (some ⟨g, 0, none⟩) n' c ys := by
  refine ⟨hl, ?_⟩
  rcases h.2 with ⟨h1, _⟩ | ⟨g', cap, cur, h1, hg, hh, h4, h5, h6, h7⟩
  · injection h1 with h1; cases h1
  · injection h1 with h1 _ h3
    injection h1 with h1
    injection h1 with h1 _ _
    subst h1 h3
    refine .inr ⟨g, c, _, rfl, hg, map_block hh, hn', h5, by simpa using h6, ?_⟩
    have hcap : n' * sz ≤ c * sz := Nat.mul_le_mul_right _ hn'
    apply List.ext_getElem?
    intro j
    rcases Nat.lt_or_ge j (n' * sz) with hj | hj
    · have hy : ys[j]? = some (ys[j]'(by omega)) := List.getElem?_eq_getElem (by omega)
      rw [List.getElem?_take_of_lt hj, hy, Array.getElem?_toList, Array.getElem?_mapIdx]
      have hc : j < cur.size := by omega
      rw [Array.getElem?_eq_getElem hc]
      simp only [Option.map_some]
      rw [if_pos ⟨Nat.zero_le _, by omega⟩, Nat.sub_zero, hf j _ hy]
    · rw [List.getElem?_eq_none (by rw [List.length_take]; omega), List.getElem?_eq_none (by omega)]

def sortB (l : List (List UInt8)) : List (List UInt8) := l.mergeSort fun x y => decide (x ≤ y)
def SortPost (lo : Nat) (v : Value) (l : List (List UInt8)) (w : World) (e : Ending) (w' : World) : Prop := e = .returned (.tuple #[]) ∧ OStrs w' lo v l ∧ w.grownBy w' v.ownBlock
def CompPost (lo : Nat) (v : Value) (l : List (List UInt8)) (w : World) (e : Ending) (w' : World) : Prop := ∃ v', e = .returned v' ∧ OStrs w' lo v' l ∧ w.grownBy w' v.ownBlock ∧ v'.ownBlock = v.ownBlock
theorem sortB_len (l : List (List UInt8)) : (sortB l).length = l.length := by unfold sortB; simp

theorem holds_of {w : World} {lo g c : Nat} {l : List (List UInt8)} (h : Own w lo 9 1 (some ⟨g, 0, none⟩) l.length c (l.map S)) (h0 : 0 < l.length) : Sort.Holds encStr w g 0 l.toArray := by
  obtain ⟨g', e1, _, _, hf, hc⟩ := h.addr h0
  injection e1 with e1
  injection e1 with e1 _ _
  subst e1
  intro j hj
  have hj' : j < l.length := by simpa using hj
  rw [Nat.zero_add]
  refine ⟨?_, hf j⟩
  rw [hc j (S l[j]) (by simp [hj'])]
  simp [hj', encStr]

theorem put_strs {w : World} {lo g c : Nat} {l : List (List UInt8)} (ho : Own w lo 9 1 (some ⟨g, 0, none⟩) l.length c (l.map S)) (n : Nat) (os : Array Obj) (T : List (List UInt8)) (hT : T.length = l.length) :
    OStrs (Sort.grow (Sort.putRow encStr (Sort.ahead w n) g 0 T.toArray) os) lo (.slice (some ⟨g, 0, none⟩) l.length c) T := by
  refine ⟨_, c, by rw [hT], ?_⟩
  exact put_own ho n os T.toArray.size (fun k => encStr T.toArray[k]!) T.length (T.map S) (by rw [hT]; exact ho.cap.1) (by simp) (by simp) (fun j u hu => by
    have hj : j < T.length := by simpa using (List.getElem?_eq_some_iff.1 hu).1
    simp only [List.getElem?_map, List.getElem?_eq_getElem hj, Option.map_some, Option.some.injEq] at hu
    rw [← hu]
    simp [hj, encStr])

theorem sl_sort (lo : Nat) (v : Value) (l : List (List UInt8)) (w : World) (h : OStrs w lo v l) (hb : l.length < 4611686018427387904) : Calls Tryz.prog 44 #[v] w (SortPost lo v (sortB l) w) := by
  obtain ⟨A, c, rfl, ho⟩ := h
  by_cases h0 : l.length = 0
  · have : l = [] := List.eq_nil_of_length_eq_zero h0
    subst this
    refine (Tryz.slices_Sort_string_none A c w).mono ?_
    rintro e w' ⟨rfl, rfl⟩
    have e0 : sortB [] = [] := by simp [sortB]
    rw [e0]
    exact ⟨rfl, ⟨A, c, rfl, ho⟩, World.grownBy.refl _ _⟩
  · obtain ⟨g, rfl, _, hgz, _, _⟩ := ho.addr (by omega)
    have hcap := ho.cap
    have hc := Tryz.slices_Sort_string g 0 c l w (holds_of ho (by omega)) hgz hb
    rw [show (l.mergeSort fun x y => decide (x ≤ y)) = sortB l from rfl] at hc
    have hlen := sortB_len l
    generalize sortB l = T at *
    refine hc.mono ?_
    rintro e w' ⟨rfl, n, os, rfl⟩
    exact ⟨rfl, put_strs ho n os T (by omega), map_grown w g n os _⟩

theorem sl_compact (lo : Nat) (v : Value) (l : List (List UInt8)) (w : World) (h : OStrs w lo v l) : Calls Tryz.prog 45 #[v] w (CompPost lo v (Lib.compact l) w) := by
  obtain ⟨A, c, rfl, ho⟩ := h
  by_cases h0 : l.length = 0
  · have : l = [] := List.eq_nil_of_length_eq_zero h0
    subst this
    refine (Tryz.slices_Compact_string_empty A c w).mono ?_
    rintro e w' ⟨rfl, rfl⟩
    exact ⟨_, rfl, ⟨A, c, rfl, ho⟩, World.grownBy.refl _ _, rfl⟩
  · obtain ⟨g, rfl, _, hgz, _, _⟩ := ho.addr (by omega)
    have hcap := ho.cap
    have hc := Tryz.slices_Compact_string g 0 c l w (holds_of ho (by omega)) (by have := hcap.1; have := hcap.2; unfold maxLen at this; omega) hcap.1
    have hlen : (Lib.compact l).length ≤ l.length := by
      unfold Lib.compact Lib.compactUpTo
      rw [List.length_map]
      exact Nat.le_trans (List.length_filter_le _ _) (by simp)
    generalize Lib.compact l = T at *
    refine hc.mono ?_
    rintro e w' ⟨rfl, n, rfl⟩
    refine ⟨_, rfl, ?_, ?_, rfl⟩
    · have := put_own ho n #[] (T ++ List.replicate (l.length - T.length) []).toArray.size (fun k => encStr (T ++ List.replicate (l.length - T.length) []).toArray[k]!) T.length (T.map S) (by omega) (by simp) (by simp) (fun j u hu => by
        have hj : j < T.length := by simpa using (List.getElem?_eq_some_iff.1 hu).1
        simp only [List.getElem?_map, List.getElem?_eq_getElem hj, Option.map_some, Option.some.injEq] at hu
        rw [← hu]
        simp [hj, encStr, List.getElem?_append_left hj])
      rw [Sort.grow_empty] at this
      exact ⟨_, c, rfl, this⟩
    · have := map_grown w g n #[] (Sort.putCells encStr 0 (T ++ List.replicate (l.length - T.length) []).toArray)
      rw [Sort.grow_empty] at this
      exact this
end Go.Proofs.YthdlgmfeicikpaaGreatDoor
