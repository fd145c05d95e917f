/- The walk of rrset.Group, its first loop. -/
import Derived.Test.YthdlgmfeicikpaaGreatDoorSort9
import Derived.Test.YthdlgmfeicikpaaGreatDoorKMap
import Derived.Test.YthdlgmfeicikpaaGreatDoorGrp2
import Derived.Test.YthdlgmfeicikpaaGreatDoorRdata5
import Derived.Test.YthdlgmfeicikpaaGreatDoorPlGrp
namespace Go.Proofs.YthdlgmfeicikpaaGreatDoor
set_option linter.unusedSimpArgs false
set_option linter.unusedVariables false
open Go.RowKit
set_option maxRecDepth 100000

/-! ### Plain: the sets as the first loop makes them -/
def updP (t : Int) (d : List UInt8) (s : SetD) : SetD := { s with ttl := min s.ttl t, data := s.data ++ [d] }
def addP (sets : List SetD) (x : RecD) : List SetD :=
  if okRec x then
    (if atTo (keyM (fold x.name) x.typ x.cls) sets sets.length < 0 then sets ++ [⟨fold x.name, x.typ, x.cls, timeT x.ttl, [rfold x.typ x.data]⟩]
     else sets.modify (atTo (keyM (fold x.name) x.typ x.cls) sets sets.length).toNat (updP (timeT x.ttl) (rfold x.typ x.data)))
  else sets
def rawTo (l : List RecD) (k : Nat) : List SetD := (l.take k).foldl addP []
theorem rawTo_step (l : List RecD) (k : Nat) (h : k < l.length) : rawTo l (k + 1) = addP (rawTo l k) l[k] := by
  unfold rawTo; rw [take_snoc l k h, List.foldl_append]; rfl
def keyT (s : SetD) : List UInt8 × Int × Int := (s.name, s.typ, s.cls)
theorem keyM_iff {n : List UInt8} {t c : Int} {s : SetD} : keyM n t c s = true ↔ keyT s = (n, t, c) := by
  simp [keyM, keyT]
theorem keyT_modify (l : List SetD) (k : Nat) (t : Int) (d : List UInt8) : (l.modify k (updP t d)).map keyT = l.map keyT := by
  apply List.ext_getElem?
  intro i
  simp only [List.getElem?_map, List.getElem?_modify]
  by_cases e : k = i
  · subst e; cases l[k]? <;> simp [updP, keyT]
  · simp [e]
theorem atTo_none {f : SetD → Bool} {l : List SetD} (h : ∀ s ∈ l, f s = false) : ∀ k, k ≤ l.length → atTo f l k = -1
  | 0, _ => rfl
  | k + 1, hk => by
    simp only [atTo]
    have : l.getD k SetD.zero = l[k] := by simp [show k < l.length by omega]
    rw [this, h l[k] (List.getElem_mem _), atTo_none h k (by omega)]; rfl
theorem atTo_one {n : List UInt8} {t c : Int} {l : List SetD} (hd : (l.map keyT).Nodup) {j : Nat} {s : SetD} (hs : l[j]? = some s) (hk : keyM n t c s = true) : ∀ k, j < k → k ≤ l.length → atTo (keyM n t c) l k = j
  | 0, h, _ => absurd h (by omega)
  | k + 1, h, hk1 => by
    simp only [atTo]
    have hg : l.getD k SetD.zero = l[k] := by simp [show k < l.length by omega]
    rw [hg]
    rcases Nat.eq_or_lt_of_le (Nat.le_of_lt_succ h) with e | e
    · subst e
      rw [List.getElem?_eq_getElem (by omega)] at hs
      injection hs with hs
      rw [hs, hk]; rfl
    · have hne : keyM n t c l[k] = false := by
        rcases hb : keyM n t c l[k] with _ | _
        · rfl
        · exfalso
          rw [keyM_iff] at hb hk
          have hj : j < l.length := by omega
          rw [List.getElem?_eq_getElem hj] at hs
          injection hs with hs
          have := (List.pairwise_iff_getElem.1 hd) j k (by simpa using hj) (by simp; omega) e
          simp only [List.getElem_map] at this
          rw [hs] at this
          exact this (hk.trans hb.symm)
      rw [hne]
      simp only [Bool.false_eq_true, if_false]
      exact atTo_one hd hs hk k e (by omega)
theorem atTo_ge {f : SetD → Bool} {l : List SetD} : ∀ k, k ≤ l.length → 0 ≤ atTo f l k → ∃ s, l[(atTo f l k).toNat]? = some s ∧ f s = true
  | 0, _, h => by simp [atTo] at h
  | k + 1, hk, h => by
    have hg : l.getD k SetD.zero = l[k] := by simp [show k < l.length by omega]
    have hu : atTo f l (k + 1) = if f l[k] then (k : Int) else atTo f l k := by rw [← hg]; rfl
    rw [hu] at h ⊢
    by_cases e : f l[k] = true
    · rw [if_pos e]
      exact ⟨l[k], by simp [List.getElem?_eq_getElem (show k < l.length by omega)], e⟩
    · rw [if_neg e] at h ⊢
      exact atTo_ge k (by omega) h
theorem atTo_neg {f : SetD → Bool} {l : List SetD} : ∀ k, k ≤ l.length → atTo f l k < 0 → ∀ i (hi : i < k) (hl : i < l.length), f l[i] = false
  | 0, _, _, i, hi, _ => absurd hi (by omega)
  | k + 1, hk, h, i, hi, hl => by
    simp only [atTo] at h
    have hg : l.getD k SetD.zero = l[k] := by simp [show k < l.length by omega]
    rw [hg] at h
    by_cases e : f l[k] = true
    · rw [if_pos e] at h; omega
    · rw [if_neg e] at h
      rcases Nat.eq_or_lt_of_le (Nat.le_of_lt_succ hi) with e' | e'
      · subst e'; simpa using e
      · exact atTo_neg k (by omega) h i e' hl
theorem addP_nodup {sets : List SetD} (h : (sets.map keyT).Nodup) (x : RecD) : ((addP sets x).map keyT).Nodup := by
  unfold addP
  split
  · split
    · rename_i hneg
      rw [List.map_append, List.nodup_append]
      refine ⟨h, by simp, fun a ha b hb => ?_⟩
      simp only [List.map_cons, List.map_nil, List.mem_singleton] at hb
      subst hb
      obtain ⟨s, hs, rfl⟩ := List.mem_map.1 ha
      obtain ⟨i, hi, rfl⟩ := List.getElem_of_mem hs
      have := atTo_neg _ (Nat.le_refl _) hneg i hi hi
      intro e
      rw [keyM_iff.2 e] at this; cases this
    · rw [keyT_modify]; exact h
  · exact h
theorem rawTo_nodup (l : List RecD) : ∀ k, k ≤ l.length → ((rawTo l k).map keyT).Nodup
  | 0, _ => by simp [rawTo]
  | k + 1, h => by rw [rawTo_step l k (by omega)]; exact addP_nodup (rawTo_nodup l k (by omega)) _
def RawBd (k B : Nat) (s : SetD) : Prop := (may s.name = true ∧ low s.name = s.name) ∧ s.data.length ≤ k ∧ (0 ≤ s.typ ∧ s.typ ≤ 65535) ∧ (0 ≤ s.cls ∧ s.cls ≤ 65535) ∧ ∀ d ∈ s.data, d.length ≤ B
theorem RawBd.mono {k k' B : Nat} {s : SetD} (h : RawBd k B s) (hk : k ≤ k') : RawBd k' B s := ⟨h.1, Nat.le_trans h.2.1 hk, h.2.2⟩
theorem fold_may {n : List UInt8} (h : may n = true) : may (fold n) = true ∧ low (fold n) = fold n := by
  unfold fold
  rw [if_pos h]
  exact ⟨by rw [may_low]; exact h, low_low n⟩
theorem rawTo_bd (l : List RecD) (B : Nat) (hB : ∀ r ∈ l, r.data.length ≤ B ∧ (0 ≤ r.typ ∧ r.typ ≤ 65535) ∧ (0 ≤ r.cls ∧ r.cls ≤ 65535)) : ∀ k, k ≤ l.length → ∀ s ∈ rawTo l k, RawBd k B s
  | 0, _ => by simp [rawTo]
  | k + 1, h => by
    rw [rawTo_step l k (by omega)]
    have ih := rawTo_bd l B hB k (by omega)
    have hx := hB l[k] (List.getElem_mem (by omega))
    have hr := rfold_len l[k].typ l[k].data
    intro s hs
    unfold addP at hs
    split at hs
    · rename_i hok
      have hm : may l[k].name = true := by unfold okRec at hok; simp only [Bool.and_eq_true] at hok; exact hok.1
      split at hs
      · rcases List.mem_append.1 hs with h1 | h1
        · exact (ih s h1).mono (by omega)
        · rw [List.mem_singleton] at h1; subst h1
          exact ⟨fold_may hm, by simp, hx.2.1, hx.2.2, by simp; omega⟩
      · rcases modify_mem hs with h1 | ⟨y, hy, rfl⟩
        · exact (ih s h1).mono (by omega)
        · have h2 := ih y hy
          refine ⟨h2.1, by simp [updP]; exact h2.2.1, h2.2.2.1, h2.2.2.2.1, fun d hd => ?_⟩
          simp only [updP, List.mem_append, List.mem_singleton] at hd
          rcases hd with hd | rfl
          · exact h2.2.2.2.2 d hd
          · omega
    · exact (ih s hs).mono (by omega)
theorem rawTo_len (l : List RecD) : ∀ k, k ≤ l.length → (rawTo l k).length ≤ k
  | 0, _ => by simp [rawTo]
  | k + 1, h => by
    rw [rawTo_step l k (by omega)]
    have := rawTo_len l k (by omega)
    unfold addP
    repeat' split
    all_goals simp
    all_goals omega

/-! ### The walk -/
theorem keep3 {w0 V : World} {g : Nat} {a b c : Value} (hE : Ext w0 V) (hg : g < w0.heap.size) (h0 : w0.cell? ⟨g, 0, none⟩ = some a) (h1 : w0.cell? ⟨g, 1, none⟩ = some b) (h2 : w0.cell? ⟨g, 2, none⟩ = some c) : V.cell? ⟨g, 0, none⟩ = some a ∧ V.cell? ⟨g, 1, none⟩ = some b ∧ V.cell? ⟨g, 2, none⟩ = some c :=
  ⟨(hE.cell (p := ⟨g, 0, none⟩) hg).trans h0, (hE.cell (p := ⟨g, 1, none⟩) hg).trans h1, (hE.cell (p := ⟨g, 2, none⟩) hg).trans h2⟩
theorem own_map {w : World} {lo : Nat} {e : TypeId} {sz n c : Nat} {A : Option Addr} {xs : List Value} {b : Nat} {sets : List SetD} (h : Own w lo e sz A n c xs) (k : KMap w b sets) : (Value.slice A n c).ownBlock = none ∨ (Value.slice A n c).ownBlock ≠ some b := by
  obtain ⟨es, clock, hb, _⟩ := k
  rcases h.2 with ⟨h1, _⟩ | ⟨g, cap, cur, h1, _, hh, _⟩
  · injection h1 with h1; subst h1; exact .inl rfl
  · injection h1 with h1; subst h1
    refine .inr (fun e => ?_)
    have : g = b := by simpa [Value.ownBlock] using e
    subst this
    rw [hb] at hh; cases hh
theorem map_own {w : World} {lo : Nat} {e : TypeId} {sz n c : Nat} {A : Option Addr} {xs : List Value} {b : Nat} {sets : List SetD} (h : Own w lo e sz A n c xs) (k : KMap w b sets) : some b ≠ (Value.slice A n c).ownBlock := by
  intro e
  rcases own_map h k with h1 | h1
  · rw [h1] at e; cases e
  · exact h1 e.symm
abbrev newP (fn : List UInt8) (ty cl T : Int) : SetD × Value := (⟨fn, ty, cl, T, []⟩, .slice none 0 0)
theorem set_self {α : Type} {l : List α} {i : Nat} {x : α} (h : l[i]? = some x) : l.set i x = l := by
  apply List.ext_getElem?
  intro j
  rw [List.getElem?_set]
  split
  · rename_i e; subst e; split
    · exact h.symm
    · rename_i h2; rw [List.getElem?_eq_none (by omega)]
  · rfl
theorem frozen_kept {w w' : World} {row : Option Nat} {g j : Nat} {b : Bool} (hg : w.grownBy w' row) (hlt : g < w.heap.size) (hne : some g ≠ row) (h : w.frozen? ⟨g, j, none⟩ = b) : w'.frozen? ⟨g, j, none⟩ = b :=
  (World.frozen?_of_block (hg.block g hlt hne)).trans h
structure GpInv (w : World) (sets : List SetD) (ps : List (SetD × Value)) (A : Option Addr) (c mb : Nat) (wr : World) : Prop where
  eq : ps.map Prod.fst = sets
  own : Own wr w.heap.size 27 5 A ps.length c (ps.flatMap setCells)
  datas : ∀ p ∈ ps, OStrs wr w.heap.size p.2 p.1.data
  apart : ps.Pairwise fun p q => p.2.ownBlock = none ∨ p.2.ownBlock ≠ q.2.ownBlock
  kmap : KMap wr mb sets
  mb : w.heap.size ≤ mb
  ext : Ext w wr
def RecsOk (l : List RecD) : Prop := ∀ r ∈ l, (0 ≤ r.typ ∧ r.typ ≤ 65535) ∧ (0 ≤ r.cls ∧ r.cls ≤ 65535)

theorem gp_step {w X w7 : World} {L' KS : List SetD} {PS : List (SetD × Value)} {g c J mb : Nat} {sn : List UInt8} {st sc sl : Int} {sd : List (List UInt8)} {dA : Option Addr} {dc : Nat} {fd : List UInt8} {A7 : Option Addr} {c7 : Nat} {old : Value}
    (hj : PS[J]? = some (⟨sn, st, sc, sl, sd⟩, .slice dA sd.length dc))
    (ho : Own X w.heap.size 27 5 (some ⟨g, 0, none⟩) PS.length c (PS.flatMap setCells)) (hd : ∀ p ∈ PS, OStrs X w.heap.size p.2 p.1.data)
    (hap : PS.Pairwise fun p q => p.2.ownBlock = none ∨ p.2.ownBlock ≠ q.2.ownBlock) (hk : KMap X mb KS) (hmb : w.heap.size ≤ mb) (hE : Ext w X)
    (hown7 : Own w7 w.heap.size 9 1 A7 (sd.length + 1) c7 (sd.map S ++ [fd].map S)) (hg7 : X.grownBy w7 (Value.slice dA sd.length dc).ownBlock) (hb7 : Below w.heap.size X w7)
    (hat7 : (Value.slice A7 (sd.length + 1) c7).ownBlock = (Value.slice dA sd.length dc).ownBlock ∨ (Value.slice A7 (sd.length + 1) c7).ownBlock = some X.heap.size)
    (hEnd : L' = (PS.set J (⟨sn, st, sc, sl, sd ++ [fd]⟩, old)).map Prod.fst) (hK : L'.map keyT = KS.map keyT) :
    GpInv w L' (PS.set J (⟨sn, st, sc, sl, sd ++ [fd]⟩, .slice A7 (sd.length + 1) c7)) (some ⟨g, 0, none⟩) c mb (w7.setCell ⟨g, J * 5 + 4, none⟩ (.slice A7 (sd.length + 1) c7)) := by
  have hJ : J < PS.length := (List.getElem?_eq_some_iff.1 hj).1
  have hjm := List.mem_of_getElem? hj
  have hdj := hd _ hjm
  dsimp only at hdj
  have hoD : Own X w.heap.size 9 1 dA sd.length dc (sd.map S) := by
    obtain ⟨B, d, e, h⟩ := hdj
    injection e with e1 _ e3
    subst e1 e3; exact h
  have hgw : w.heap.size ≤ g := (ho.blk g rfl).1
  have ho7 := ho.kept hg7 (own_ne ho hoD (by decide))
  have hn7 : OStrs w7 w.heap.size (.slice A7 (sd.length + 1) c7) (sd ++ [fd]) := ⟨A7, c7, by simp, by simpa using hown7⟩
  have hother : ∀ i (hi : i < PS.length), i ≠ J → PS[i].2.ownBlock = none ∨ PS[i].2.ownBlock ≠ (Value.slice dA sd.length dc).ownBlock := fun i hi hne => by
    have hje : PS[J] = (⟨sn, st, sc, sl, sd⟩, .slice dA sd.length dc) := (List.getElem?_eq_some_iff.1 hj).2
    rcases Nat.lt_or_gt_of_ne hne with h | h
    · have := List.pairwise_iff_getElem.1 hap i J hi hJ h
      rwa [hje] at this
    · have := List.pairwise_iff_getElem.1 hap J i hJ hi h
      rw [hje] at this
      dsimp only at this
      rcases hb : PS[i].2.ownBlock with _ | z
      · exact .inl rfl
      · right
        rcases this with h1 | h1
        · rw [h1]; simp
        · rw [hb] at h1; exact fun e => h1 e.symm
  refine ⟨?_, ?_, ?_, ?_, ?_, hmb, ?_⟩
  · rw [hEnd, List.map_set, List.map_set]
  · have h6 := ho7.stored (J * 5 + 4) (.slice A7 (sd.length + 1) c7) (by omega)
    rw [flat_set PS J (⟨sn, st, sc, sl, sd⟩, .slice dA sd.length dc) (⟨sn, st, sc, sl, sd⟩, .slice A7 (sd.length + 1) c7) 4 _ hj (by omega) rfl] at h6
    have e1 : (PS.set J (⟨sn, st, sc, sl, sd⟩, .slice A7 (sd.length + 1) c7)).flatMap setCells = (PS.set J (⟨sn, st, sc, sl, sd ++ [fd]⟩, .slice A7 (sd.length + 1) c7)).flatMap setCells := by
      rw [List.flatMap_def, List.flatMap_def, List.map_set, List.map_set]; rfl
    rw [e1] at h6
    rw [List.length_set]; exact h6
  · intro p hp
    obtain ⟨i, hi, rfl⟩ := List.getElem_of_mem hp
    rw [List.length_set] at hi
    rw [List.getElem_set]
    split
    · exact OStrs.set_other (p := ⟨g, _, none⟩) hn7 _ (ostrs_ne hn7 ho7)
    · rename_i hne
      have h7 := (hd PS[i] (List.getElem_mem hi)).kept hg7 (hother i hi (fun e => hne e.symm))
      exact OStrs.set_other (p := ⟨g, _, none⟩) h7 _ (ostrs_ne h7 ho7)
  · rw [List.pairwise_iff_getElem]
    intro i j hi hj' hij
    rw [List.length_set] at hi hj'
    rw [List.getElem_set, List.getElem_set]
    by_cases e1 : J = i
    · rw [if_pos e1, if_neg (by omega)]
      dsimp only
      have h8 := apart_step (hother j hj' (by omega)) (fun z hz => ((hd PS[j] (List.getElem_mem hj')).blk z hz).2) hat7
      rcases hb : (Value.slice A7 (sd.length + 1) c7).ownBlock with _ | z
      · exact .inl rfl
      · right
        rcases h8 with h9 | h9
        · rw [h9]; simp
        · rw [hb] at h9; exact fun e => h9 e.symm
    · rw [if_neg e1]
      by_cases e2 : J = j
      · rw [if_pos e2]
        exact apart_step (hother i hi (fun e => e1 e.symm)) (fun z hz => ((hd PS[i] (List.getElem_mem hi)).blk z hz).2) hat7
      · rw [if_neg e2]
        exact List.pairwise_iff_getElem.1 hap i j hi hj' hij
  · have hk7 := hk.kept hg7 (map_own hoD hk)
    exact (hk7.set (p := ⟨g, _, none⟩) (fun e => map_own ho7 hk7 (by simp [Value.ownBlock]; exact e)) _).congr hK
  · exact (Ext.then (lo := w.heap.size) hE hb7 (Nat.le_refl _)).setCell hgw _

end Go.Proofs.YthdlgmfeicikpaaGreatDoor
