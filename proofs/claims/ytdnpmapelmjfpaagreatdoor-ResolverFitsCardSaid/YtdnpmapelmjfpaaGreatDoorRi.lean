/- Contracts of functions and plain lemmas that the proofs of this seat share (joined texts). No condition. -/
import Derived.Test.YtdnpmapelmjfpaaGreatDoorRh
import Derived.Test.YtdnpmapelmjfpaaGreatDoorRg
import Derived.Test.YtdnpmapelmjfpaaGreatDoorRd
import Derived.Deep.RegionHeld3
import Derived.Deep.DeepMust
import Derived.Deep.DeepCutAuto
import Derived.StillTailTactics
namespace Go.Proofs.YtdnpmapelmjfpaaGreatDoor
set_option linter.unusedSimpArgs false
set_option linter.unusedVariables false
open Go.RowKit
set_option maxRecDepth 100000
def updP (t : Int) (d : List UInt8) (s : SetD) : SetD := { s with ttl := min s.ttl t, data := s.data ++ [d] }
def addP (sets : List SetD) (x : RecD) : List SetD :=
  if okRec x then
    (if atTo (keyM (fold x.name) x.typ x.cls) sets sets.length < 0 then sets ++ [⟨fold x.name, x.typ, x.cls, timeT x.ttl, [rfold x.typ x.data]⟩]
     else sets.modify (atTo (keyM (fold x.name) x.typ x.cls) sets sets.length).toNat (updP (timeT x.ttl) (rfold x.typ x.data)))
  else sets
def rawTo (l : List RecD) (k : Nat) : List SetD := (l.take k).foldl addP []
theorem rawTo_step (l : List RecD) (k : Nat) (h : k < l.length) : rawTo l (k + 1) = addP (rawTo l k) l[k] := by
  unfold rawTo; rw [take_snoc l k h, List.foldl_append]; rfl
def keyT (s : SetD) : List UInt8 × Int × Int := (s.name, s.typ, s.cls)
theorem keyM_iff {n : List UInt8} {t c : Int} {s : SetD} : keyM n t c s = true ↔ keyT s = (n, t, c) := by
  simp [keyM, keyT]
theorem keyT_modify (l : List SetD) (k : Nat) (t : Int) (d : List UInt8) : (l.modify k (updP t d)).map keyT = l.map keyT := by
  apply List.ext_getElem?
  intro i
  simp only [List.getElem?_map, List.getElem?_modify]
  by_cases e : k = i
  · subst e; cases l[k]? <;> simp [updP, keyT]
  · simp [e]
theorem atTo_none {f : SetD → Bool} {l : List SetD} (h : ∀ s ∈ l, f s = false) : ∀ k, k ≤ l.length → atTo f l k = -1
  | 0, _ => rfl
  | k + 1, hk => by
    simp only [atTo]
    have : l.getD k SetD.zero = l[k] := by simp [show k < l.length by omega]
    rw [this, h l[k] (List.getElem_mem _), atTo_none h k (by omega)]; rfl
theorem atTo_one {n : List UInt8} {t c : Int} {l : List SetD} (hd : (l.map keyT).Nodup) {j : Nat} {s : SetD} (hs : l[j]? = some s) (hk : keyM n t c s = true) : ∀ k, j < k → k ≤ l.length → atTo (keyM n t c) l k = j
  | 0, h, _ => absurd h (by omega)
  | k + 1, h, hk1 => by
    simp only [atTo]
    have hg : l.getD k SetD.zero = l[k] := by simp [show k < l.length by omega]
    rw [hg]
    rcases Nat.eq_or_lt_of_le (Nat.le_of_lt_succ h) with e | e
    · subst e
      rw [List.getElem?_eq_getElem (by omega)] at hs
      injection hs with hs
      rw [hs, hk]; rfl
    · have hne : keyM n t c l[k] = false := by
        rcases hb : keyM n t c l[k] with _ | _
        · rfl
        · exfalso
          rw [keyM_iff] at hb hk
          have hj : j < l.length := by omega
          rw [List.getElem?_eq_getElem hj] at hs
          injection hs with hs
          have := (List.pairwise_iff_getElem.1 hd) j k (by simpa using hj) (by simp; omega) e
          simp only [List.getElem_map] at this
          rw [hs] at this
          exact this (hk.trans hb.symm)
      rw [hne]
      simp only [Bool.false_eq_true, if_false]
      exact atTo_one hd hs hk k e (by omega)
theorem atTo_ge {f : SetD → Bool} {l : List SetD} : ∀ k, k ≤ l.length → 0 ≤ atTo f l k → ∃ s, l[(atTo f l k).toNat]? = some s ∧ f s = true
  | 0, _, h => by simp [atTo] at h
  | k + 1, hk, h => by
    have hg : l.getD k SetD.zero = l[k] := by simp [show k < l.length by omega]
    have hu : atTo f l (k + 1) = if f l[k] then (k : Int) else atTo f l k := by rw [← hg]; rfl
    rw [hu] at h ⊢
    by_cases e : f l[k] = true
    · rw [if_pos e]
      exact ⟨l[k], by simp [List.getElem?_eq_getElem (show k < l.length by omega)], e⟩
    · rw [if_neg e] at h ⊢
      exact atTo_ge k (by omega) h
theorem atTo_neg {f : SetD → Bool} {l : List SetD} : ∀ k, k ≤ l.length → atTo f l k < 0 → ∀ i (hi : i < k) (hl : i < l.length), f l[i] = false
  | 0, _, _, i, hi, _ => absurd hi (by omega)
  | k + 1, hk, h, i, hi, hl => by
    simp only [atTo] at h
    have hg : l.getD k SetD.zero = l[k] := by simp [show k < l.length by omega]
    rw [hg] at h
    by_cases e : f l[k] = true
    · rw [if_pos e] at h; omega
    · rw [if_neg e] at h
      rcases Nat.eq_or_lt_of_le (Nat.le_of_lt_succ hi) with e' | e'
      · subst e'; simpa using e
      · exact atTo_neg k (by omega) h i e' hl
theorem addP_nodup {sets : List SetD} (h : (sets.map keyT).Nodup) (x : RecD) : ((addP sets x).map keyT).Nodup := by
  unfold addP
  split
  · split
    · rename_i hneg
      rw [List.map_append, List.nodup_append]
      refine ⟨h, by simp, fun a ha b hb => ?_⟩
      simp only [List.map_cons, List.map_nil, List.mem_singleton] at hb
      subst hb
      obtain ⟨s, hs, rfl⟩ := List.mem_map.1 ha
      obtain ⟨i, hi, rfl⟩ := List.getElem_of_mem hs
      have := atTo_neg _ (Nat.le_refl _) hneg i hi hi
      intro e
      rw [keyM_iff.2 e] at this; cases this
    · rw [keyT_modify]; exact h
  · exact h
theorem rawTo_nodup (l : List RecD) : ∀ k, k ≤ l.length → ((rawTo l k).map keyT).Nodup
  | 0, _ => by simp [rawTo]
  | k + 1, h => by rw [rawTo_step l k (by omega)]; exact addP_nodup (rawTo_nodup l k (by omega)) _
def RawBd (k B : Nat) (s : SetD) : Prop := (may s.name = true ∧ low s.name = s.name) ∧ s.data.length ≤ k ∧ (0 ≤ s.typ ∧ s.typ ≤ 65535) ∧ (0 ≤ s.cls ∧ s.cls ≤ 65535) ∧ ∀ d ∈ s.data, d.length ≤ B
theorem RawBd.mono {k k' B : Nat} {s : SetD} (h : RawBd k B s) (hk : k ≤ k') : RawBd k' B s := ⟨h.1, Nat.le_trans h.2.1 hk, h.2.2⟩
theorem fold_may {n : List UInt8} (h : may n = true) : may (fold n) = true ∧ low (fold n) = fold n := by
  unfold fold
  rw [if_pos h]
  exact ⟨by rw [may_low]; exact h, low_low n⟩
theorem rawTo_bd (l : List RecD) (B : Nat) (hB : ∀ r ∈ l, r.data.length ≤ B ∧ (0 ≤ r.typ ∧ r.typ ≤ 65535) ∧ (0 ≤ r.cls ∧ r.cls ≤ 65535)) : ∀ k, k ≤ l.length → ∀ s ∈ rawTo l k, RawBd k B s
  | 0, _ => by simp [rawTo]
  | k + 1, h => by
    rw [rawTo_step l k (by omega)]
    have ih := rawTo_bd l B hB k (by omega)
    have hx := hB l[k] (List.getElem_mem (by omega))
    have hr := rfold_len l[k].typ l[k].data
    intro s hs
    unfold addP at hs
    split at hs
    · rename_i hok
      have hm : may l[k].name = true := by unfold okRec at hok; simp only [Bool.and_eq_true] at hok; exact hok.1
      split at hs
      · rcases List.mem_append.1 hs with h1 | h1
        · exact (ih s h1).mono (by omega)
        · rw [List.mem_singleton] at h1; subst h1
          exact ⟨fold_may hm, by simp, hx.2.1, hx.2.2, by simp; omega⟩
      · rcases modify_mem hs with h1 | ⟨y, hy, rfl⟩
        · exact (ih s h1).mono (by omega)
        · have h2 := ih y hy
          refine ⟨h2.1, by simp [updP]; exact h2.2.1, h2.2.2.1, h2.2.2.2.1, fun d hd => ?_⟩
          simp only [updP, List.mem_append, List.mem_singleton] at hd
          rcases hd with hd | rfl
          · exact h2.2.2.2.2 d hd
          · omega
    · exact (ih s hs).mono (by omega)
theorem rawTo_len (l : List RecD) : ∀ k, k ≤ l.length → (rawTo l k).length ≤ k
  | 0, _ => by simp [rawTo]
  | k + 1, h => by
    rw [rawTo_step l k (by omega)]
    have := rawTo_len l k (by omega)
    unfold addP
    repeat' split
    all_goals simp
    all_goals omega

theorem keep3 {w0 V : World} {g : Nat} {a b c : Value} (hE : Ext w0 V) (hg : g < w0.heap.size) (h0 : w0.cell? ⟨g, 0, none⟩ = some a) (h1 : w0.cell? ⟨g, 1, none⟩ = some b) (h2 : w0.cell? ⟨g, 2, none⟩ = some c) : V.cell? ⟨g, 0, none⟩ = some a ∧ V.cell? ⟨g, 1, none⟩ = some b ∧ V.cell? ⟨g, 2, none⟩ = some c :=
  ⟨(hE.cell (p := ⟨g, 0, none⟩) hg).trans h0, (hE.cell (p := ⟨g, 1, none⟩) hg).trans h1, (hE.cell (p := ⟨g, 2, none⟩) hg).trans h2⟩
theorem own_map {w : World} {lo : Nat} {e : TypeId} {sz n c : Nat} {A : Option Addr} {xs : List Value} {b : Nat} {sets : List SetD} (h : Own w lo e sz A n c xs) (k : KMap w b sets) : (Value.slice A n c).ownBlock = none ∨ (Value.slice A n c).ownBlock ≠ some b := by
  obtain ⟨es, clock, hb, _⟩ := k
  rcases h.2 with ⟨h1, _⟩ | ⟨g, cap, cur, h1, _, hh, _⟩
  · injection h1 with h1; subst h1; exact .inl rfl
  · injection h1 with h1; subst h1
    refine .inr (fun e => ?_)
    have : g = b := by simpa [Value.ownBlock] using e
    subst this
    rw [hb] at hh; cases hh
theorem map_own {w : World} {lo : Nat} {e : TypeId} {sz n c : Nat} {A : Option Addr} {xs : List Value} {b : Nat} {sets : List SetD} (h : Own w lo e sz A n c xs) (k : KMap w b sets) : some b ≠ (Value.slice A n c).ownBlock := by
  intro e
  rcases own_map h k with h1 | h1
  · rw [h1] at e; cases e
  · exact h1 e.symm
abbrev newP (fn : List UInt8) (ty cl T : Int) : SetD × Value := (⟨fn, ty, cl, T, []⟩, .slice none 0 0)
theorem frozen_kept {w w' : World} {row : Option Nat} {g j : Nat} {b : Bool} (hg : w.grownBy w' row) (hlt : g < w.heap.size) (hne : some g ≠ row) (h : w.frozen? ⟨g, j, none⟩ = b) : w'.frozen? ⟨g, j, none⟩ = b :=
  (World.frozen?_of_block (hg.block g hlt hne)).trans h
structure GpInv (w : World) (sets : List SetD) (ps : List (SetD × Value)) (A : Option Addr) (c mb : Nat) (wr : World) : Prop where
  eq : ps.map Prod.fst = sets
  own : Own wr w.heap.size 79 5 A ps.length c (ps.flatMap setCells)
  datas : ∀ p ∈ ps, OStrs wr w.heap.size p.2 p.1.data
  apart : ps.Pairwise fun p q => p.2.ownBlock = none ∨ p.2.ownBlock ≠ q.2.ownBlock
  kmap : KMap wr mb sets
  mb : w.heap.size ≤ mb
  ext : Ext w wr
def RecsOk (l : List RecD) : Prop := ∀ r ∈ l, (0 ≤ r.typ ∧ r.typ ≤ 65535) ∧ (0 ≤ r.cls ∧ r.cls ≤ 65535)

theorem gp_step {w X w7 : World} {L' KS : List SetD} {PS : List (SetD × Value)} {g c J mb : Nat} {sn : List UInt8} {st sc sl : Int} {sd : List (List UInt8)} {dA : Option Addr} {dc : Nat} {fd : List UInt8} {A7 : Option Addr} {c7 : Nat} {old : Value}
    (hj : PS[J]? = some (⟨sn, st, sc, sl, sd⟩, .slice dA sd.length dc))
    (ho : Own X w.heap.size 79 5 (some ⟨g, 0, none⟩) PS.length c (PS.flatMap setCells)) (hd : ∀ p ∈ PS, OStrs X w.heap.size p.2 p.1.data)
    (hap : PS.Pairwise fun p q => p.2.ownBlock = none ∨ p.2.ownBlock ≠ q.2.ownBlock) (hk : KMap X mb KS) (hmb : w.heap.size ≤ mb) (hE : Ext w X)
    (hown7 : Own w7 w.heap.size 9 1 A7 (sd.length + 1) c7 (sd.map S ++ [fd].map S)) (hg7 : X.grownBy w7 (Value.slice dA sd.length dc).ownBlock) (hb7 : Below w.heap.size X w7)
    (hat7 : (Value.slice A7 (sd.length + 1) c7).ownBlock = (Value.slice dA sd.length dc).ownBlock ∨ (Value.slice A7 (sd.length + 1) c7).ownBlock = some X.heap.size)
    (hEnd : L' = (PS.set J (⟨sn, st, sc, sl, sd ++ [fd]⟩, old)).map Prod.fst) (hK : L'.map keyT = KS.map keyT) :
    GpInv w L' (PS.set J (⟨sn, st, sc, sl, sd ++ [fd]⟩, .slice A7 (sd.length + 1) c7)) (some ⟨g, 0, none⟩) c mb (w7.setCell ⟨g, J * 5 + 4, none⟩ (.slice A7 (sd.length + 1) c7)) := by
  have hJ : J < PS.length := (List.getElem?_eq_some_iff.1 hj).1
  have hjm := List.mem_of_getElem? hj
  have hdj := hd _ hjm
  dsimp only at hdj
  have hoD : Own X w.heap.size 9 1 dA sd.length dc (sd.map S) := by
    obtain ⟨B, d, e, h⟩ := hdj
    injection e with e1 _ e3
    subst e1 e3; exact h
  have hgw : w.heap.size ≤ g := (ho.blk g rfl).1
  have ho7 := ho.kept hg7 (own_ne ho hoD (by decide))
  have hn7 : OStrs w7 w.heap.size (.slice A7 (sd.length + 1) c7) (sd ++ [fd]) := ⟨A7, c7, by simp, by simpa using hown7⟩
  have hother : ∀ i (hi : i < PS.length), i ≠ J → PS[i].2.ownBlock = none ∨ PS[i].2.ownBlock ≠ (Value.slice dA sd.length dc).ownBlock := fun i hi hne => by
    have hje : PS[J] = (⟨sn, st, sc, sl, sd⟩, .slice dA sd.length dc) := (List.getElem?_eq_some_iff.1 hj).2
    rcases Nat.lt_or_gt_of_ne hne with h | h
    · have := List.pairwise_iff_getElem.1 hap i J hi hJ h
      rwa [hje] at this
    · have := List.pairwise_iff_getElem.1 hap J i hJ hi h
      rw [hje] at this
      dsimp only at this
      rcases hb : PS[i].2.ownBlock with _ | z
      · exact .inl rfl
      · right
        rcases this with h1 | h1
        · rw [h1]; simp
        · rw [hb] at h1; exact fun e => h1 e.symm
  refine ⟨?_, ?_, ?_, ?_, ?_, hmb, ?_⟩
  · rw [hEnd, List.map_set, List.map_set]
  · have h6 := ho7.stored (J * 5 + 4) (.slice A7 (sd.length + 1) c7) (by omega)
    rw [flat_set PS J (⟨sn, st, sc, sl, sd⟩, .slice dA sd.length dc) (⟨sn, st, sc, sl, sd⟩, .slice A7 (sd.length + 1) c7) 4 _ hj (by omega) rfl] at h6
    have e1 : (PS.set J (⟨sn, st, sc, sl, sd⟩, .slice A7 (sd.length + 1) c7)).flatMap setCells = (PS.set J (⟨sn, st, sc, sl, sd ++ [fd]⟩, .slice A7 (sd.length + 1) c7)).flatMap setCells := by
      rw [List.flatMap_def, List.flatMap_def, List.map_set, List.map_set]; rfl
    rw [e1] at h6
    rw [List.length_set]; exact h6
  · intro p hp
    obtain ⟨i, hi, rfl⟩ := List.getElem_of_mem hp
    rw [List.length_set] at hi
    rw [List.getElem_set]
    split
    · exact OStrs.set_other (p := ⟨g, _, none⟩) hn7 _ (ostrs_ne hn7 ho7)
    · rename_i hne
      have h7 := (hd PS[i] (List.getElem_mem hi)).kept hg7 (hother i hi (fun e => hne e.symm))
      exact OStrs.set_other (p := ⟨g, _, none⟩) h7 _ (ostrs_ne h7 ho7)
  · rw [List.pairwise_iff_getElem]
    intro i j hi hj' hij
    rw [List.length_set] at hi hj'
    rw [List.getElem_set, List.getElem_set]
    by_cases e1 : J = i
    · rw [if_pos e1, if_neg (by omega)]
      dsimp only
      have h8 := apart_step (hother j hj' (by omega)) (fun z hz => ((hd PS[j] (List.getElem_mem hj')).blk z hz).2) hat7
      rcases hb : (Value.slice A7 (sd.length + 1) c7).ownBlock with _ | z
      · exact .inl rfl
      · right
        rcases h8 with h9 | h9
        · rw [h9]; simp
        · rw [hb] at h9; exact fun e => h9 e.symm
    · rw [if_neg e1]
      by_cases e2 : J = j
      · rw [if_pos e2]
        exact apart_step (hother i hi (fun e => e1 e.symm)) (fun z hz => ((hd PS[i] (List.getElem_mem hi)).blk z hz).2) hat7
      · rw [if_neg e2]
        exact List.pairwise_iff_getElem.1 hap i j hi hj' hij
  · have hk7 := hk.kept hg7 (map_own hoD hk)
    exact (hk7.set (p := ⟨g, _, none⟩) (fun e => map_own ho7 hk7 (by simp [Value.ownBlock]; exact e)) _).congr hK
  · exact (Ext.then (lo := w.heap.size) hE hb7 (Nat.le_refl _)).setCell hgw _
def cleanS (s : SetD) : SetD := { s with data := Lib.compact (sortB s.data) }
def cleanTo (L : List SetD) (i : Nat) : List SetD := (L.take i).map cleanS ++ L.drop i
theorem cleanTo_step (L : List SetD) (i : Nat) (s : SetD) (h : (cleanTo L i)[i]? = some s) (hi : i < L.length) : cleanTo L (i + 1) = (cleanTo L i).set i (cleanS s) := by
  have hl : ((L.take i).map cleanS).length = i := by simp; omega
  have hs : s = L[i] := by
    unfold cleanTo at h
    rw [List.getElem?_append_right (by omega), hl, Nat.sub_self, List.getElem?_drop, Nat.add_zero, List.getElem?_eq_getElem hi] at h
    injection h with h; exact h.symm
  subst hs
  unfold cleanTo
  rw [take_snoc L i hi, List.map_append, List.set_append_right _ _ (by omega), hl, Nat.sub_self, List.drop_eq_getElem_cons hi, List.set_cons_zero]
  simp
structure ClInv (w : World) (L : List SetD) (n : Nat) (i : Nat) (ps : List (SetD × Value)) (A : Option Addr) (c : Nat) (wr : World) : Prop where
  len : ps.length = n
  eq : ps.map Prod.fst = cleanTo L i
  own : Own wr w.heap.size 79 5 A n c (ps.flatMap setCells)
  datas : ∀ p ∈ ps, OStrs wr w.heap.size p.2 p.1.data
  apart : ps.Pairwise fun p q => p.2.ownBlock = none ∨ p.2.ownBlock ≠ q.2.ownBlock
  ext : Ext w wr
theorem other_of {ps : List (SetD × Value)} {J : Nat} {s : SetD} {v : Value} (hap : ps.Pairwise fun p q => p.2.ownBlock = none ∨ p.2.ownBlock ≠ q.2.ownBlock) (hj : ps[J]? = some (s, v)) : ∀ i (hi : i < ps.length), i ≠ J → ps[i].2.ownBlock = none ∨ ps[i].2.ownBlock ≠ v.ownBlock := fun i hi hne => by
  have hJ : J < ps.length := (List.getElem?_eq_some_iff.1 hj).1
  have hje : ps[J] = (s, v) := (List.getElem?_eq_some_iff.1 hj).2
  rcases Nat.lt_or_gt_of_ne hne with h | h
  · have := List.pairwise_iff_getElem.1 hap i J hi hJ h
    rwa [hje] at this
  · have := List.pairwise_iff_getElem.1 hap J i hJ hi h
    rw [hje] at this
    dsimp only at this
    rcases hb : ps[i].2.ownBlock with _ | z
    · exact .inl rfl
    · right
      rcases this with h1 | h1
      · rw [h1]; simp
      · rw [hb] at h1; exact fun e => h1 e.symm
theorem ext_grownG {w a b : World} {row : Option Nat} (h : Ext w a) (hg : a.grownBy b row) (hr : ∀ k, row = some k → w.heap.size ≤ k) : Ext w b :=
  ⟨hg.os.trans h.os, hg.tape.trans h.tape, hg.output.trans h.output, Nat.le_trans h.size hg.size, fun k hk => (hg.block k (Nat.lt_of_lt_of_le hk h.size) (fun e => by have := hr k e.symm; omega)).trans (h.block k hk)⟩

theorem cl_step {w X w1 w2 : World} {L : List SetD} {n i : Nat} {ps : List (SetD × Value)} {g c : Nat} {sn : List UInt8} {st sc sl : Int} {sd : List (List UInt8)} {dv v' : Value}
    (hI : ClInv w L n i ps (some ⟨g, 0, none⟩) c X) (hn : n = L.length) (hi : i < n) (hj : ps[i]? = some (⟨sn, st, sc, sl, sd⟩, dv))
    (hg1 : X.grownBy w1 dv.ownBlock) (ho2 : OStrs w2 w.heap.size v' (Lib.compact (sortB sd))) (hg2 : w1.grownBy w2 dv.ownBlock) (hv : v'.ownBlock = dv.ownBlock) :
    ClInv w L n (i + 1) (ps.set i (⟨sn, st, sc, sl, Lib.compact (sortB sd)⟩, v')) (some ⟨g, 0, none⟩) c (w2.setCell ⟨g, i * 5 + 4, none⟩ v') := by
  have hJ : i < ps.length := (List.getElem?_eq_some_iff.1 hj).1
  have hdj := hI.datas _ (List.mem_of_getElem? hj)
  dsimp only at hdj
  have hgw : w.heap.size ≤ g := (hI.own.blk g rfl).1
  have hne : (Value.slice (some ⟨g, 0, none⟩) n c).ownBlock = none ∨ (Value.slice (some ⟨g, 0, none⟩) n c).ownBlock ≠ dv.ownBlock := by
    obtain ⟨B, d, rfl, ho⟩ := hdj
    exact own_ne hI.own ho (by decide)
  have ho7 := (hI.own.kept hg1 hne).kept hg2 hne
  have hblk : ∀ k, dv.ownBlock = some k → w.heap.size ≤ k := fun k hk => (hdj.blk k hk).1
  refine ⟨by simp [hI.len], ?_, ?_, ?_, ?_, ?_⟩
  · rw [cleanTo_step L i ⟨sn, st, sc, sl, sd⟩ (by rw [← hI.eq, List.getElem?_map, hj]; rfl) (by omega), ← hI.eq, List.map_set]; rfl
  · have h6 := ho7.stored (i * 5 + 4) v' (by omega)
    rw [flat_set ps i (⟨sn, st, sc, sl, sd⟩, dv) (⟨sn, st, sc, sl, sd⟩, v') 4 _ hj (by omega) rfl] at h6
    have e1 : (ps.set i (⟨sn, st, sc, sl, sd⟩, v')).flatMap setCells = (ps.set i (⟨sn, st, sc, sl, Lib.compact (sortB sd)⟩, v')).flatMap setCells := by
      rw [List.flatMap_def, List.flatMap_def, List.map_set, List.map_set]; rfl
    rw [e1] at h6
    exact h6
  · intro p hp
    obtain ⟨k, hk, rfl⟩ := List.getElem_of_mem hp
    rw [List.length_set] at hk
    rw [List.getElem_set]
    split
    · exact OStrs.set_other (p := ⟨g, _, none⟩) ho2 _ (ostrs_ne ho2 ho7)
    · rename_i hne'
      have hoth := other_of hI.apart hj k hk (fun e => hne' e.symm)
      have h7 := ((hI.datas ps[k] (List.getElem_mem hk)).kept hg1 hoth).kept hg2 hoth
      exact OStrs.set_other (p := ⟨g, _, none⟩) h7 _ (ostrs_ne h7 ho7)
  · have key : ∀ k (hk : k < ps.length), ((ps.set i (⟨sn, st, sc, sl, Lib.compact (sortB sd)⟩, v'))[k]'(by simpa using hk)).2.ownBlock = ps[k].2.ownBlock := fun k hk => by
      rw [List.getElem_set]
      split
      · rename_i e; subst e
        rw [(List.getElem?_eq_some_iff.1 hj).2]; exact hv
      · rfl
    have hap := hI.apart
    rw [List.pairwise_iff_getElem] at hap ⊢
    intro a b ha hb hab
    rw [List.length_set] at ha hb
    rw [key a ha, key b hb]
    exact hap a b ha hb hab
  · exact (ext_grownG (ext_grownG hI.ext hg1 hblk) hg2 hblk).setCell hgw _
structure GpMid (w wo : World) (l : List RecD) (k : Nat) (ty cl : Int) (da : List UInt8) (T : Int) (J g c : Nat) (PS : List (SetD × Value)) (sn : List UInt8) (sl : Int) (sd : List (List UInt8)) (dA : Option Addr) (dc : Nat) (KS : List SetD) (X : World) : Prop where
  jp : PS[J]? = some (⟨sn, ty, cl, sl, sd⟩, .slice dA sd.length dc)
  own : Own X w.heap.size 79 5 (some ⟨g, 0, none⟩) PS.length c (PS.flatMap setCells)
  datas : ∀ p ∈ PS, OStrs X w.heap.size p.2 p.1.data
  apart : PS.Pairwise fun p q => p.2.ownBlock = none ∨ p.2.ownBlock ≠ q.2.ownBlock
  kmap : KMap X w.heap.size KS
  ext : Ext w X
  b1 : X.cell? ⟨wo.heap.size, 1, none⟩ = some (.int .u16 ty)
  b4 : X.cell? ⟨wo.heap.size, 4, none⟩ = some (S da)
  gne : wo.heap.size ≠ g
  wo : wo.heap.size < X.heap.size
  len : PS.length ≤ 8192 ∧ sd.length ≤ 4096
  ends : rawTo l (k + 1) = (PS.set J (⟨sn, ty, cl, min sl T, sd ++ [rfold ty da]⟩, .slice none 0 0)).map Prod.fst
  keys : (rawTo l (k + 1)).map keyT = KS.map keyT

theorem mod_set {ps : List (SetD × Value)} {j : Nat} {s : SetD} {v : Value} (h : ps[j]? = some (s, v)) (f : SetD → SetD) (u : Value) : (ps.map Prod.fst).modify j f = (ps.set j (f s, u)).map Prod.fst := by
  apply List.ext_getElem?
  intro i
  have hj := (List.getElem?_eq_some_iff.1 h).1
  simp only [List.map_set, List.getElem?_set, List.getElem?_modify, List.getElem?_map, List.length_map]
  by_cases e : j = i
  · subst e
    rw [h, if_pos rfl, if_pos hj]; simp
  · rw [if_neg e]
    cases ps[i]? <;> simp [e]
theorem apart_set {PS : List (SetD × Value)} {J : Nat} {s : SetD} {v : Value} (h : PS.Pairwise fun p q => p.2.ownBlock = none ∨ p.2.ownBlock ≠ q.2.ownBlock) (hj : PS[J]? = some (s, v)) (s' : SetD) : (PS.set J (s', v)).Pairwise fun p q => p.2.ownBlock = none ∨ p.2.ownBlock ≠ q.2.ownBlock := by
  have hJ := (List.getElem?_eq_some_iff.1 hj).1
  have hje := (List.getElem?_eq_some_iff.1 hj).2
  have key : ∀ i (hi : i < PS.length), ((PS.set J (s', v))[i]'(by simpa using hi)).2 = PS[i].2 := fun i hi => by
    rw [List.getElem_set]
    split
    · rename_i e; subst e; rw [hje]
    · rfl
  rw [List.pairwise_iff_getElem] at h ⊢
  intro i j hi hj' hij
  rw [List.length_set] at hi hj'
  rw [key i hi, key j hj']
  exact h i j hi hj' hij

def GrPost (L : List SetD) (w : World) (e : Ending) (w' : World) : Prop := ∃ v R, e = .returned v ∧ R.Perm (L.map cleanS) ∧ RisesW R ∧ OSets w' w.heap.size v R ∧ Ext w w'

set_option maxHeartbeats 8000000 in
theorem rrset_group (lo : Nat) (v : Value) (l : List RecD) (w : World) (hg : Laid w) (h : Recs w lo v l) (hbd : RecsBd l) (hok : RecsOk l) :
    Calls Tryz.prog 41 #[v] w (GrPost (rawTo l l.length) w) := by
  obtain ⟨A0, c0, rfl, h1, h2, hrd⟩ := h
  unfold maxLen at h2
  have hl4 := hbd.1
  obtain ⟨i0, hi0, hz0, hz1, hz2⟩ := info_parts info_set
  obtain ⟨j0, hj0, hy0, hy1, hy2⟩ := info_parts info_str
  have hLb := rawTo_bd l 300000 (fun r hr => ⟨(hbd.2 r hr).2, hok r hr⟩) l.length (Nat.le_refl _)
  have hLl := rawTo_len l l.length (Nat.le_refl _)
  obtain ⟨L0, hL0⟩ : ∃ L0, L0 = rawTo l l.length := ⟨_, rfl⟩
  rw [← hL0]
  rw [← hL0] at hLb hLl
  have HL0 := Lib.hid hL0
  clear hL0
  have hmm := @run_makeMap Tryz.prog
  go_enter Tryz.func41, Tryz.ntmps41
  go_wp2_with fail
  clear hmm
  go_loopw [4, 15] (fun s i wr => ∃ (k : Nat) (ps : List (SetD × Value)) (A : Option Addr) (c : Nat), k ≤ l.length ∧ i = .int .i64 k ∧ s = .slice A ps.length c ∧ GpInv w (rawTo l k) ps A c w.heap.size wr) (fun _ i _ => l.length - (intOf i).toNat)
  case atStart => exact ⟨0, [], none, 0, by omega, rfl, rfl, ⟨rfl, Own.nil _ _ _ _, by simp, List.Pairwise.nil, KMap.made w, Nat.le_refl _, (Ext.refl _).alloc _⟩⟩
  case round =>
    obtain ⟨k, ps, A, c, hk, rfl, rfl, hI⟩ := hrel
    obtain ⟨wo, rfl⟩ : ∃ wo : World, wo = wr := ⟨_, rfl⟩
    have hEo := hI.ext
    by_cases hlt : k < l.length
    · obtain ⟨b, off, rfl, _, hbz, hc⟩ := hrd.2 (by omega)
      have hcs := recs_cells hc k l[k] (List.getElem?_eq_getElem hlt)
      have hxb := hbd.2 l[k] (List.getElem_mem hlt)
      have hxo := hok l[k] (List.getElem_mem hlt)
      have hGs := rawTo_step l k hlt
      have hsb := rawTo_bd l 300000 (fun r hr => ⟨(hbd.2 r hr).2, hok r hr⟩) k hk
      have hgl := rawTo_len l k hk
      have hnd := rawTo_nodup l k hk
      generalize l[k] = x at *
      have hsets := hI.eq
      generalize rawTo l k = sets at *
      have hpl : ps.length = sets.length := by rw [← hsets]; simp
      obtain ⟨nm, ty, cl, tt, da⟩ := x
      dsimp only at *
      obtain ⟨x0, x1, x2, x3, x4⟩ := hcs
      rw [← hEo.cell (p := ⟨b, _, none⟩) hbz] at x0 x1 x2 x3 x4
      have hbz2 : b < wo.heap.size := Nat.lt_of_lt_of_le hbz hEo.size
      have hki : (k : Int) < (l.length : Int) := by omega
      have hk0 : (0 : Int) ≤ (k : Int) := by omega
      have hpsb : ps.length ≤ 4096 := by omega
      have HGs := Lib.hid hGs
      have Hsets := Lib.hid hsets
      have Hpl := Lib.hid hpl
      clear hc hGs hsets hpl
      have HM := Lib.hid (fun W => name_may nm W (by unfold maxLen; omega))
      have HRM := Lib.hid (fun W (hW : Ext w W) => rdata_may ty da W (hg.ext hW) (by omega))
      have HF := Lib.hid (fun W => name_fold nm W (by unfold maxLen; omega))
      have HRF := Lib.hid (fun W (hW : Ext w W) => rdata_fold ty da W (hg.ext hW) (by omega))
      by_cases hm : may nm = true
      · rw [hm] at HM
        by_cases hrm : rmay ty da = true
        · rw [hrm] at HRM
          have HOk := Lib.hid (show okRec ⟨nm, ty, cl, tt, da⟩ = true by simp [okRec, hm, hrm])
          go_wp2_with fail
          refine (HM.out _).mono ?_; rintro e w' ⟨rfl, rfl⟩
          go_wp2_with fail
          refine (HRM.out _ (hEo.trans ((Ext.refl _).alloc _))).mono ?_; rintro e w2 ⟨rfl, hE2⟩
          obtain ⟨hq, hqf, hqz⟩ := ext_new hE2
          have q0 : w2.cell? ⟨wo.heap.size, 0, none⟩ = some (S nm) := hq 0
          have q1 : w2.cell? ⟨wo.heap.size, 1, none⟩ = some (.int .u16 ty) := hq 1
          have q2 : w2.cell? ⟨wo.heap.size, 2, none⟩ = some (.int .u16 cl) := hq 2
          have q3 : w2.cell? ⟨wo.heap.size, 3, none⟩ = some (.int .u32 tt) := hq 3
          have q4 : w2.cell? ⟨wo.heap.size, 4, none⟩ = some (S da) := hq 4
          clear hq hqf
          go_upto_if 37 with (fail)
          go_cut [7] (fun s7 wx => s7 = .int .u32 (timeT tt) ∧ w2 = wx)
          case first =>
            by_cases htt : 2147483647 < tt
            · have HTt : Hid (timeT tt = 0) := by show timeT tt = _; unfold timeT; rw [if_pos htt]
              go_wp2_with fail
              go_meet
              exact ⟨by rw [HTt.out], rfl⟩
            · have HTt : Hid (timeT tt = tt) := by show timeT tt = _; unfold timeT; rw [if_neg htt]
              have htd : decide (2147483647 < tt) = false := by simpa using htt
              go_wp2_with fail
              go_meet
              exact ⟨by rw [HTt.out], rfl⟩
          case rest =>
            obtain ⟨rfl, rfl⟩ := hcut
            go_upto_region 11 with fail
            go_cut [8] (fun s8 wx => ∃ gk : Nat, s8 = .pointer (some ⟨gk, 0, none⟩) ∧ wx.cell? ⟨gk, 0, none⟩ = some (S (fold nm)) ∧ wx.cell? ⟨gk, 1, none⟩ = some (.int .u16 ty) ∧ wx.cell? ⟨gk, 2, none⟩ = some (.int .u16 cl) ∧ w2.heap.size ≤ gk ∧ gk < wx.heap.size ∧ Ext w2 wx)
            case first =>
              go_region_held3 (fun V => V.cell? ⟨wo.heap.size, 0, none⟩ = some (S nm) ∧ V.cell? ⟨wo.heap.size, 1, none⟩ = some (.int .u16 ty) ∧ V.cell? ⟨wo.heap.size, 2, none⟩ = some (.int .u16 cl))
                (first | go_keep | exact keep3 (by (repeat (first | (with_reducible exact Ext.trans (by (repeat (first | with_reducible exact Ext.refl _ | with_reducible assumption | with_reducible refine Ext.alloc ?_ _ | with_reducible refine Ext.drewN ?_ _ | with_reducible refine Ext.drew ?_ | (with_reducible refine Ext.setCell ?_ ?hp _; case hp => (simp <;> omega))))) hE3) | with_reducible exact Ext.refl _ | with_reducible refine Ext.alloc ?_ _ | with_reducible refine Ext.drew ?_ | (with_reducible refine Ext.setCell ?_ ?hp _; case hp => (simp <;> omega))))) hqz q0 q1 q2)
                (first | (go_at_call 19; refine (HF.out _).mono ?_; rintro e w3 ⟨rfl, hE3⟩; try (obtain ⟨hz, hzf, hzz⟩ := ext_new (Ext.of_drewN 1 hE3); have z0 : w3.cell? ⟨w2.heap.size, 0, none⟩ = some (S []) := hz 0; have z1 : w3.cell? ⟨w2.heap.size, 1, none⟩ = some (.int .u16 0) := hz 1; have z2 : w3.cell? ⟨w2.heap.size, 2, none⟩ = some (.int .u16 0) := hz 2; have y0 := hzf 0; have y1 := hzf 1; have y2 := hzf 2; clear hz hzf)))
              all_goals
                go_wp2_with fail
                go_meet
                first
                  | exact ⟨w2.heap.size, rfl, by rw [World.cell?_setCell_other _ _ _ _ (by simp), World.cell?_setCell_other _ _ _ _ (by simp)]; exact World.cell?_setCell_same _ _ _ z0, by rw [World.cell?_setCell_other _ _ _ _ (by simp)]; exact World.cell?_setCell_same _ _ _ ((World.cell?_setCell_other _ _ _ _ (by simp)).trans z1), World.cell?_setCell_same _ _ _ ((World.cell?_setCell_other _ _ _ _ (by simp)).trans ((World.cell?_setCell_other _ _ _ _ (by simp)).trans z2)), Nat.le_refl _, by simp; exact hzz, (((Ext.trans ((Ext.refl w2).alloc _) (Ext.of_drewN 1 hE3)).setCell (Nat.le_refl _) _).setCell (Nat.le_refl _) _).setCell (Nat.le_refl _) _⟩
                  | exact ⟨w3.heap.size, rfl, by simp, by simp, by simp, (Ext.of_drewN 1 hE3).size, by simp, (Ext.of_drewN 1 hE3).alloc _⟩
            case rest =>
              obtain ⟨gk, rfl, kc0, kc1, kc2, hgk, hgk2, hE2W⟩ := hcut
              obtain ⟨W, rfl⟩ : ∃ W : World, W = wc := ⟨_, rfl⟩
              have hEow : Ext wo W := (((Ext.refl wo).alloc _).trans hE2).trans hE2W
              have r1 := (hE2W.cell (p := ⟨wo.heap.size, 1, none⟩) hqz).trans q1
              have r2 := (hE2W.cell (p := ⟨wo.heap.size, 2, none⟩) hqz).trans q2
              have r3 := (hE2W.cell (p := ⟨wo.heap.size, 4, none⟩) hqz).trans q4
              have hgk3 : wo.heap.size < gk := Nat.lt_of_lt_of_le hqz hgk
              have hEwW : Ext w W := hEo.trans hEow
              have hownW := hI.own.ext hEow
              have hdatW : ∀ p ∈ ps, OStrs W w.heap.size p.2 p.1.data := fun p hp => (hI.datas p hp).ext hEow
              have hkmW := hI.kmap.ext hEow
              have hwoW : wo.heap.size < W.heap.size := Nat.lt_of_lt_of_le hqz hE2W.size
              have hmbo : w.heap.size < wo.heap.size := hI.kmap.lt
              have hfn := fold_le nm
              have HA := Lib.hid (show addP sets ⟨nm, ty, cl, tt, da⟩ = if atTo (keyM (fold nm) ty cl) sets sets.length < 0 then sets ++ [⟨fold nm, ty, cl, timeT tt, [rfold ty da]⟩] else sets.modify (atTo (keyM (fold nm) ty cl) sets sets.length).toNat (updP (timeT tt) (rfold ty da)) by unfold addP; rw [HOk.out, if_pos rfl])
              generalize timeT tt = T at *
              clear hE2 hE2W hqz hgk HF HM HRM q0 q1 q2 q3 q4
              obtain ⟨aj, bj, hlook, hcase⟩ : ∃ (aj : Int) (bj : Bool), (Instr.lookup 152 (.map (some w.heap.size)) (keyV (fold nm) ty cl) true).run Tryz.prog W = .ok (.tuple #[.int .i64 aj, .bool bj]) W ∧ Hid ((bj = false ∧ ∀ s ∈ sets, keyM (fold nm) ty cl s = false) ∨ (bj = true ∧ ∃ (j : Nat) (s : SetD), aj = j ∧ sets[j]? = some s ∧ keyM (fold nm) ty cl s = true)) := by
                rcases hkmW.look (fold nm) ty cl (by unfold maxLen; omega) hxo.1 hxo.2 with ⟨h1, h2⟩ | ⟨j, sj, h1, h2, h3⟩
                · exact ⟨_, _, h1, .inl ⟨rfl, h2⟩⟩
                · exact ⟨_, _, h1, .inr ⟨rfl, j, sj, rfl, h2, h3⟩⟩
              go_upto_if 53 with (fail)
              go_cut [4, 9] (fun s4 s9 wx => ∃ (J g c' : Nat) (PS : List (SetD × Value)) (sn : List UInt8) (sl : Int) (sd : List (List UInt8)) (dA : Option Addr) (dc : Nat) (KS : List SetD), s4 = .slice (some ⟨g, 0, none⟩) PS.length c' ∧ s9 = .int .i64 J ∧ GpMid w wo l k ty cl da T J g c' PS sn sl sd dA dc KS wx)
              case first =>
                have Hc := hcase
                clear hcase
                rcases bj with _ | _
                · have hno : ∀ s ∈ sets, keyM (fold nm) ty cl s = false := by
                    rcases Hc.out with ⟨_, h⟩ | ⟨h, _⟩
                    · exact h
                    · cases h
                  have HF1 := Lib.hid (HGs.out.trans (HA.out.trans (if_pos (by rw [atTo_none hno _ (Nat.le_refl _)]; omega))))
                  obtain ⟨W1, hup, hkm1, hgr1⟩ := hkmW.store ⟨fold nm, ty, cl, T, [rfold ty da]⟩ ⟨by unfold maxLen; dsimp only; omega, hxo.1, hxo.2⟩ hno
                  rw [← Hpl.out] at hup
                  unfold keyS at hup
                  dsimp only at hup
                  clear hlook
                  generalize fold nm = fn at *
                  have hne : ∀ g, g ≠ w.heap.size → some g ≠ some w.heap.size := fun g h e => h (by injection e)
                  have k0 := hgr1.cell kc0 (hne _ (by dsimp only; omega))
                  have s1 := hgr1.cell r1 (hne _ (by dsimp only; omega))
                  have s2 := hgr1.cell r2 (hne _ (by dsimp only; omega))
                  have s3 := hgr1.cell r3 (hne _ (by dsimp only; omega))
                  have hE1w : Ext w W1 := ⟨hgr1.os.trans hEwW.os, hgr1.tape.trans hEwW.tape, hgr1.output.trans hEwW.output, Nat.le_trans hEwW.size hgr1.size, fun k hk => (hgr1.block k (Nat.lt_of_lt_of_le hk hEwW.size) (hne _ (by omega))).trans (hEwW.block k hk)⟩
                  have hown1 := hownW.kept hgr1 (own_map hownW hkmW)
                  have hdat1 : ∀ p ∈ ps, OStrs W1 w.heap.size p.2 p.1.data := fun p hp => by
                    obtain ⟨B, d, e, ho⟩ := hdatW p hp
                    exact ⟨B, d, e, ho.kept hgr1 (own_map ho hkmW)⟩
                  have hw1 : wo.heap.size < W1.heap.size := Nat.lt_of_lt_of_le hwoW hgr1.size
                  have hgk1 : gk < W1.heap.size := Nat.lt_of_lt_of_le hgk2 hgr1.size
                  clear hkmW hownW hdatW hgr1 r1 r2 r3 hwoW
                  have hab : some wo.heap.size ≠ (Value.slice A ps.length c).ownBlock := fun e => absurd (hI.own.blk _ e.symm).2 (Nat.lt_irrefl _)
                  go_wp2_with (at_builtin; refine wpList_app _ rfl (.tmp 59) (.tmp 68) _ rfl w.heap.size 79 i0 _ 5 48 Tryz.underlying22 hi0 hz0 hz1 hz2 rfl (by omega) A ps.length c (ps.flatMap setCells) rfl (hown1.ext ((Ext.refl _).alloc _)) 0 _ 1 1 (setCells (newP fn ty cl T)) rfl (rd_new _ _ (by simp) _ _ 1 5 rfl) (set_oneS _ _ _ _) (by omega) (by omega) (by have := hE1w.size; simp; omega) ?_; intro A5 c5 w5 hown5 hg5 hb5 hat5)
                  have hal : Ext W1 (W1.alloc (.cells (setCells (newP fn ty cl T)).toArray 79)) := (Ext.refl _).alloc _
                  have hE5 : Ext w w5 := Ext.then (lo := w.heap.size) (hE1w.trans hal) hb5 (Nat.le_refl _)
                  obtain ⟨g5, hA5, hgw5, hgz5, hgf5, hgc5⟩ := hown5.addr (by omega)
                  subst hA5
                  have hPl : (ps ++ [newP fn ty cl T]).length = ps.length + 1 := by simp
                  have hoA : Own w5 w.heap.size 79 5 (some ⟨g5, 0, none⟩) (ps ++ [newP fn ty cl T]).length c5 ((ps ++ [newP fn ty cl T]).flatMap setCells) := by rw [hPl, List.flatMap_append]; simpa using hown5
                  go_meet
                  refine ⟨ps.length, g5, c5, ps ++ [newP fn ty cl T], fn, T, [], none, 0, sets ++ [⟨fn, ty, cl, T, [rfold ty da]⟩], by rw [hPl], rfl, ⟨by simp, hoA, fun p hp => ?_, ?_, (hkm1.ext hal).kept hg5 (map_own hown1 hkm1), hE5, ?_, ?_, fun e => ?_, Nat.lt_of_lt_of_le hw1 (Nat.le_trans hal.size hb5.size), by rw [hPl]; simp; omega, ?_, by rw [HF1.out]⟩⟩
                  · rcases List.mem_append.1 hp with h | h
                    · exact ((hdat1 p h).ext hal).kept hg5 (ostrs_ne (hdat1 p h) hown1)
                    · rw [List.mem_singleton] at h; subst h; exact ⟨none, 0, rfl, Own.nil _ _ _ _⟩
                  · rw [List.pairwise_append]
                    refine ⟨hI.apart, by simp, fun p hp q hq => ?_⟩
                    rw [List.mem_singleton] at hq; subst hq
                    rcases hb : p.2.ownBlock with _ | z
                    · exact .inl rfl
                    · exact .inr (by simp [Value.ownBlock])
                  · exact hg5.cell (a := ⟨wo.heap.size, 1, none⟩) ((hal.cell (p := ⟨wo.heap.size, 1, none⟩) hw1).trans s1) hab
                  · exact hg5.cell (a := ⟨wo.heap.size, 4, none⟩) ((hal.cell (p := ⟨wo.heap.size, 4, none⟩) hw1).trans s3) hab
                  · rcases hat5 with h | h
                    · exact hab (by rw [← h]; simp [Value.ownBlock, e])
                    · simp [Value.ownBlock] at h; omega
                  · rw [HF1.out, ← Hsets.out]; simp [newP]
                · obtain ⟨j, s, haj, hsj, hkj⟩ : ∃ (j : Nat) (s : SetD), aj = j ∧ sets[j]? = some s ∧ keyM (fold nm) ty cl s = true := by
                    rcases Hc.out with ⟨h, _⟩ | ⟨_, h⟩
                    · cases h
                    · exact h
                  have hjl : j < sets.length := (List.getElem?_eq_some_iff.1 hsj).1
                  have hjp : j < ps.length := by rw [Hpl.out]; exact hjl
                  have HF1 := Lib.hid (HGs.out.trans (HA.out.trans (if_neg (by rw [atTo_one hnd hsj hkj _ hjl (Nat.le_refl _)]; omega))))
                  rw [atTo_one hnd hsj hkj _ hjl (Nat.le_refl _), Int.toNat_natCast] at HF1
                  have hpe : ps[j].1 = s := by
                    have := hsj
                    rw [← Hsets.out] at this
                    simpa [hjp] using this
                  have hdj := hdatW ps[j] (List.getElem_mem hjp)
                  have hbj := hsb s (List.mem_of_getElem? hsj)
                  obtain ⟨dA, dc, hdv⟩ := hdj.strs.shape
                  rw [hpe] at hdv
                  have hps : ps[j]? = some (s, .slice dA s.data.length dc) := by
                    rw [List.getElem?_eq_getElem hjp]
                    exact congrArg some (Prod.ext hpe hdv)
                  rw [keyM_iff] at hkj
                  obtain ⟨sn, st, sc, sl, sd⟩ := s
                  simp only [keyT, Prod.mk.injEq] at hkj
                  obtain ⟨e1, e2, e3⟩ := hkj
                  subst e2 e3
                  obtain ⟨g, hA, hgw, hgz, _, _⟩ := hownW.addr (by omega)
                  subst hA
                  have hgb : wo.heap.size ≠ g := fun e => absurd (hI.own.blk g rfl).2 (by omega)
                  have Hjl := Lib.hid haj
                  subst haj
                  clear hpe hdj hdv Hc Hjl hlook
                  go_wp2_with fail
                  go_meet
                  refine ⟨j, g, c, ps, sn, sl, sd, dA, dc, sets, rfl, rfl, ⟨hps, hownW, hdatW, hI.apart, hkmW, hEwW, r1, r3, hgb, hwoW, ⟨by omega, by have := hbj.2.1; dsimp only at this; omega⟩, ?_, by rw [HF1.out]; exact keyT_modify _ _ _ _⟩⟩
                  rw [HF1.out, ← Hsets.out]
                  exact mod_set hps (updP T _) _
              case rest =>
                obtain ⟨J, g, c', PS, sn, sl, sd, dA, dc, KS, rfl, rfl, hM⟩ := hcut
                obtain ⟨X0, rfl⟩ : ∃ X0 : World, X0 = wc := ⟨_, rfl⟩
                have hJ : J < PS.length := (List.getElem?_eq_some_iff.1 hM.jp).1
                obtain ⟨g', eg, hgw, hgz, hgf, hgc⟩ := hM.own.addr (by omega)
                injection eg with eg
                injection eg with eg _ _
                subst eg
                have hcs := sets_cells (off := 0) (fun j u hu => by rw [Nat.zero_add]; exact hgc j u hu) J _ hM.jp
                simp only [Nat.zero_add] at hcs
                obtain ⟨_, _, _, y3, y4⟩ := hcs
                have f3 := hgf (J * 5 + 3)
                have f4 := hgf (J * 5 + 4)
                have b1 := hM.b1
                have b4 := hM.b4
                have hgne := hM.gne
                have hlen := hM.len
                have hJi : (J : Int) < (PS.length : Int) := by omega
                have hJ0 : (0 : Int) ≤ (J : Int) := by omega
                clear hgc hgf kc0 kc1 kc2 hlook hcase hkmW hownW hdatW r1 r2 r3
                go_upto_region 18 with fail
                have hst := hM.own.stored (J * 5 + 3) (.int .u32 (min sl T)) (by omega)
                rw [flat_set PS J _ (⟨sn, ty, cl, min sl T, sd⟩, .slice dA sd.length dc) 3 _ hM.jp (by omega) rfl] at hst
                have hdX : ∀ p ∈ PS.set J (⟨sn, ty, cl, min sl T, sd⟩, .slice dA sd.length dc), OStrs (X0.setCell ⟨g, J * 5 + 3, none⟩ (.int .u32 (min sl T))) w.heap.size p.2 p.1.data := fun p hp => by
                  rcases List.mem_or_eq_of_mem_set hp with h | h
                  · exact (hM.datas p h).set_other (p := ⟨g, _, none⟩) _ (ostrs_ne (hM.datas p h) hM.own)
                  · subst h
                    have h8 := hM.datas _ (List.mem_of_getElem? hM.jp)
                    exact OStrs.set_other (p := ⟨g, _, none⟩) h8 _ (ostrs_ne h8 hM.own)
                have hkX : KMap (X0.setCell ⟨g, J * 5 + 3, none⟩ (.int .u32 (min sl T))) w.heap.size KS := hM.kmap.set (p := ⟨g, _, none⟩) (fun e => map_own hM.own hM.kmap (by simp [Value.ownBlock]; exact e)) _
                have hEX : Ext w (X0.setCell ⟨g, J * 5 + 3, none⟩ (.int .u32 (min sl T))) := hM.ext.setCell hgw _
                have HjP := Lib.hid (show (PS.set J (⟨sn, ty, cl, min sl T, sd⟩, .slice dA sd.length dc))[J]? = some (⟨sn, ty, cl, min sl T, sd⟩, .slice dA sd.length dc) from List.getElem?_set_self hJ)
                have HapA := Lib.hid (apart_set hM.apart hM.jp (⟨sn, ty, cl, min sl T, sd⟩ : SetD))
                have HEnd := Lib.hid (show rawTo l (k + 1) = ((PS.set J (⟨sn, ty, cl, min sl T, sd⟩, .slice dA sd.length dc)).set J (⟨sn, ty, cl, min sl T, sd ++ [rfold ty da]⟩, .slice none 0 0)).map Prod.fst by rw [List.set_set]; exact hM.ends)
                have HK := Lib.hid hM.keys
                have HPl := Lib.hid (show (PS.set J (⟨sn, ty, cl, min sl T, sd⟩, .slice dA sd.length dc)).length = PS.length by simp)
                have yJ4 : (X0.setCell ⟨g, J * 5 + 3, none⟩ (.int .u32 (min sl T))).cell? ⟨g, J * 5 + 4, none⟩ = some (.slice dA sd.length dc) := (World.cell?_setCell_other _ _ _ _ (by simp)).trans y4
                have fJ4 : (X0.setCell ⟨g, J * 5 + 3, none⟩ (.int .u32 (min sl T))).frozen? ⟨g, J * 5 + 4, none⟩ = false := (World.frozen?_setCell _ _ _ _).trans f4
                have b1' := (World.cell?_setCell_far X0 ⟨g, J * 5 + 3, none⟩ ⟨wo.heap.size, 1, none⟩ (.int .u32 (min sl T)) (by simp; omega)).trans b1
                have b4' := (World.cell?_setCell_far X0 ⟨g, J * 5 + 3, none⟩ ⟨wo.heap.size, 4, none⟩ (.int .u32 (min sl T)) (by simp; omega)).trans b4
                have hgX : g < (X0.setCell ⟨g, J * 5 + 3, none⟩ (.int .u32 (min sl T))).heap.size := by simp; exact hgz
                have hwX : wo.heap.size < (X0.setCell ⟨g, J * 5 + 3, none⟩ (.int .u32 (min sl T))).heap.size := by simp; exact hM.wo
                have hl7 : ∀ q, ((PS.set J (⟨sn, ty, cl, min sl T, sd⟩, .slice dA sd.length dc)).set J q).length = PS.length := fun q => by simp
                generalize X0.setCell ⟨g, J * 5 + 3, none⟩ (.int .u32 (min sl T)) = X at *
                generalize PS.set J (⟨sn, ty, cl, min sl T, sd⟩, .slice dA sd.length dc) = PT at *
                clear hM b1 b4 y3 y4 f3 f4 hgz
                have HRFX := Lib.hid (fun V (hV : Ext X V) => HRF.out V (hEX.trans hV))
                have hfdl := rfold_len ty da
                generalize rfold ty da = fd at *
                have hoD : Own X w.heap.size 9 1 dA sd.length dc (sd.map S) := by
                  obtain ⟨B, d, e, h⟩ := hdX _ (List.mem_of_getElem? HjP.out)
                  injection e with e1 _ e3
                  subst e1 e3; exact h
                have hnb : some g ≠ (Value.slice dA sd.length dc).ownBlock := fun e => by
                  rcases own_ne hst hoD (by decide) with h | h
                  · simp [Value.ownBlock] at h
                  · exact h e
                have hdl := hlen.2
                go_region_law (first
                  | (go_simp; go_at_call 80; refine (HRFX.out _ (by (repeat (first | with_reducible exact Ext.refl _ | with_reducible assumption | with_reducible refine Ext.alloc ?_ _ | with_reducible refine Ext.drewN ?_ _ | with_reducible refine Ext.drew ?_ | (with_reducible refine Ext.setCell ?_ ?hp _; case hp => (simp <;> omega)))))).mono ?_; rintro e w6 ⟨rfl, hE6⟩; have y6 := ((Ext.trans (by (repeat (first | with_reducible exact Ext.refl _ | with_reducible assumption | with_reducible refine Ext.alloc ?_ _ | with_reducible refine Ext.drewN ?_ _ | with_reducible refine Ext.drew ?_ | (with_reducible refine Ext.setCell ?_ ?hp _; case hp => (simp <;> omega))))) hE6 : Ext X w6).cell (p := ⟨g, J * 5 + 4, none⟩) hgX).trans yJ4; have hg6 : g < w6.heap.size := Nat.lt_of_lt_of_le hgX (Ext.trans (by (repeat (first | with_reducible exact Ext.refl _ | with_reducible assumption | with_reducible refine Ext.alloc ?_ _ | with_reducible refine Ext.drewN ?_ _ | with_reducible refine Ext.drew ?_ | (with_reducible refine Ext.setCell ?_ ?hp _; case hp => (simp <;> omega))))) hE6 : Ext X w6).size)
                  | (refine step_app _ (by rfl) (.tmp 87) (.tmp 93) _ (by rfl) w.heap.size 9 j0 _ 1 16 Tryz.underlying77 hj0 hy0 hy1 hy2 rfl (by omega) dA sd.length dc (sd.map S) (by rfl) (by exact hoD.ext (by (repeat (first | (with_reducible exact Ext.trans (by (repeat (first | with_reducible exact Ext.refl _ | with_reducible assumption | with_reducible refine Ext.alloc ?_ _ | with_reducible refine Ext.drewN ?_ _ | with_reducible refine Ext.drew ?_ | (with_reducible refine Ext.setCell ?_ ?hp _; case hp => (simp <;> omega))))) hE6) | with_reducible exact Ext.refl _ | with_reducible refine Ext.alloc ?_ _ | with_reducible refine Ext.drew ?_)))) 0 _ 1 1 ([fd].map S) (by rfl) (by exact rd_new _ _ rfl _ _ 1 1 rfl) (str_one _) (by omega) (by omega) (by have := hEX.size; have := (Ext.trans (by (repeat (first | with_reducible exact Ext.refl _ | with_reducible assumption | with_reducible refine Ext.alloc ?_ _ | with_reducible refine Ext.drewN ?_ _ | with_reducible refine Ext.drew ?_ | (with_reducible refine Ext.setCell ?_ ?hp _; case hp => (simp <;> omega))))) hE6 : Ext X w6).size; simp; omega) ?_; intro A7 c7 w7 hown7 hg7 hb7 hat7
                     have y7 := hg7.cell ((((Ext.trans (by (repeat (first | with_reducible exact Ext.refl _ | with_reducible assumption | with_reducible refine Ext.alloc ?_ _ | with_reducible refine Ext.drewN ?_ _ | with_reducible refine Ext.drew ?_ | (with_reducible refine Ext.setCell ?_ ?hp _; case hp => (simp <;> omega))))) hE6 : Ext X w6).alloc (.cells #[S fd] 9)).cell (p := ⟨g, J * 5 + 4, none⟩) hgX).trans yJ4) hnb
                     have f7 := frozen_kept hg7 (Nat.lt_of_lt_of_le hgX ((Ext.trans (by (repeat (first | with_reducible exact Ext.refl _ | with_reducible assumption | with_reducible refine Ext.alloc ?_ _ | with_reducible refine Ext.drewN ?_ _ | with_reducible refine Ext.drew ?_ | (with_reducible refine Ext.setCell ?_ ?hp _; case hp => (simp <;> omega))))) hE6 : Ext X w6).alloc (.cells #[S fd] 9)).size) hnb ((((Ext.trans (by (repeat (first | with_reducible exact Ext.refl _ | with_reducible assumption | with_reducible refine Ext.alloc ?_ _ | with_reducible refine Ext.drewN ?_ _ | with_reducible refine Ext.drew ?_ | (with_reducible refine Ext.setCell ?_ ?hp _; case hp => (simp <;> omega))))) hE6 : Ext X w6).alloc (.cells #[S fd] 9)).frozen (p := ⟨g, J * 5 + 4, none⟩) hgX).trans fJ4)))
                all_goals
                  have hXY : Ext X (w6.alloc (.cells #[S fd] 9)) := (Ext.trans (by (repeat (first | with_reducible exact Ext.refl _ | with_reducible assumption | with_reducible refine Ext.alloc ?_ _ | with_reducible refine Ext.drewN ?_ _ | with_reducible refine Ext.drew ?_ | (with_reducible refine Ext.setCell ?_ ?hp _; case hp => (simp <;> omega))))) hE6 : Ext X w6).alloc _
                  have hst2 := hst.ext hXY
                  rw [← HPl.out] at hst2
                  have hI7 := gp_step HjP.out hst2 (fun p hp => (hdX p hp).ext hXY) HapA.out (hkX.ext hXY) (Nat.le_refl _) (hEX.trans hXY) hown7 hg7 hb7 hat7 HEnd.out HK.out
                  clear hXY hown7 hg7 hb7 hat7 hst hst2 hdX hkX hEX hoD
                  go_wp2_with fail
                  go_roundw
                  case rel => exact ⟨k + 1, _, some ⟨g, 0, none⟩, c', by omega, by go_num, by rw [hl7], hI7⟩
                  case measure => simp [intOf]; omega
        · have hrm' : rmay ty da = false := by simpa using hrm
          rw [hrm'] at HRM
          have HOk := Lib.hid (show addP sets ⟨nm, ty, cl, tt, da⟩ = sets by unfold addP; rw [show okRec ⟨nm, ty, cl, tt, da⟩ = false by simp [okRec, hm, hrm'], if_neg (by simp)])
          clear hrm
          go_wp2_with fail
          refine (HM.out _).mono ?_; rintro e w' ⟨rfl, rfl⟩
          go_wp2_with fail
          refine (HRM.out _ (hEo.trans ((Ext.refl _).alloc _))).mono ?_; rintro e w2 ⟨rfl, hE2⟩
          have hEo2 : Ext wo w2 := ((Ext.refl _).alloc _).trans hE2
          go_wp2_with fail
          go_roundw
          case rel =>
            exact ⟨k + 1, ps, A, c, by omega, by go_num, rfl, ⟨by rw [HGs.out, HOk.out]; exact Hsets.out, hI.own.ext hEo2, fun p hp => (hI.datas p hp).ext hEo2, hI.apart, by rw [HGs.out, HOk.out]; exact hI.kmap.ext hEo2, Nat.le_refl _, hEo.trans hEo2⟩⟩
          case measure => simp [intOf]; omega
      · have hm' : may nm = false := by simpa using hm
        rw [hm'] at HM
        have HOk := Lib.hid (show addP sets ⟨nm, ty, cl, tt, da⟩ = sets by unfold addP; rw [show okRec ⟨nm, ty, cl, tt, da⟩ = false by simp [okRec, hm'], if_neg (by simp)])
        clear hm
        go_wp2_with fail
        refine (HM.out _).mono ?_; rintro e w' ⟨rfl, rfl⟩
        have hEo2 := (Ext.refl wo).alloc (.cells #[S nm, .int .u16 ty, .int .u16 cl, .int .u32 tt, S da] 99)
        go_wp2_with fail
        go_roundw
        case rel =>
          exact ⟨k + 1, ps, A, c, by omega, by go_num, rfl, ⟨by rw [HGs.out, HOk.out]; exact Hsets.out, hI.own.ext hEo2, fun p hp => (hI.datas p hp).ext hEo2, hI.apart, by rw [HGs.out, HOk.out]; exact hI.kmap.ext hEo2, Nat.le_refl _, hEo.trans hEo2⟩⟩
        case measure => simp [intOf]; omega
    · obtain rfl : k = l.length := by omega
      rw [← HL0.out] at hI
      have hC0 : ClInv w L0 ps.length 0 ps A c wo := ⟨rfl, by rw [hI.eq]; simp [cleanTo], hI.own, hI.datas, hI.apart, hI.ext⟩
      have hnl : ps.length = L0.length := by rw [← hI.eq]; simp
      have hn4 : ps.length ≤ 4096 := by omega
      generalize ps.length = n at *
      have Hnl := Lib.hid hnl
      have hcapc := hC0.own.cap
      have hcap2 := hcapc.2
      unfold maxLen at hcap2
      clear hI hlt hnl hcapc
      go_wp2_with fail
      go_loopw [100] (fun t wr => ∃ (i : Nat) (qs : List (SetD × Value)), i ≤ n ∧ t = .int .i64 i ∧ ClInv w L0 n i qs A c wr) (fun t _ => n - (intOf t).toNat)
      case atStart => exact ⟨0, ps, by omega, rfl, hC0⟩
      case round =>
        obtain ⟨i, qs, hi, rfl, hC⟩ := hrel
        obtain ⟨wi, rfl⟩ : ∃ wi : World, wi = wr := ⟨_, rfl⟩
        clear hC0 hEo
        by_cases hil : i < n
        · obtain ⟨g, rfl, hgw, hgz, hgf, hgc⟩ := hC.own.addr (by omega)
          have hql : i < qs.length := by rw [hC.len]; exact hil
          have hqi : qs[i]? = some qs[i] := List.getElem?_eq_getElem hql
          have hcs := sets_cells (off := 0) (fun j u hu => by rw [Nat.zero_add]; exact hgc j u hu) i _ hqi
          have hdi := hC.datas qs[i] (List.getElem_mem hql)
          have hlb : qs[i].1.data.length ≤ 4096 := by
            have h7 : (cleanTo L0 i)[i]? = some qs[i].1 := by rw [← hC.eq, List.getElem?_map, hqi]; rfl
            unfold cleanTo at h7
            have h8 : ((L0.take i).map cleanS).length = i := by have := Hnl.out; rw [List.length_map, List.length_take]; omega
            rw [List.getElem?_append_right (by omega), h8, Nat.sub_self, List.getElem?_drop, Nat.add_zero] at h7
            have := (hLb _ (List.mem_of_getElem? h7)).2.1
            omega
          generalize qs[i] = q at *
          obtain ⟨⟨sn, st, sc, sl, sd⟩, dv⟩ := q
          simp only [Nat.zero_add] at hcs
          obtain ⟨_, _, _, _, y4⟩ := hcs
          dsimp only at hdi hlb y4
          have hgo : (Value.slice (some ⟨g, 0, none⟩) n c).ownBlock = none ∨ (Value.slice (some ⟨g, 0, none⟩) n c).ownBlock ≠ dv.ownBlock := by
            obtain ⟨B, d, rfl, ho⟩ := hdi
            exact own_ne hC.own ho (by decide)
          have hgd : some g ≠ dv.ownBlock := by
            rcases hgo with h | h
            · simp [Value.ownBlock] at h
            · exact h
          have f4 := hgf (i * 5 + 4)
          obtain ⟨dA, dc, hdv⟩ := hdi.strs.shape
          subst hdv
          have HS := Lib.hid (sl_sort w.heap.size _ sd wi hdi (by omega))
          have hii : (i : Int) < (n : Int) := by omega
          have hi0' : (0 : Int) ≤ (i : Int) := by omega
          have Hqi := Lib.hid hqi
          clear hgc hgf hqi
          go_wp2_with fail
          refine HS.out.mono ?_; rintro e w1 ⟨rfl, ho1, hg1⟩
          have y41 := hg1.cell y4 hgd
          have f41 := frozen_kept hg1 hgz hgd f4
          have hgz1 : g < w1.heap.size := Nat.lt_of_lt_of_le hgz hg1.size
          have HCm := Lib.hid (sl_compact w.heap.size _ (sortB sd) w1 ho1)
          go_wp2_with fail
          refine HCm.out.mono ?_; rintro e w2 ⟨v', rfl, ho2, hg2, hv'⟩
          have y42 := hg2.cell y41 hgd
          have f42 := frozen_kept hg2 hgz1 hgd f41
          have hgz2 : g < w2.heap.size := Nat.lt_of_lt_of_le hgz1 hg2.size
          have hC' := cl_step hC Hnl.out hil Hqi.out hg1 ho2 hg2 hv'
          obtain ⟨eA, ec, hev, _⟩ := ho2
          subst hev
          clear y4 y41 f4 f41 ho1 hg1 hg2 hv'
          go_wp2_with fail
          go_roundw
          case rel => exact ⟨i + 1, _, by omega, by go_num, hC'⟩
          case measure => simp [intOf]; omega
        · obtain rfl : i = n := by omega
          have hEq : qs.map Prod.fst = L0.map cleanS := by
            rw [hC.eq]
            unfold cleanTo
            rw [List.take_of_length_le (by rw [← Hnl.out]; omega), List.drop_of_length_le (by rw [← Hnl.out]; omega), List.append_nil]
          have hok2 : ∀ p ∈ qs, SetOk p := fun p hp => by
            have h1 : p.1 ∈ L0.map cleanS := by rw [← hEq]; exact List.mem_map.2 ⟨p, hp, rfl⟩
            obtain ⟨s, hs, hse⟩ := List.mem_map.1 h1
            obtain ⟨B, d, e, _⟩ := hC.datas p hp
            exact ⟨by rw [← hse]; exact (hLb s hs).1.1, B, _, d, e⟩
          have hown := hC.own
          have hlen := hC.len
          have HEq := Lib.hid hEq
          clear hEq
          by_cases h0 : i = 0
          · subst h0
            have hqe : qs = [] := List.eq_nil_of_length_eq_zero hlen
            subst hqe
            have HS0 := Lib.hid (sl_sortFunc0 A c wi)
            go_wp2_with fail
            refine HS0.out.mono ?_; rintro e w1 ⟨rfl, rfl⟩
            go_wp2_with fail
            go_ret
            exact ⟨_, [], rfl, by rw [← HEq.out]; exact List.Perm.refl _, List.Pairwise.nil, ⟨[], A, c, rfl, rfl, hown, by simp⟩, hC.ext⟩
          · rw [← hlen] at hown
            have HSF := Lib.hid (sl_sortFunc w.heap.size A c qs wi hown hok2 (by omega) (by omega))
            rw [hlen] at HSF
            have Hlen := Lib.hid hlen
            clear hlen
            go_wp2_with fail
            refine HSF.out.mono ?_; rintro e w1 ⟨rfl, qs', hperm, hrise, hown1, hg1⟩
            go_wp2_with fail
            go_ret
            refine ⟨_, qs'.map Prod.fst, rfl, ?_, hrise, ⟨qs', A, c, rfl, ?_, ?_, fun p hp => ?_⟩, ext_grownG hC.ext hg1 (fun k hk => (hC.own.blk k (by rw [Hlen.out] at hk; exact hk)).1)⟩
            · rw [← HEq.out]; exact hperm.map _
            · have e9 : qs'.length = i := hperm.length_eq.trans Hlen.out
              rw [e9]; rfl
            · rw [hperm.length_eq]; exact hown1
            · have hp' := hperm.mem_iff.1 hp
              rw [Hlen.out] at hg1
              exact (hC.datas p hp').kept hg1 (ostrs_ne (hC.datas p hp') hC.own)
end Go.Proofs.YtdnpmapelmjfpaaGreatDoor
