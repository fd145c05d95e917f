/- Words for the second loop of rrset.Group, and its end. -/
import Derived.Test.YthdlgmfeicikpaaGreatDoorRr1
namespace Go.Proofs.YthdlgmfeicikpaaGreatDoor
set_option linter.unusedSimpArgs false
set_option linter.unusedVariables false
open Go.RowKit
set_option maxRecDepth 100000

def cleanS (s : SetD) : SetD := { s with data := Lib.compact (sortB s.data) }
def cleanTo (L : List SetD) (i : Nat) : List SetD := (L.take i).map cleanS ++ L.drop i
theorem cleanTo_step (L : List SetD) (i : Nat) (s : SetD) (h : (cleanTo L i)[i]? = some s) (hi : i < L.length) : cleanTo L (i + 1) = (cleanTo L i).set i (cleanS s) := by
  have hl : ((L.take i).map cleanS).length = i := by simp; omega
  have hs : s = L[i] := by
    unfold cleanTo at h
    rw [List.getElem?_append_right (by omega), hl, Nat.sub_self, List.getElem?_drop, Nat.add_zero, List.getElem?_eq_getElem hi] at h
    injection h with h; exact h.symm
  subst hs
  unfold cleanTo
  rw [take_snoc L i hi, List.map_append, List.set_append_right _ _ (by omega), hl, Nat.sub_self, List.drop_eq_getElem_cons hi, List.set_cons_zero]
  simp
structure ClInv (w : World) (L : List SetD) (n : Nat) (i : Nat) (ps : List (SetD × Value)) (A : Option Addr) (c : Nat) (wr : World) : Prop where
  len : ps.length = n
  eq : ps.map Prod.fst = cleanTo L i
  own : Own wr w.heap.size 27 5 A n c (ps.flatMap setCells)
  datas : ∀ p ∈ ps, OStrs wr w.heap.size p.2 p.1.data
  apart : ps.Pairwise fun p q => p.2.ownBlock = none ∨ p.2.ownBlock ≠ q.2.ownBlock
  ext : Ext w wr
theorem other_of {ps : List (SetD × Value)} {J : Nat} {s : SetD} {v : Value} (hap : ps.Pairwise fun p q => p.2.ownBlock = none ∨ p.2.ownBlock ≠ q.2.ownBlock) (hj : ps[J]? = some (s, v)) : ∀ i (hi : i < ps.length), i ≠ J → ps[i].2.ownBlock = none ∨ ps[i].2.ownBlock ≠ v.ownBlock := fun i hi hne => by
  have hJ : J < ps.length := (List.getElem?_eq_some_iff.1 hj).1
  have hje : ps[J] = (s, v) := (List.getElem?_eq_some_iff.1 hj).2
  rcases Nat.lt_or_gt_of_ne hne with h | h
  · have := List.pairwise_iff_getElem.1 hap i J hi hJ h
    rwa [hje] at this
  · have := List.pairwise_iff_getElem.1 hap J i hJ hi h
    rw [hje] at this
    dsimp only at this
    rcases hb : ps[i].2.ownBlock with _ | z
    · exact .inl rfl
    · right
      rcases this with h1 | h1
      · rw [h1]; simp
      · rw [hb] at h1; exact fun e => h1 e.symm
theorem ext_grown {w a b : World} {row : Option Nat} (h : Ext w a) (hg : a.grownBy b row) (hr : ∀ k, row = some k → w.heap.size ≤ k) : Ext w b :=
  ⟨hg.os.trans h.os, hg.tape.trans h.tape, hg.output.trans h.output, Nat.le_trans h.size hg.size, fun k hk => (hg.block k (Nat.lt_of_lt_of_le hk h.size) (fun e => by have := hr k e.symm; omega)).trans (h.block k hk)⟩

theorem cl_step {w X w1 w2 : World} {L : List SetD} {n i : Nat} {ps : List (SetD × Value)} {g c : Nat} {sn : List UInt8} {st sc sl : Int} {sd : List (List UInt8)} {dv v' : Value}
    (hI : ClInv w L n i ps (some ⟨g, 0, none⟩) c X) (hn : n = L.length) (hi : i < n) (hj : ps[i]? = some (⟨sn, st, sc, sl, sd⟩, dv))
    (hg1 : X.grownBy w1 dv.ownBlock) (ho2 : OStrs w2 w.heap.size v' (Lib.compact (sortB sd))) (hg2 : w1.grownBy w2 dv.ownBlock) (hv : v'.ownBlock = dv.ownBlock) :
    ClInv w L n (i + 1) (ps.set i (⟨sn, st, sc, sl, Lib.compact (sortB sd)⟩, v')) (some ⟨g, 0, none⟩) c (w2.setCell ⟨g, i * 5 + 4, none⟩ v') := by
  have hJ : i < ps.length := (List.getElem?_eq_some_iff.1 hj).1
  have hdj := hI.datas _ (List.mem_of_getElem? hj)
  dsimp only at hdj
  have hgw : w.heap.size ≤ g := (hI.own.blk g rfl).1
  have hne : (Value.slice (some ⟨g, 0, none⟩) n c).ownBlock = none ∨ (Value.slice (some ⟨g, 0, none⟩) n c).ownBlock ≠ dv.ownBlock := by
    obtain ⟨B, d, rfl, ho⟩ := hdj
    exact own_ne hI.own ho (by decide)
  have ho7 := (hI.own.kept hg1 hne).kept hg2 hne
  have hblk : ∀ k, dv.ownBlock = some k → w.heap.size ≤ k := fun k hk => (hdj.blk k hk).1
  refine ⟨by simp [hI.len], ?_, ?_, ?_, ?_, ?_⟩
  · rw [cleanTo_step L i ⟨sn, st, sc, sl, sd⟩ (by rw [← hI.eq, List.getElem?_map, hj]; rfl) (by omega), ← hI.eq, List.map_set]; rfl
  · have h6 := ho7.stored (i * 5 + 4) v' (by omega)
    rw [flat_set ps i (⟨sn, st, sc, sl, sd⟩, dv) (⟨sn, st, sc, sl, sd⟩, v') 4 _ hj (by omega) rfl] at h6
    have e1 : (ps.set i (⟨sn, st, sc, sl, sd⟩, v')).flatMap setCells = (ps.set i (⟨sn, st, sc, sl, Lib.compact (sortB sd)⟩, v')).flatMap setCells := by
      rw [List.flatMap_def, List.flatMap_def, List.map_set, List.map_set]; rfl
    rw [e1] at h6
    exact h6
  · intro p hp
    obtain ⟨k, hk, rfl⟩ := List.getElem_of_mem hp
    rw [List.length_set] at hk
    rw [List.getElem_set]
    split
    · exact OStrs.set_other (p := ⟨g, _, none⟩) ho2 _ (ostrs_ne ho2 ho7)
    · rename_i hne'
      have hoth := other_of hI.apart hj k hk (fun e => hne' e.symm)
      have h7 := ((hI.datas ps[k] (List.getElem_mem hk)).kept hg1 hoth).kept hg2 hoth
      exact OStrs.set_other (p := ⟨g, _, none⟩) h7 _ (ostrs_ne h7 ho7)
  · have key : ∀ k (hk : k < ps.length), ((ps.set i (⟨sn, st, sc, sl, Lib.compact (sortB sd)⟩, v'))[k]'(by simpa using hk)).2.ownBlock = ps[k].2.ownBlock := fun k hk => by
      rw [List.getElem_set]
      split
      · rename_i e; subst e
        rw [(List.getElem?_eq_some_iff.1 hj).2]; exact hv
      · rfl
    have hap := hI.apart
    rw [List.pairwise_iff_getElem] at hap ⊢
    intro a b ha hb hab
    rw [List.length_set] at ha hb
    rw [key a ha, key b hb]
    exact hap a b ha hb hab
  · exact (ext_grown (ext_grown hI.ext hg1 hblk) hg2 hblk).setCell hgw _
end Go.Proofs.YthdlgmfeicikpaaGreatDoor
