/- Contracts of functions and plain lemmas that the proofs of this seat share (joined texts). No condition. -/
import Derived.Test.YtdnpmapelmjfpaaGreatDoorFc
import Derived.Test.YtdnpmapelmjfpaaGreatDoorFa
namespace Go.Proofs.YtdnpmapelmjfpaaGreatDoor
set_option linter.unusedSimpArgs false
set_option linter.unusedVariables false
open Go.RowKit
set_option maxRecDepth 100000
structure SetD where
  name : List UInt8
  typ : Int
  cls : Int
  ttl : Int
  data : List (List UInt8)
  deriving DecidableEq
def SetD.zero : SetD := ⟨[], 0, 0, 0, []⟩
def setCells (p : SetD × Value) : List Value := [S p.1.name, .int .u16 p.1.typ, .int .u16 p.1.cls, .int .u32 p.1.ttl, p.2]
def Sets (w : World) (lo : Nat) (v : Value) (l : List SetD) : Prop :=
  ∃ (ps : List (SetD × Value)) (A : Option Addr) (c : Nat), ps.map Prod.fst = l ∧ v = .slice A ps.length c ∧ ps.length ≤ c ∧ c ≤ maxLen ∧ Rd w lo 5 A ps.length (ps.flatMap setCells) ∧ ∀ p ∈ ps, Strs w lo p.2 p.1.data
def OSets (w : World) (lo : Nat) (v : Value) (l : List SetD) : Prop :=
  ∃ (ps : List (SetD × Value)) (A : Option Addr) (c : Nat), ps.map Prod.fst = l ∧ v = .slice A ps.length c ∧ Own w lo 79 5 A ps.length c (ps.flatMap setCells) ∧ ∀ p ∈ ps, OStrs w lo p.2 p.1.data
theorem Sets.ext {w w' : World} {lo : Nat} {v : Value} {l : List SetD} (h : Sets w lo v l) (hE : Ext w w') : Sets w' lo v l := by
  obtain ⟨ps, A, c, h1, h2, h3, h4, h5, h6⟩ := h
  exact ⟨ps, A, c, h1, h2, h3, h4, h5.ext hE, fun p hp => (h6 p hp).ext hE⟩
theorem OSets.ext {w w' : World} {lo : Nat} {v : Value} {l : List SetD} (h : OSets w lo v l) (hE : Ext w w') : OSets w' lo v l := by
  obtain ⟨ps, A, c, h1, h2, h3, h4⟩ := h
  exact ⟨ps, A, c, h1, h2, h3.ext hE, fun p hp => (h4 p hp).ext hE⟩
theorem OSets.sets {w : World} {lo : Nat} {v : Value} {l : List SetD} (h : OSets w lo v l) : Sets w lo v l := by
  obtain ⟨ps, A, c, h1, h2, h3, h4⟩ := h
  exact ⟨ps, A, c, h1, h2, h3.cap.1, h3.cap.2, h3.rd, fun p hp => (h4 p hp).strs⟩
theorem OSets.lower {w : World} {lo lo' : Nat} {v : Value} {l : List SetD} (h : OSets w lo v l) (hl : lo' ≤ lo) : OSets w lo' v l := by
  obtain ⟨ps, A, c, h1, h2, h3, h4⟩ := h
  exact ⟨ps, A, c, h1, h2, h3.lower hl, fun p hp => (h4 p hp).lower hl⟩
theorem Strs.lower {w : World} {lo lo' : Nat} {v : Value} {l : List (List UInt8)} (h : Strs w lo v l) (hl : lo' ≤ lo) : Strs w lo' v l := by
  obtain ⟨A, c, e, h1, h2, h3⟩ := h
  exact ⟨A, c, e, h1, h2, h3.lower hl⟩
theorem Sets.lower {w : World} {lo lo' : Nat} {v : Value} {l : List SetD} (h : Sets w lo v l) (hl : lo' ≤ lo) : Sets w lo' v l := by
  obtain ⟨ps, A, c, h1, h2, h3, h4, h5, h6⟩ := h
  exact ⟨ps, A, c, h1, h2, h3, h4, h5.lower hl, fun p hp => (h6 p hp).lower hl⟩
theorem rdata_may (kind : Int) (data : List UInt8) (w : World) (hg : Laid w) (hl : data.length ≤ 1048576) :
    Calls Tryz.prog 40 #[.int .u16 kind, S data] w fun e w' => e = .returned (.bool (rmay kind data)) ∧ Ext w w' := by
  have Hs := Lib.hid (rdata_whole kind data w hg hl)
  unfold WholePost at Hs
  have hm : rmay kind data = (wholeOf kind data).isSome := rfl
  rw [hm]
  clear hm
  generalize (wholeOf kind data).isSome = ok at *
  generalize partsOf kind data = l at *
  go_enter Tryz.func40, Tryz.ntmps40
  go_wp2_with fail
  refine Hs.out.mono ?_; rintro e w1 ⟨v, rfl, ⟨A, c, rfl, hown⟩, hE1⟩
  go_wp2_with fail
  go_ret
  exact ⟨rfl, hE1⟩
theorem sets_cells {w : World} {b off : Nat} {ps : List (SetD × Value)} (hc : ∀ j u, (ps.flatMap setCells)[j]? = some u → w.cell? ⟨b, off + j, none⟩ = some u) (k : Nat) (p : SetD × Value) (hp : ps[k]? = some p) :
    w.cell? ⟨b, off + k * 5, none⟩ = some (S p.1.name) ∧ w.cell? ⟨b, off + k * 5 + 1, none⟩ = some (.int .u16 p.1.typ) ∧ w.cell? ⟨b, off + k * 5 + 2, none⟩ = some (.int .u16 p.1.cls) ∧ w.cell? ⟨b, off + k * 5 + 3, none⟩ = some (.int .u32 p.1.ttl) ∧ w.cell? ⟨b, off + k * 5 + 4, none⟩ = some p.2 := by
  refine ⟨?_, ?_, ?_, ?_, ?_⟩
  · exact hc (k * 5 + 0) _ (flat_get setCells 5 (fun _ => rfl) ps k 0 p hp (by omega))
  · rw [Nat.add_assoc]; exact hc (k * 5 + 1) _ (flat_get setCells 5 (fun _ => rfl) ps k 1 p hp (by omega))
  · rw [Nat.add_assoc]; exact hc (k * 5 + 2) _ (flat_get setCells 5 (fun _ => rfl) ps k 2 p hp (by omega))
  · rw [Nat.add_assoc]; exact hc (k * 5 + 3) _ (flat_get setCells 5 (fun _ => rfl) ps k 3 p hp (by omega))
  · rw [Nat.add_assoc]; exact hc (k * 5 + 4) _ (flat_get setCells 5 (fun _ => rfl) ps k 4 p hp (by omega))
theorem OStrs.kept {w w' : World} {lo : Nat} {v : Value} {l : List (List UInt8)} (h : OStrs w lo v l) {row : Option Nat} (hg : w.grownBy w' row) (hne : v.ownBlock = none ∨ v.ownBlock ≠ row) : OStrs w' lo v l := by
  obtain ⟨A, c, rfl, ho⟩ := h
  exact ⟨A, c, rfl, ho.kept hg hne⟩
theorem OStrs.blk {w : World} {lo : Nat} {v : Value} {l : List (List UInt8)} (h : OStrs w lo v l) : ∀ k, v.ownBlock = some k → lo ≤ k ∧ k < w.heap.size := by
  obtain ⟨A, c, rfl, ho⟩ := h
  exact ho.blk
theorem OSets.nil (w : World) (lo : Nat) : OSets w lo (.slice none 0 0) [] := ⟨[], none, 0, rfl, rfl, Own.nil _ _ _ _, by simp⟩
end Go.Proofs.YtdnpmapelmjfpaaGreatDoor
