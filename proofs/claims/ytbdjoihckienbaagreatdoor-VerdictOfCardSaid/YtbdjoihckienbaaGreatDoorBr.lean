/- Contracts of functions and plain lemmas that the proofs of this seat share (joined texts). No condition. -/
import Derived.Test.YtbdjoihckienbaaGreatDoorBg
namespace Go.Proofs.YtbdjoihckienbaaGreatDoor
set_option linter.unusedSimpArgs false
set_option linter.unusedVariables false
open Go.RowKit
set_option maxRecDepth 100000

structure Betw (lo hi : Nat) (w w' : World) : Prop where
  os : w'.os = w.os
  tape : w'.tape = w.tape
  output : w'.output = w.output
  size : w.heap.size ≤ w'.heap.size
  block : ∀ k, k < w.heap.size → (k < lo ∨ hi ≤ k) → w'.heap[k]? = w.heap[k]?
theorem Betw.refl (lo hi : Nat) (w : World) : Betw lo hi w w := ⟨rfl, rfl, rfl, Nat.le_refl _, fun _ _ _ => rfl⟩
theorem Betw.setCell {lo hi : Nat} {a w : World} (h : Betw lo hi a w) {p : Addr} (h1 : lo ≤ p.block) (h2 : p.block < hi) (u : Value) : Betw lo hi a (w.setCell p u) :=
  ⟨h.os, h.tape, h.output, Nat.le_trans h.size (by simp [World.setCell]), fun k hk h3 => (Below.heap_setCell _ _ _ _ (by omega)).trans (h.block k hk h3)⟩
theorem Betw.drewN {lo hi : Nat} {a w : World} (h : Betw lo hi a w) (n : Nat) : Betw lo hi a (w.drewN n) := ⟨h.os, h.tape, h.output, h.size, h.block⟩
theorem Betw.ext {lo hi : Nat} {w0 w w' : World} (h : Ext w0 w) (k : Betw lo hi w w') (hl : w0.heap.size ≤ lo) : Ext w0 w' :=
  ⟨k.os.trans h.os, k.tape.trans h.tape, k.output.trans h.output, Nat.le_trans h.size k.size, fun i hi' => (k.block i (Nat.lt_of_lt_of_le hi' h.size) (.inl (by omega))).trans (h.block i hi')⟩
theorem Own.betw {lo hi : Nat} {w w' : World} {lo' : Nat} {e : TypeId} {sz n c : Nat} {A : Option Addr} {xs : List Value} (h : Own w lo' e sz A n c xs) (k : Betw lo hi w w') (hl : hi ≤ lo') : Own w' lo' e sz A n c xs := by
  refine ⟨h.1, ?_⟩
  rcases h.2 with h1 | ⟨g, cap, cur, h1, hg, hh, h4⟩
  · exact .inl h1
  · exact .inr ⟨g, cap, cur, h1, hg, (k.block g (Array.getElem?_eq_some_iff.1 hh).1 (.inr (by omega))).trans hh, h4⟩
theorem OSets.betw {lo hi : Nat} {w w' : World} {lo' : Nat} {v : Value} {l : List SetD} (h : OSets w lo' v l) (k : Betw lo hi w w') (hl : hi ≤ lo') : OSets w' lo' v l := by
  obtain ⟨ps, A, c, h1, h2, h3, h4⟩ := h
  refine ⟨ps, A, c, h1, h2, h3.betw k hl, fun p hp => ?_⟩
  obtain ⟨B, d, e, ho⟩ := h4 p hp
  exact ⟨B, d, e, ho.betw k hl⟩

/-- A row of texts, whatever they are. -/
def AnyStrs (w : World) (lo hi : Nat) (v : Value) : Prop := ∃ l, OStrs w lo v l ∧ ∀ k, v.ownBlock = some k → k < hi
theorem AnyStrs.stored {w : World} {lo hi : Nat} {v : Value} (h : AnyStrs w lo hi v) (g j : Nat) (x : List UInt8) : AnyStrs (w.setCell ⟨g, j, none⟩ (S x)) lo hi v := by
  obtain ⟨l, ⟨A, c, rfl, ho⟩, hk⟩ := h
  rcases ho.2 with ⟨h1, h2⟩ | ⟨g', cap, cur, h1, hg, hh, h4, h5, h6, h7⟩
  · injection h1 with h1 h2 h3
    have : l = [] := List.eq_nil_of_length_eq_zero h2
    subst this h1 h3
    exact ⟨[], ⟨none, 0, rfl, Own.nil _ _ _ _⟩, by simp [Value.ownBlock]⟩
  · by_cases e : g' = g
    · subst e
      injection h1 with h1 _ h3
      subst h1 h3
      refine ⟨l.set j x, ⟨_, c, by rw [List.length_set], ?_⟩, hk⟩
      refine ⟨by simp, .inr ⟨g', c, cur.setIfInBounds j (S x), by rw [List.length_set], hg, by simp [World.setCell, Array.getElem?_modify, hh], by rw [List.length_set]; exact h4, h5, by simpa using h6, ?_⟩⟩
      rw [Array.toList_setIfInBounds, List.length_set, List.map_set, ← h7, List.take_set]
    · exact ⟨l, ⟨A, c, rfl, ho.1, .inr ⟨g', cap, cur, h1, hg, (Below.heap_setCell w ⟨g, j, none⟩ _ g' e).trans hh, h4, h5, h6, h7⟩⟩, hk⟩
theorem AnyStrs.other {w : World} {lo hi : Nat} {v : Value} (h : AnyStrs w lo hi v) {p : Addr} (u : Value) (hp : v.ownBlock = none ∨ v.ownBlock ≠ some p.block) : AnyStrs (w.setCell p u) lo hi v := by
  obtain ⟨l, h1, h2⟩ := h
  exact ⟨l, h1.set_other u hp, h2⟩

theorem Own.stored5 {w : World} {lo g n c : Nat} {qs : List (SetD × Value)} (h : Own w lo 55 5 (some ⟨g, 0, none⟩) n c (qs.flatMap setCells)) (hn : qs.length = n) {k : Nat} {p : SetD × Value} (hp : qs[k]? = some p) (hk : k < qs.length) (q : SetD × Value) :
    Own (((((w.setCell ⟨g, k * 5, none⟩ (S q.1.name)).setCell ⟨g, k * 5 + 1, none⟩ (.int .u16 q.1.typ)).setCell ⟨g, k * 5 + 2, none⟩ (.int .u16 q.1.cls)).setCell ⟨g, k * 5 + 3, none⟩ (.int .u32 q.1.ttl)).setCell ⟨g, k * 5 + 4, none⟩ q.2) lo 55 5 (some ⟨g, 0, none⟩) n c ((qs.set k q).flatMap setCells) := by
  subst hn
  obtain ⟨⟨pn, pt, pc, pl, pd⟩, pv⟩ := p
  obtain ⟨⟨qn, qt, qc, ql, qd⟩, qv⟩ := q
  have h1 := h.stored (k * 5 + 0) (S qn) (by omega)
  rw [flat_set qs k _ (⟨qn, pt, pc, pl, pd⟩, pv) 0 (S qn) hp (by omega) rfl] at h1
  have h2 := h1.stored (k * 5 + 1) (.int .u16 qt) (by omega)
  rw [flat_set _ k (⟨qn, pt, pc, pl, pd⟩, pv) (⟨qn, qt, pc, pl, pd⟩, pv) 1 (.int .u16 qt) (List.getElem?_set_self hk) (by omega) rfl, List.set_set] at h2
  have h3 := h2.stored (k * 5 + 2) (.int .u16 qc) (by omega)
  rw [flat_set _ k (⟨qn, qt, pc, pl, pd⟩, pv) (⟨qn, qt, qc, pl, pd⟩, pv) 2 (.int .u16 qc) (List.getElem?_set_self hk) (by omega) rfl, List.set_set] at h3
  have h4 := h3.stored (k * 5 + 3) (.int .u32 ql) (by omega)
  rw [flat_set _ k (⟨qn, qt, qc, pl, pd⟩, pv) (⟨qn, qt, qc, ql, pd⟩, pv) 3 (.int .u32 ql) (List.getElem?_set_self hk) (by omega) rfl, List.set_set] at h4
  have h5 := h4.stored (k * 5 + 4) qv (by omega)
  rw [flat_set _ k (⟨qn, qt, qc, ql, pd⟩, pv) (⟨qn, qt, qc, ql, qd⟩, qv) 4 qv (List.getElem?_set_self hk) (by omega) rfl, List.set_set] at h5
  exact h5
structure SpoInv (w : World) (lo hi : Nat) (n : Nat) (A : Option Addr) (c : Nat) (qs : List (SetD × Value)) (wr : World) : Prop where
  len : qs.length = n
  own : Own wr lo 55 5 A n c (qs.flatMap setCells)
  datas : ∀ p ∈ qs, AnyStrs wr lo hi p.2
  betw : Betw lo hi w wr
def SpoilPost (lo hi : Nat) (w : World) (e : Ending) (w' : World) : Prop := e = .returned (.tuple #[]) ∧ Betw lo hi w w'
abbrev spoilt : List UInt8 := [115, 112, 111, 105, 108, 116]

end Go.Proofs.YtbdjoihckienbaaGreatDoor
