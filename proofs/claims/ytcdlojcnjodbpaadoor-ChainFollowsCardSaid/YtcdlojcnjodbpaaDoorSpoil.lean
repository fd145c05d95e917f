/- Memory that is written over: only blocks from lo on and below hi; the walks of hustingslaw09.spoil and large. -/
import Derived.Test.YtcdlojcnjodbpaaDoorGrp2
namespace Go.Proofs.YtcdlojcnjodbpaaDoor
set_option linter.unusedSimpArgs false
set_option linter.unusedVariables false
open Go.RowKit
set_option maxRecDepth 100000

structure Betw (lo hi : Nat) (w w' : World) : Prop where
  os : w'.os = w.os
  tape : w'.tape = w.tape
  output : w'.output = w.output
  size : w.heap.size ≤ w'.heap.size
  block : ∀ k, k < w.heap.size → (k < lo ∨ hi ≤ k) → w'.heap[k]? = w.heap[k]?
theorem Betw.refl (lo hi : Nat) (w : World) : Betw lo hi w w := ⟨rfl, rfl, rfl, Nat.le_refl _, fun _ _ _ => rfl⟩
theorem Betw.setCell {lo hi : Nat} {a w : World} (h : Betw lo hi a w) {p : Addr} (h1 : lo ≤ p.block) (h2 : p.block < hi) (u : Value) : Betw lo hi a (w.setCell p u) :=
  ⟨h.os, h.tape, h.output, Nat.le_trans h.size (by simp [World.setCell]), fun k hk h3 => (Below.heap_setCell _ _ _ _ (by omega)).trans (h.block k hk h3)⟩
theorem Betw.drewN {lo hi : Nat} {a w : World} (h : Betw lo hi a w) (n : Nat) : Betw lo hi a (w.drewN n) := ⟨h.os, h.tape, h.output, h.size, h.block⟩
theorem Betw.ext {lo hi : Nat} {w0 w w' : World} (h : Ext w0 w) (k : Betw lo hi w w') (hl : w0.heap.size ≤ lo) : Ext w0 w' :=
  ⟨k.os.trans h.os, k.tape.trans h.tape, k.output.trans h.output, Nat.le_trans h.size k.size, fun i hi' => (k.block i (Nat.lt_of_lt_of_le hi' h.size) (.inl (by omega))).trans (h.block i hi')⟩
theorem Own.betw {lo hi : Nat} {w w' : World} {lo' : Nat} {e : TypeId} {sz n c : Nat} {A : Option Addr} {xs : List Value} (h : Own w lo' e sz A n c xs) (k : Betw lo hi w w') (hl : hi ≤ lo') : Own w' lo' e sz A n c xs := by
  refine ⟨h.1, ?_⟩
  rcases h.2 with h1 | ⟨g, cap, cur, h1, hg, hh, h4⟩
  · exact .inl h1
  · exact .inr ⟨g, cap, cur, h1, hg, (k.block g (Array.getElem?_eq_some_iff.1 hh).1 (.inr (by omega))).trans hh, h4⟩
theorem OSets.betw {lo hi : Nat} {w w' : World} {lo' : Nat} {v : Value} {l : List SetD} (h : OSets w lo' v l) (k : Betw lo hi w w') (hl : hi ≤ lo') : OSets w' lo' v l := by
  obtain ⟨ps, A, c, h1, h2, h3, h4⟩ := h
  refine ⟨ps, A, c, h1, h2, h3.betw k hl, fun p hp => ?_⟩
  obtain ⟨B, d, e, ho⟩ := h4 p hp
  exact ⟨B, d, e, ho.betw k hl⟩

/-- A row of texts, whatever they are. -/
def AnyStrs (w : World) (lo hi : Nat) (v : Value) : Prop := ∃ l, OStrs w lo v l ∧ ∀ k, v.ownBlock = some k → k < hi
theorem AnyStrs.stored {w : World} {lo hi : Nat} {v : Value} (h : AnyStrs w lo hi v) (g j : Nat) (x : List UInt8) : AnyStrs (w.setCell ⟨g, j, none⟩ (S x)) lo hi v := by
  obtain ⟨l, ⟨A, c, rfl, ho⟩, hk⟩ := h
  rcases ho.2 with ⟨h1, h2⟩ | ⟨g', cap, cur, h1, hg, hh, h4, h5, h6, h7⟩
  · injection h1 with h1 h2 h3
    have : l = [] := List.eq_nil_of_length_eq_zero h2
    subst this h1 h3
    exact ⟨[], ⟨none, 0, rfl, Own.nil _ _ _ _⟩, by simp [Value.ownBlock]⟩
  · by_cases e : g' = g
    · subst e
      injection h1 with h1 _ h3
      subst h1 h3
      refine ⟨l.set j x, ⟨_, c, by rw [List.length_set], ?_⟩, hk⟩
      refine ⟨by simp, .inr ⟨g', c, cur.setIfInBounds j (S x), by rw [List.length_set], hg, by simp [World.setCell, Array.getElem?_modify, hh], by rw [List.length_set]; exact h4, h5, by simpa using h6, ?_⟩⟩
      rw [Array.toList_setIfInBounds, List.length_set, List.map_set, ← h7, List.take_set]
    · exact ⟨l, ⟨A, c, rfl, ho.1, .inr ⟨g', cap, cur, h1, hg, (Below.heap_setCell w ⟨g, j, none⟩ _ g' e).trans hh, h4, h5, h6, h7⟩⟩, hk⟩
theorem AnyStrs.other {w : World} {lo hi : Nat} {v : Value} (h : AnyStrs w lo hi v) {p : Addr} (u : Value) (hp : v.ownBlock = none ∨ v.ownBlock ≠ some p.block) : AnyStrs (w.setCell p u) lo hi v := by
  obtain ⟨l, h1, h2⟩ := h
  exact ⟨l, h1.set_other u hp, h2⟩

theorem Own.stored5 {w : World} {lo g n c : Nat} {qs : List (SetD × Value)} (h : Own w lo 52 5 (some ⟨g, 0, none⟩) n c (qs.flatMap setCells)) (hn : qs.length = n) {k : Nat} {p : SetD × Value} (hp : qs[k]? = some p) (hk : k < qs.length) (q : SetD × Value) :
    Own (((((w.setCell ⟨g, k * 5, none⟩ (S q.1.name)).setCell ⟨g, k * 5 + 1, none⟩ (.int .u16 q.1.typ)).setCell ⟨g, k * 5 + 2, none⟩ (.int .u16 q.1.cls)).setCell ⟨g, k * 5 + 3, none⟩ (.int .u32 q.1.ttl)).setCell ⟨g, k * 5 + 4, none⟩ q.2) lo 52 5 (some ⟨g, 0, none⟩) n c ((qs.set k q).flatMap setCells) := by
  subst hn
  obtain ⟨⟨pn, pt, pc, pl, pd⟩, pv⟩ := p
  obtain ⟨⟨qn, qt, qc, ql, qd⟩, qv⟩ := q
  have h1 := h.stored (k * 5 + 0) (S qn) (by omega)
  rw [flat_set qs k _ (⟨qn, pt, pc, pl, pd⟩, pv) 0 (S qn) hp (by omega) rfl] at h1
  have h2 := h1.stored (k * 5 + 1) (.int .u16 qt) (by omega)
  rw [flat_set _ k (⟨qn, pt, pc, pl, pd⟩, pv) (⟨qn, qt, pc, pl, pd⟩, pv) 1 (.int .u16 qt) (List.getElem?_set_self hk) (by omega) rfl, List.set_set] at h2
  have h3 := h2.stored (k * 5 + 2) (.int .u16 qc) (by omega)
  rw [flat_set _ k (⟨qn, qt, pc, pl, pd⟩, pv) (⟨qn, qt, qc, pl, pd⟩, pv) 2 (.int .u16 qc) (List.getElem?_set_self hk) (by omega) rfl, List.set_set] at h3
  have h4 := h3.stored (k * 5 + 3) (.int .u32 ql) (by omega)
  rw [flat_set _ k (⟨qn, qt, qc, pl, pd⟩, pv) (⟨qn, qt, qc, ql, pd⟩, pv) 3 (.int .u32 ql) (List.getElem?_set_self hk) (by omega) rfl, List.set_set] at h4
  have h5 := h4.stored (k * 5 + 4) qv (by omega)
  rw [flat_set _ k (⟨qn, qt, qc, ql, pd⟩, pv) (⟨qn, qt, qc, ql, qd⟩, qv) 4 qv (List.getElem?_set_self hk) (by omega) rfl, List.set_set] at h5
  exact h5
structure SpoInv (w : World) (lo hi : Nat) (n : Nat) (A : Option Addr) (c : Nat) (qs : List (SetD × Value)) (wr : World) : Prop where
  len : qs.length = n
  own : Own wr lo 52 5 A n c (qs.flatMap setCells)
  datas : ∀ p ∈ qs, AnyStrs wr lo hi p.2
  betw : Betw lo hi w wr
def SpoilPost (lo hi : Nat) (w : World) (e : Ending) (w' : World) : Prop := e = .returned (.tuple #[]) ∧ Betw lo hi w w'
abbrev spoilt : List UInt8 := [115, 112, 111, 105, 108, 116]

set_option maxHeartbeats 2000000 in
theorem law_spoil (lo : Nat) (v : Value) (l : List SetD) (wm w : World) (h : OSets wm lo v l) (hE : Ext wm w) :
    Calls Tryd.prog 16 #[v] w (SpoilPost lo wm.heap.size w) := by
  obtain ⟨ps, A, c, hl, rfl, how, hdw⟩ := h
  have hab : ∀ k, (Value.slice A ps.length c).ownBlock = some k → lo ≤ k ∧ k < wm.heap.size := how.blk
  have hcap := how.cap
  have h2 := hcap.2
  unfold maxLen at h2
  have hI0 : SpoInv w lo wm.heap.size ps.length A c ps w :=
    ⟨rfl, how.ext hE, fun p hp => ⟨_, (hdw p hp).ext hE, fun k hk => ((hdw p hp).blk k hk).2⟩, Betw.refl _ _ _⟩
  generalize wm.heap.size = hi at *
  generalize hn : ps.length = n at *
  have hn9 : n ≤ 9223372036854775807 := by have := hcap.1; omega
  have Hcap := Lib.hid hcap
  clear how hdw hl hn hcap hE
  go_enter Tryd.func16, Tryd.ntmps16
  go_wp2_with fail
  go_loopw [2, 3] (fun i _ wr => ∃ (k : Nat) (qs : List (SetD × Value)), k ≤ n ∧ i = .int .i64 k ∧ SpoInv w lo hi n A c qs wr) (fun i _ _ => n - (intOf i).toNat)
  case atStart => exact ⟨0, ps, by omega, rfl, hI0⟩
  case round =>
    obtain ⟨k, qs, hk, rfl, hI⟩ := hrel
    obtain ⟨wo, rfl⟩ : ∃ wo : World, wo = wr := ⟨_, rfl⟩
    clear hI0
    by_cases hlt : k < n
    · obtain ⟨g, rfl, hgw, hgz, hgf, hgc⟩ := hI.own.addr (by omega)
      have hgh : g < hi := (hab g rfl).2
      have hql : k < qs.length := by rw [hI.len]; exact hlt
      have hmem : qs[k] ∈ qs := List.getElem_mem hql
      have hps : qs[k]? = some qs[k] := List.getElem?_eq_getElem hql
      generalize hpe : qs[k] = p at *
      obtain ⟨⟨pn, pt, pc, ptl, pd⟩, pv⟩ := p
      obtain ⟨l0, ⟨pA, pcc, rfl, ho0⟩, hpk⟩ := hI.datas _ hmem
      have hc0 := ho0.cap
      have hm2 := hc0.2
      unfold maxLen at hm2
      have hki : (k : Int) < (n : Int) := by omega
      have hk0 : (0 : Int) ≤ (k : Int) := by omega
      generalize hm : l0.length = m at *
      have hm9 : m ≤ 9223372036854775807 := by have := hc0.1; omega
      have Hm := Lib.hid hm
      have Hc0 := Lib.hid hc0
      have Hps := Lib.hid hps
      clear hm ho0 hgc hgf hc0 hps hpe
      go_wp2_with fail
      go_loopw [3] (fun j wi => ∃ (i : Nat), i ≤ m ∧ j = .int .i64 i ∧ SpoInv w lo hi n (some ⟨g, 0, none⟩) c qs wi) (fun j _ => m - (intOf j).toNat)
      case atStart => exact ⟨0, by omega, rfl, hI⟩
      case round =>
        obtain ⟨i, hi', rfl, hJ⟩ := hrel
        obtain ⟨wi, rfl⟩ : ∃ wi : World, wi = wr := ⟨_, rfl⟩
        obtain ⟨g2, e2, _, hgz2, hgf2, hgc2⟩ := hJ.own.addr (by omega)
        injection e2 with e2
        injection e2 with e2 _ _
        subst e2
        have hcs := sets_cells (off := 0) (fun j u hu => by rw [Nat.zero_add]; exact hgc2 j u hu) k _ Hps.out
        simp only [Nat.zero_add] at hcs
        obtain ⟨y0, y1, y2, y3, y4⟩ := hcs
        by_cases hil : i < m
        · obtain ⟨l1, ⟨qA, qc, e1, ho1⟩, hqk⟩ := hJ.datas _ hmem
          dsimp only at e1 ho1 hqk
          injection e1 with e1 e3 e4
          subst e1 e4
          rw [← e3] at ho1
          obtain ⟨gd, rfl, hdw, hdz, hdf, hdc⟩ := ho1.addr (by omega)
          have hgd : gd < hi := hqk gd rfl
          have hdx : ∃ x, wi.cell? ⟨gd, i, none⟩ = some (S x) := ⟨_, hdc i (S (l1[i]'(by omega))) (by simp [show i < l1.length by omega])⟩
          obtain ⟨x, hx⟩ := hdx
          have hfx := hdf i
          have hii : (i : Int) < (m : Int) := by omega
          have hi0 : (0 : Int) ≤ (i : Int) := by omega
          have hne := own_ne (e := 52) (e' := 9) hJ.own ho1 (by decide)
          have hJ' : SpoInv w lo hi n (some ⟨g, 0, none⟩) c qs (wi.setCell ⟨gd, i, none⟩ (S spoilt)) := by
            refine ⟨hJ.len, ?_, fun p hp => (hJ.datas p hp).stored gd i spoilt, hJ.betw.setCell hdw hgd _⟩
            refine ⟨hJ.own.1, ?_⟩
            rcases hJ.own.2 with h1 | ⟨g', cap, cur, h1, hg, hh, h4⟩
            · exact .inl h1
            · refine .inr ⟨g', cap, cur, h1, hg, (Below.heap_setCell wi ⟨gd, i, none⟩ _ g' (fun e => ?_)).trans hh, h4⟩
              injection h1 with h1
              injection h1 with h1
              injection h1 with h1 _ _
              rcases hne with hne | hne
              · simp [Value.ownBlock] at hne
              · exact hne (by simp [Value.ownBlock]; exact h1.trans e)
          clear hne hdf hdc hqk e3 ho1 hgf2 hgc2
          go_wp2_with fail
          go_roundw
          case rel => exact ⟨i + 1, by omega, by go_num, hJ'⟩
          case measure => simp [intOf]; omega
        · obtain rfl : i = m := by omega
          have hf0 := hgf2 (k * 5)
          have hf1 := hgf2 (k * 5 + 1)
          have hf2 := hgf2 (k * 5 + 2)
          have hf3 := hgf2 (k * 5 + 3)
          have hf4 := hgf2 (k * 5 + 4)
          clear hgf2 hgc2
          go_wp2_with fail
          go_roundw
          case rel =>
            refine ⟨k + 1, qs.set k (⟨spoilt, 0, 0, 0, []⟩, .slice none 0 0), by omega, by go_num, ⟨by simp [hJ.len], ?_, fun p hp => ?_, ?_⟩⟩
            · exact Own.stored5 hJ.own hJ.len Hps.out hql (⟨spoilt, 0, 0, 0, []⟩, .slice none 0 0)
            · rcases List.mem_or_eq_of_mem_set hp with h | h
              · have hne : p.2.ownBlock = none ∨ p.2.ownBlock ≠ some g := by
                  obtain ⟨l9, ho9, _⟩ := hJ.datas p h
                  exact ostrs_ne ho9 hJ.own
                exact AnyStrs.other (p := ⟨g, _, none⟩) (AnyStrs.other (p := ⟨g, _, none⟩) (AnyStrs.other (p := ⟨g, _, none⟩) (AnyStrs.other (p := ⟨g, _, none⟩) (AnyStrs.other (p := ⟨g, _, none⟩) (hJ.datas p h) _ hne) _ hne) _ hne) _ hne) _ hne
              · subst h
                exact ⟨[], ⟨none, 0, rfl, Own.nil _ _ _ _⟩, by simp [Value.ownBlock]⟩
            · exact ((((hJ.betw.setCell hgw hgh _).setCell hgw hgh _).setCell hgw hgh _).setCell hgw hgh _).setCell hgw hgh _
          case measure => simp [intOf]; omega
    · go_wp2_with fail
      go_end0
      exact ⟨rfl, hI.betw⟩
end Go.Proofs.YtcdlojcnjodbpaaDoor
