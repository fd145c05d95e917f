/- Contracts of functions and plain lemmas that the proofs of this seat share (joined texts). No condition. -/
import Derived.Test.YtbdjoihckienbaaGreatDoorBr
import Derived.Test.YtbdjoihckienbaaGreatDoorBv
import Derived.Test.YtbdjoihckienbaaGreatDoorBg
namespace Go.Proofs.YtbdjoihckienbaaGreatDoor
set_option linter.unusedSimpArgs false
set_option linter.unusedVariables false
open Go.RowKit
set_option maxRecDepth 100000

theorem Betw.alloc {lo hi : Nat} {a w : World} (h : Betw lo hi a w) (o : Obj) : Betw lo hi a (w.alloc o) :=
  ⟨h.os, h.tape, h.output, Nat.le_trans h.size (by simp), fun k hk h3 => by
    have e : (w.alloc o).heap[k]? = w.heap[k]? := ((Ext.refl w).alloc o).block k (Nat.lt_of_lt_of_le hk h.size)
    rw [e]; exact h.block k hk h3⟩
theorem Own.off {w : World} {lo : Nat} {e : TypeId} {sz n c : Nat} {A : Option Addr} {xs : List Value} (h : Own w lo e sz A n c xs) {p : Addr} (hp : (Value.slice A n c).ownBlock = none ∨ (Value.slice A n c).ownBlock ≠ some p.block) (u : Value) : Own (w.setCell p u) lo e sz A n c xs := by
  refine ⟨h.1, ?_⟩
  rcases h.2 with h1 | ⟨g', cap, cur, h1, hg, hh, h4⟩
  · exact .inl h1
  · refine .inr ⟨g', cap, cur, h1, hg, (Below.heap_setCell w p u g' (fun e => ?_)).trans hh, h4⟩
    injection h1 with h1
    subst h1
    rcases hp with hp | hp
    · simp [Value.ownBlock] at hp
    · exact hp (by simp [Value.ownBlock]; exact e)
structure Spo2 (w : World) (lo hi gl : Nat) (n : Nat → Nat) (A : Nat → Option Addr) (c : Nat → Nat) (qs : Nat → List (SetD × Value)) (wr : World) : Prop where
  len : ∀ j, j < 2 → (qs j).length = n j
  own : ∀ j, j < 2 → Own wr lo 55 5 (A j) (n j) (c j) ((qs j).flatMap setCells)
  datas : ∀ j, j < 2 → ∀ p ∈ qs j, AnyStrs wr lo hi p.2
  lst : ∀ j, j < 2 → wr.cell? ⟨gl, j, none⟩ = some (.slice (A j) (n j) (c j))
  betw : Betw lo hi w wr
theorem lst_set {wr : World} {gl j g i : Nat} {v : Value} (h : wr.cell? ⟨gl, j, none⟩ = some v) (hg : g ≠ gl) (u : Value) : (wr.setCell ⟨g, i, none⟩ u).cell? ⟨gl, j, none⟩ = some v := by
  rw [World.cell?_setCell_other wr ⟨g, i, none⟩ ⟨gl, j, none⟩ _ (by intro e; injection e with e _ _; first | exact hg e | exact hg e.symm)]
  exact h
theorem Spo2.store {w wr : World} {lo hi gl : Nat} {n : Nat → Nat} {A : Nat → Option Addr} {c : Nat → Nat} {qs : Nat → List (SetD × Value)} (h : Spo2 w lo hi gl n A c qs wr) {gd : Nat} (h1 : lo ≤ gd) (h2 : gd < hi) (hgl : hi ≤ gl)
    (hne : ∀ j, j < 2 → (Value.slice (A j) (n j) (c j)).ownBlock = none ∨ (Value.slice (A j) (n j) (c j)).ownBlock ≠ some gd) (i : Nat) (x : List UInt8) : Spo2 w lo hi gl n A c qs (wr.setCell ⟨gd, i, none⟩ (S x)) :=
  ⟨h.len, fun j hj => (h.own j hj).off (hne j hj) _, fun j hj p hp => (h.datas j hj p hp).stored gd i x, fun j hj => lst_set (h.lst j hj) (by omega) _, h.betw.setCell h1 h2 _⟩
theorem Spo2.set {w wr : World} {lo hi gl : Nat} {n : Nat → Nat} {A : Nat → Option Addr} {c : Nat → Nat} {qs : Nat → List (SetD × Value)} (h : Spo2 w lo hi gl n A c qs wr) {k g m : Nat} (hk : k < 2) (hA : A k = some ⟨g, 0, none⟩) (h1 : lo ≤ g) (h2 : g < hi) (hgl : hi ≤ gl)
    (hsep : ∀ i j, i < 2 → j < 2 → i ≠ j → (Value.slice (A i) (n i) (c i)).ownBlock = none ∨ (Value.slice (A i) (n i) (c i)).ownBlock ≠ (Value.slice (A j) (n j) (c j)).ownBlock) {p : SetD × Value} (hp : (qs k)[m]? = some p) (hm : m < (qs k).length) (q : List UInt8) :
    Spo2 w lo hi gl n A c (fun j => if j = k then (qs k).set m (⟨q, 0, 0, 0, []⟩, .slice none 0 0) else qs j) (((((wr.setCell ⟨g, m * 5, none⟩ (S q)).setCell ⟨g, m * 5 + 1, none⟩ (.int .u16 0)).setCell ⟨g, m * 5 + 2, none⟩ (.int .u16 0)).setCell ⟨g, m * 5 + 3, none⟩ (.int .u32 0)).setCell ⟨g, m * 5 + 4, none⟩ (.slice none 0 0)) := by
  have hb : (Value.slice (A k) (n k) (c k)).ownBlock = some g := by rw [hA]; rfl
  have hg5 : ∀ {v : Value} {j : Nat}, wr.cell? ⟨gl, j, none⟩ = some v → (((((wr.setCell ⟨g, m * 5, none⟩ (S q)).setCell ⟨g, m * 5 + 1, none⟩ (.int .u16 0)).setCell ⟨g, m * 5 + 2, none⟩ (.int .u16 0)).setCell ⟨g, m * 5 + 3, none⟩ (.int .u32 0)).setCell ⟨g, m * 5 + 4, none⟩ (.slice none 0 0)).cell? ⟨gl, j, none⟩ = some v :=
    fun hc => lst_set (lst_set (lst_set (lst_set (lst_set hc (by omega) _) (by omega) _) (by omega) _) (by omega) _) (by omega) _
  have hstr : ∀ p ∈ qs 0 ++ qs 1, True := fun _ _ => trivial
  refine ⟨fun j hj => ?_, fun j hj => ?_, fun j hj x hx => ?_, fun j hj => hg5 (h.lst j hj), ?_⟩
  · split
    · rename_i e; subst e; rw [List.length_set]; exact h.len j hj
    · exact h.len j hj
  · split
    · rename_i e
      subst e
      have ho := h.own j hj
      rw [hA] at ho ⊢
      exact Own.stored5 ho (h.len j hj) hp hm (⟨q, 0, 0, 0, []⟩, .slice none 0 0)
    · rename_i e
      have hs : (Value.slice (A j) (n j) (c j)).ownBlock = none ∨ (Value.slice (A j) (n j) (c j)).ownBlock ≠ some g := by
        rw [← hb]; exact hsep j k hj hk e
      exact ((((((h.own j hj).off (p := ⟨g, _, none⟩) hs _).off (p := ⟨g, _, none⟩) hs _).off (p := ⟨g, _, none⟩) hs _).off (p := ⟨g, _, none⟩) hs _).off (p := ⟨g, _, none⟩) hs _)
  · have hold : ∀ j', j' < 2 → ∀ y ∈ qs j', AnyStrs (((((wr.setCell ⟨g, m * 5, none⟩ (S q)).setCell ⟨g, m * 5 + 1, none⟩ (.int .u16 0)).setCell ⟨g, m * 5 + 2, none⟩ (.int .u16 0)).setCell ⟨g, m * 5 + 3, none⟩ (.int .u32 0)).setCell ⟨g, m * 5 + 4, none⟩ (.slice none 0 0)) lo hi y.2 := fun j' hj' y hy => by
      have hne : y.2.ownBlock = none ∨ y.2.ownBlock ≠ some g := by
        obtain ⟨l9, ho9, _⟩ := h.datas j' hj' y hy
        have := ostrs_ne ho9 (h.own k hk)
        rw [hb] at this
        exact this
      exact AnyStrs.other (p := ⟨g, _, none⟩) (AnyStrs.other (p := ⟨g, _, none⟩) (AnyStrs.other (p := ⟨g, _, none⟩) (AnyStrs.other (p := ⟨g, _, none⟩) (AnyStrs.other (p := ⟨g, _, none⟩) (h.datas j' hj' y hy) _ hne) _ hne) _ hne) _ hne) _ hne
    split at hx
    · rename_i e
      subst e
      rcases List.mem_or_eq_of_mem_set hx with hx | hx
      · exact hold j hj x hx
      · subst hx
        exact ⟨[], ⟨none, 0, rfl, Own.nil _ _ _ _⟩, by simp [Value.ownBlock]⟩
    · exact hold j hj x hx
  · exact ((((h.betw.setCell (p := ⟨g, _, none⟩) h1 h2 _).setCell (p := ⟨g, _, none⟩) h1 h2 _).setCell (p := ⟨g, _, none⟩) h1 h2 _).setCell (p := ⟨g, _, none⟩) h1 h2 _).setCell (p := ⟨g, _, none⟩) h1 h2 _

set_option maxHeartbeats 4000000 in
theorem law11_spoil (lo : Nat) (code : Int) (vs vo : Value) (ss oo : List SetD) (wm w : World) (h : OSets wm lo vs ss) (h' : OSets wm lo vo oo) (hne : vo.ownBlock = none ∨ vo.ownBlock ≠ vs.ownBlock) (hE : Ext wm w) :
    Calls Tryz.prog 15 #[.agg #[.int .u8 code, vs, vo]] w (SpoilPost lo wm.heap.size w) := by
  obtain ⟨ps, vA, vc, _, rfl, how, hdw⟩ := h
  obtain ⟨rs, oA, oc, _, rfl, hoo, hdo⟩ := h'
  obtain ⟨A, n, c, qs0, a0, a1, n0, n1, c0, c1, q0, q1⟩ : ∃ (A : Nat → Option Addr) (n c : Nat → Nat) (qs : Nat → List (SetD × Value)), A 0 = vA ∧ A 1 = oA ∧ n 0 = ps.length ∧ n 1 = rs.length ∧ c 0 = vc ∧ c 1 = oc ∧ qs 0 = ps ∧ qs 1 = rs :=
    ⟨fun j => if j = 0 then vA else oA, fun j => if j = 0 then ps.length else rs.length, fun j => if j = 0 then vc else oc, fun j => if j = 0 then ps else rs, rfl, rfl, rfl, rfl, rfl, rfl, rfl, rfl⟩
  have hall : ∀ (P : Nat → Prop), P 0 → P 1 → ∀ j, j < 2 → P j := fun P h0 h1 j hj => by
    rcases (show j = 0 ∨ j = 1 by omega) with rfl | rfl
    · exact h0
    · exact h1
  have hblk : ∀ j, j < 2 → ∀ k, (Value.slice (A j) (n j) (c j)).ownBlock = some k → lo ≤ k ∧ k < wm.heap.size :=
    hall _ (by rw [a0, n0, c0]; exact how.blk) (by rw [a1, n1, c1]; exact hoo.blk)
  have hcap : ∀ j, j < 2 → n j ≤ c j ∧ c j ≤ maxLen := hall _ (by rw [n0, c0]; exact how.cap) (by rw [n1, c1]; exact hoo.cap)
  have hn9 : ∀ j, j < 2 → n j ≤ 9223372036854775807 := fun j hj => by have := hcap j hj; unfold maxLen at this; omega
  have hc9 : ∀ j, j < 2 → c j ≤ 9223372036854775807 := fun j hj => by have := hcap j hj; unfold maxLen at this; omega
  have hsep : ∀ i j, i < 2 → j < 2 → i ≠ j → (Value.slice (A i) (n i) (c i)).ownBlock = none ∨ (Value.slice (A i) (n i) (c i)).ownBlock ≠ (Value.slice (A j) (n j) (c j)).ownBlock := fun i j hi hj hij => by
    rcases (show (i = 0 ∧ j = 1) ∨ (i = 1 ∧ j = 0) by omega) with ⟨rfl, rfl⟩ | ⟨rfl, rfl⟩
    · rw [a0, n0, c0, a1, n1, c1]
      rcases hv : (Value.slice vA ps.length vc).ownBlock with _ | k
      · exact .inl rfl
      · refine .inr (fun e => ?_)
        rcases hne with h | h
        · rw [h] at e; cases e
        · exact h (e.symm.trans hv.symm)
    · rw [a0, n0, c0, a1, n1, c1]
      exact hne
  obtain ⟨X, hX⟩ : ∃ X, X = (w.alloc (.cells #[.int .u8 code, .slice vA ps.length vc, .slice oA rs.length oc] 38)).alloc (.cells #[.slice vA ps.length vc, .slice oA rs.length oc] 36) := ⟨_, rfl⟩
  obtain ⟨kl, _, zl⟩ := ext_new_at (w.heap.size + 1) (by simp) (Ext.refl ((w.alloc (.cells #[.int .u8 code, .slice vA ps.length vc, .slice oA rs.length oc] 38)).alloc (.cells #[.slice vA ps.length vc, .slice oA rs.length oc] 36)))
  rw [← hX] at kl zl
  have hwX : Ext w X := by rw [hX]; exact ((Ext.refl _).alloc _).alloc _
  have hbX : Betw lo wm.heap.size w X := by rw [hX]; exact ((Betw.refl _ _ _).alloc _).alloc _
  have hlst : ∀ j, j < 2 → X.cell? ⟨w.heap.size + 1, j, none⟩ = some (.slice (A j) (n j) (c j)) := hall _ (by rw [a0, n0, c0]; exact kl 0) (by rw [a1, n1, c1]; exact kl 1)
  have hI0 : Spo2 w lo wm.heap.size (w.heap.size + 1) n A c qs0 X := by
    refine ⟨hall _ (by rw [q0, n0]) (by rw [q1, n1]), hall _ ?_ ?_, hall _ ?_ ?_, hlst, hbX⟩
    · rw [a0, n0, c0, q0]; exact (how.ext hE).ext hwX
    · rw [a1, n1, c1, q1]; exact (hoo.ext hE).ext hwX
    · rw [q0]; exact fun p hp => ⟨_, ((hdw p hp).ext hE).ext hwX, fun k hk => ((hdw p hp).blk k hk).2⟩
    · rw [q1]; exact fun p hp => ⟨_, ((hdo p hp).ext hE).ext hwX, fun k hk => ((hdo p hp).blk k hk).2⟩
  have hgl : wm.heap.size ≤ w.heap.size + 1 := by have := hE.size; omega
  generalize wm.heap.size = hi at *
  have Hcap := Lib.hid hcap
  have Hblk := Lib.hid hblk
  have Hsep := Lib.hid hsep
  have Hn9 := Lib.hid hn9
  have Hc9 := Lib.hid hc9
  have HI0 := Lib.hid hI0
  clear hI0 hlst kl how hoo hdw hdo hcap hblk hsep hall hE hne q0 q1 n0 n1 a0 a1 c0 c1 hn9 hc9 hbX
  obtain ⟨gl, hglE⟩ : ∃ gl, gl = w.heap.size + 1 := ⟨_, rfl⟩
  rw [← hglE] at HI0 hgl zl
  have HglE := Lib.hid hglE
  clear hglE
  go_enter Tryz.func15, Tryz.ntmps15
  go_wp2_with fail
  rw [← hX, ← HglE.out]
  clear hX
  go_loopw [3, 4, 5] (fun i _ _ wr => ∃ (k : Nat) (qs : Nat → List (SetD × Value)), k ≤ 2 ∧ i = .int .i64 k ∧ Spo2 w lo hi gl n A c qs wr) (fun i _ _ _ => 2 - (intOf i).toNat)
  case atStart => exact ⟨0, qs0, by omega, rfl, HI0.out⟩
  case round =>
    obtain ⟨i, qs, hi2, rfl, hI⟩ := hrel
    obtain ⟨wo, rfl⟩ : ∃ wo : World, wo = wr := ⟨_, rfl⟩
    by_cases hik : i < 2
    · have hki : (i : Int) < 2 := by omega
      have hki0 : (0 : Int) ≤ (i : Int) := by omega
      have hn := Hn9.out i hik
      have hcc := Hc9.out i hik
      go_wp2_with fail
      go_loopw [4, 5] (fun j _ wr => ∃ (k : Nat) (qs : Nat → List (SetD × Value)), k ≤ n i ∧ j = .int .i64 k ∧ Spo2 w lo hi gl n A c qs wr) (fun j _ _ => n i - (intOf j).toNat)
      case atStart => exact ⟨0, qs, by omega, rfl, hI⟩
      case round =>
        obtain ⟨k, qs, hk, rfl, hI⟩ := hrel
        obtain ⟨wo, rfl⟩ : ∃ wo : World, wo = wr := ⟨_, rfl⟩
        have ql := hI.lst i hik
        by_cases hlt : k < n i
        · obtain ⟨g, hA, hgw, hgz, hgf, hgc⟩ := (hI.own i hik).addr (by omega)
          have hgh : g < hi := (Hblk.out i hik g (by rw [hA]; rfl)).2
          have hql : k < (qs i).length := by rw [hI.len i hik]; exact hlt
          have hmem : (qs i)[k] ∈ qs i := List.getElem_mem hql
          have hps : (qs i)[k]? = some (qs i)[k] := List.getElem?_eq_getElem hql
          generalize hpe : (qs i)[k] = p at *
          obtain ⟨⟨pn, pt, pc, ptl, pd⟩, pv⟩ := p
          obtain ⟨l0, ⟨pA, pcc, rfl, ho0⟩, hpk⟩ := hI.datas i hik _ hmem
          have hc0 := ho0.cap
          have hm2 := hc0.2
          unfold maxLen at hm2
          have hkk : (k : Int) < (n i : Int) := by omega
          have hk0 : (0 : Int) ≤ (k : Int) := by omega
          generalize hm : l0.length = m at *
          have hm9 : m ≤ 9223372036854775807 := by have := hc0.1; omega
          have HA := Lib.hid hA
          have Hps := Lib.hid hps
          rw [hA] at ql
          clear hm ho0 hgc hgf hc0 hps hpe hA
          go_wp2_with fail
          go_loopw [5] (fun j wi => ∃ (z : Nat), z ≤ m ∧ j = .int .i64 z ∧ Spo2 w lo hi gl n A c qs wi) (fun j _ => m - (intOf j).toNat)
          case atStart => exact ⟨0, by omega, rfl, hI⟩
          case round =>
            obtain ⟨z, hz, rfl, hJ⟩ := hrel
            obtain ⟨wi, rfl⟩ : ∃ wi : World, wi = wr := ⟨_, rfl⟩
            obtain ⟨g2, e2, _, hgz2, hgf2, hgc2⟩ := (hJ.own i hik).addr (by omega)
            rw [HA.out] at e2
            injection e2 with e2
            injection e2 with e2 _ _
            subst e2
            have qi := hJ.lst i hik
            rw [HA.out] at qi
            have hcs := sets_cells (off := 0) (fun j u hu => by rw [Nat.zero_add]; exact hgc2 j u hu) k _ Hps.out
            simp only [Nat.zero_add] at hcs
            obtain ⟨y0, y1, y2, y3, y4⟩ := hcs
            clear ql
            by_cases hil : z < m
            · obtain ⟨l1, ⟨qA, qc, e1, ho1⟩, hqk⟩ := hJ.datas i hik _ hmem
              dsimp only at e1 ho1 hqk
              injection e1 with e1 e3 e4
              subst e1 e4
              rw [← e3] at ho1
              obtain ⟨gd, rfl, hdw, hdz, hdf, hdc⟩ := ho1.addr (by omega)
              have hgd : gd < hi := hqk gd rfl
              have hdx : ∃ x, wi.cell? ⟨gd, z, none⟩ = some (S x) := ⟨_, hdc z (S (l1[z]'(by omega))) (by simp [show z < l1.length by omega])⟩
              obtain ⟨x, hx⟩ := hdx
              have hfx := hdf z
              have hii : (z : Int) < (m : Int) := by omega
              have hi0 : (0 : Int) ≤ (z : Int) := by omega
              have HJ := Lib.hid (hJ.store hdw hgd hgl (fun j hj => own_ne (e := 55) (e' := 9) (hJ.own j hj) ho1 (by decide)) z spoilt)
              clear hdf hdc hqk e3 ho1 hgf2 hgc2
              go_wp2_with fail
              go_roundw
              case rel => exact ⟨z + 1, by omega, by go_num, HJ.out⟩
              case measure => simp [intOf]; omega
            · obtain rfl : z = m := by omega
              have hf0 := hgf2 (k * 5)
              have hf1 := hgf2 (k * 5 + 1)
              have hf2 := hgf2 (k * 5 + 2)
              have hf3 := hgf2 (k * 5 + 3)
              have hf4 := hgf2 (k * 5 + 4)
              have HJ := Lib.hid (hJ.set hik HA.out hgw hgh hgl Hsep.out Hps.out hql spoilt)
              clear hgf2 hgc2
              go_wp2_with fail
              go_roundw
              case rel => exact ⟨k + 1, _, by omega, by go_num, HJ.out⟩
              case measure => simp [intOf]; omega
        · obtain rfl : k = n i := by omega
          go_wp2_with fail
          go_roundw
          case rel => exact ⟨i + 1, qs, by omega, by go_num, hI⟩
          case measure => simp [intOf]; omega
    · have hki : ¬ (i : Int) < 2 := by omega
      go_wp2_with fail
      go_end0
      exact ⟨rfl, hI.betw⟩
end Go.Proofs.YtbdjoihckienbaaGreatDoor
