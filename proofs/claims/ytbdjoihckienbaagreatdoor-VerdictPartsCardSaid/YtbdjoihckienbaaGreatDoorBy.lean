/- Contracts of functions and plain lemmas that the proofs of this seat share (joined texts). No condition. -/
import Derived.Test.YtbdjoihckienbaaGreatDoorBg
import Derived.Test.YtbdjoihckienbaaGreatDoorBv
namespace Go.Proofs.YtbdjoihckienbaaGreatDoor
set_option linter.unusedSimpArgs false
set_option linter.unusedVariables false
open Go.ChangeShapes Go.WideShapes Go.RowKit Go.Deep Go.Joins
set_option maxRecDepth 100000

theorem wf_u8 {n : Int} (h : (Lit.int .u8 n).wf = true) : 0 ≤ n ∧ n ≤ 255 := by
  have h1 : IntKind.u8.min = 0 := rfl
  have h2 : IntKind.u8.max = 255 := rfl
  simp [Lit.wf] at h; omega
theorem recs_trod {H : Type} {enc : TypeId × Value → H} {W : World} {fuel : Nat} {v : Value} {y : DataW H × List MemPlace}
    (hf : DataW.trod enc Tryz.prog W 0 (fun _ => true) true fuel 28 [v] = some y) : ∃ (A : Option Addr) (c : Nat) (l : List RecD), v = .slice A l.length c ∧ Recs W 0 (.slice A l.length c) l ∧ ∀ x ∈ l, RecOk x := by
  rcases open_slice_fields Tryz.underlying28 Tryz.underlying48 (by kernel_rfl) (by kernel_rfl) hf with ⟨e, _⟩ | ⟨a, len, cap, m, D, Pl, e, _, hl, hm, hmm, _, hi⟩
  · simp only [List.cons.injEq, and_true] at e
    rw [e]
    exact ⟨none, 0, [], rfl, ⟨none, 0, rfl, by simp, by unfold maxLen; omega, Rd.nil _ _ _ _⟩, by simp⟩
  · simp only [List.cons.injEq, and_true] at e
    rw [e]
    have hmc : len ≤ m := by rw [hmm]; split <;> omega
    obtain ⟨l, hll, hq⟩ := pick (⟨[], 0, 0, 0, []⟩ : RecD) len (fun i r => (W.cell? (a.add (i * 5 + 0)) = some (S r.name) ∧ W.cell? (a.add (i * 5 + 1)) = some (.int .u16 r.typ) ∧ W.cell? (a.add (i * 5 + 2)) = some (.int .u16 r.cls) ∧ W.cell? (a.add (i * 5 + 3)) = some (.int .u32 r.ttl) ∧ W.cell? (a.add (i * 5 + 4)) = some (S r.data)) ∧ RecOk r) (fun i hi' => by
      obtain ⟨ys, n, _, _, _, hy⟩ := hi i (by omega)
      obtain ⟨v0, y0, c0, _, t0⟩ := hy 0 _ rfl
      obtain ⟨v1, y1, c1, _, t1⟩ := hy 1 _ rfl
      obtain ⟨v2, y2, c2, _, t2⟩ := hy 2 _ rfl
      obtain ⟨v3, y3, c3, _, t3⟩ := hy 3 _ rfl
      obtain ⟨v4, y4, c4, _, t4⟩ := hy 4 _ rfl
      obtain ⟨s, e0, _, hs⟩ := DataW.trod_string Tryz.underlying9 t0
      obtain ⟨x1, e1, _, w1⟩ := DataW.trod_int Tryz.underlying22 t1
      obtain ⟨x2, e2, _, w2⟩ := DataW.trod_int Tryz.underlying22 t2
      obtain ⟨x3, e3, _, w3⟩ := DataW.trod_int Tryz.underlying39 t3
      obtain ⟨u, e4, _, hu⟩ := DataW.trod_string Tryz.underlying9 t4
      injection e0 with e0 _
      injection e1 with e1 _
      injection e2 with e2 _
      injection e3 with e3 _
      injection e4 with e4 _
      subst e0 e1 e2 e3 e4
      rw [S_of] at c0 c4
      exact ⟨⟨s.data.toList, x1, x2, x3, u.data.toList⟩, ⟨c0, c1, c2, c3, c4⟩, len_of hs, len_of hu, wf_u16 w1, wf_u16 w2, wf_u32 w3⟩)
    subst hll
    refine ⟨some a, cap, l, rfl, ⟨some a, cap, rfl, hl, hm, ?_, fun h0 => ?_⟩, fun x hx => ?_⟩
    · exact flatR_len l
    · have hz := (hq 0 h0).1.1
      rw [show a.add (0 * 5 + 0) = a from rfl] at hz
      obtain ⟨ea, hb⟩ := spot_of hz
      refine ⟨a.block, a.off, by rw [← ea], Nat.zero_le _, hb, recs_of fun i hi' => ?_⟩
      have := (hq i hi').1
      rw [ea] at this
      simp only [add_none] at this
      exact this
    · obtain ⟨i, hi', rfl⟩ := List.getElem_of_mem hx
      exact (hq i hi').2
theorem slice_trod {H : Type} {enc : TypeId × Value → H} {W : World} {fuel : Nat} {v : Value} {t e : TypeId} {y : DataW H × List MemPlace} (ht : Tryz.prog.underlying t = some (.slice e))
    (hf : DataW.trod enc Tryz.prog W 0 (fun _ => true) true fuel t [v] = some y) : ∃ (A : Option Addr) (n c : Nat), v = .slice A n c ∧ n ≤ c ∧ c ≤ maxLen := by
  rcases open_slice ht hf with ⟨e, _⟩ | ⟨a, len, cap, m, n, D, Pl, hcs, _, hl, hm, _⟩
  · simp only [List.cons.injEq, and_true] at e
    exact ⟨none, 0, 0, e, Nat.le_refl _, by unfold maxLen; omega⟩
  · simp only [List.cons.injEq, and_true] at hcs
    exact ⟨some a, len, cap, hcs, hl, hm⟩
theorem some_at {α : Type} {l : List α} {n j : Nat} (h : l.length = n) (hj : j < n) : ∃ x, l[j]? = some x := ⟨l[j]'(by omega), List.getElem?_eq_getElem _⟩

set_option maxHeartbeats 2000000 in
theorem open_msg {H : Type} {enc : TypeId × Value → H} {W : World} {r : Reach} {b0 : Nat} {v : Value} {d : DataW H} {p : List MemPlace}
    (hv : Value.okWide Tryz.prog W r b0 33 v) (h : DataW.Trod enc Tryz.prog W 0 (fun _ => true) true 33 v d p) :
    ∃ (x : MsgX) (code : Int) (aA : Option Addr) (ac : Nat) (uA : Option Addr) (uc : Nat) (ans auth ext : List RecD), v = msgV x code (.slice aA ans.length ac) (.slice uA auth.length uc) ∧ Recs W 0 (.slice aA ans.length ac) ans ∧ Recs W 0 (.slice uA auth.length uc) auth ∧ Recs W 0 (.slice x.xA x.xn x.xc) ext ∧
      (∀ r ∈ ans, RecOk r) ∧ (∀ r ∈ auth, RecOk r) ∧ (∀ r ∈ ext, RecOk r) ∧ (0 ≤ code ∧ code ≤ 255) ∧ x.qn ≤ maxLen := by
  obtain ⟨cs, rfl, hsz⟩ := okWide_struct Tryz.underlying33 hv
  obtain ⟨l⟩ := cs
  have hC : Tryz.prog.cellsOf 33 = 21 := by kernel_rfl
  match l, hsz.trans hC with
  | [c0, c1, c2, c3, c4, c5, c6, c7, c8, c9, c10, c11, c12, c13, c14, c15, c16, c17, c18, c19, c20], _ =>
    obtain ⟨fuel, hf⟩ := h
    obtain ⟨xs, n, _, _, _, hlen, hg⟩ := DataW.trod_struct Tryz.underlying33 hf
    obtain ⟨y0, hy0⟩ := some_at hlen (show 0 < _ by decide)
    obtain ⟨y1, hy1⟩ := some_at hlen (show 1 < _ by decide)
    obtain ⟨y2, hy2⟩ := some_at hlen (show 2 < _ by decide)
    obtain ⟨y3, hy3⟩ := some_at hlen (show 3 < _ by decide)
    obtain ⟨y4, hy4⟩ := some_at hlen (show 4 < _ by decide)
    obtain ⟨y5, hy5⟩ := some_at hlen (show 5 < _ by decide)
    obtain ⟨y6, hy6⟩ := some_at hlen (show 6 < _ by decide)
    have g0 : DataW.trod enc Tryz.prog W 0 (fun _ => true) true n 26 ((([c0, c1, c2, c3, c4, c5, c6, c7, c8, c9, c10, c11, c12, c13, c14, c15, c16, c17, c18, c19, c20] : List Value).drop 0).take (Tryz.prog.cellsOf 26)) = some y0 := (hg 0 _ rfl).trans hy0
    have g1 : DataW.trod enc Tryz.prog W 0 (fun _ => true) true n 27 ((([c0, c1, c2, c3, c4, c5, c6, c7, c8, c9, c10, c11, c12, c13, c14, c15, c16, c17, c18, c19, c20] : List Value).drop 11).take (Tryz.prog.cellsOf 27)) = some y1 := (hg 1 _ rfl).trans hy1
    have g2 : DataW.trod enc Tryz.prog W 0 (fun _ => true) true n 28 ((([c0, c1, c2, c3, c4, c5, c6, c7, c8, c9, c10, c11, c12, c13, c14, c15, c16, c17, c18, c19, c20] : List Value).drop 12).take (Tryz.prog.cellsOf 28)) = some y2 := (hg 2 _ rfl).trans hy2
    have g3 : DataW.trod enc Tryz.prog W 0 (fun _ => true) true n 28 ((([c0, c1, c2, c3, c4, c5, c6, c7, c8, c9, c10, c11, c12, c13, c14, c15, c16, c17, c18, c19, c20] : List Value).drop 13).take (Tryz.prog.cellsOf 28)) = some y3 := (hg 3 _ rfl).trans hy3
    have g4 : DataW.trod enc Tryz.prog W 0 (fun _ => true) true n 28 ((([c0, c1, c2, c3, c4, c5, c6, c7, c8, c9, c10, c11, c12, c13, c14, c15, c16, c17, c18, c19, c20] : List Value).drop 14).take (Tryz.prog.cellsOf 28)) = some y4 := (hg 4 _ rfl).trans hy4
    have g5 : DataW.trod enc Tryz.prog W 0 (fun _ => true) true n 4 ((([c0, c1, c2, c3, c4, c5, c6, c7, c8, c9, c10, c11, c12, c13, c14, c15, c16, c17, c18, c19, c20] : List Value).drop 15).take (Tryz.prog.cellsOf 4)) = some y5 := (hg 5 _ rfl).trans hy5
    have g6 : DataW.trod enc Tryz.prog W 0 (fun _ => true) true n 31 ((([c0, c1, c2, c3, c4, c5, c6, c7, c8, c9, c10, c11, c12, c13, c14, c15, c16, c17, c18, c19, c20] : List Value).drop 16).take (Tryz.prog.cellsOf 31)) = some y6 := (hg 6 _ rfl).trans hy6
    rw [show Tryz.prog.cellsOf 26 = 11 by kernel_rfl] at g0
    rw [show Tryz.prog.cellsOf 27 = 1 by kernel_rfl] at g1
    rw [show Tryz.prog.cellsOf 28 = 1 by kernel_rfl] at g2 g3 g4
    rw [show Tryz.prog.cellsOf 4 = 1 by kernel_rfl] at g5
    rw [show Tryz.prog.cellsOf 31 = 5 by kernel_rfl] at g6
    simp only [List.drop_succ_cons, List.drop_zero, List.take_succ_cons, List.take_zero] at g0 g1 g2 g3 g4 g5 g6
    obtain ⟨qA, qn, qc, rfl, hq1, hq2⟩ := slice_trod Tryz.underlying27 g1
    obtain ⟨aA, ac, ans, rfl, hra, hka⟩ := recs_trod g2
    obtain ⟨uA, uc, auth, rfl, hru, hku⟩ := recs_trod g3
    obtain ⟨eA, ec, ext, rfl, hre, hke⟩ := recs_trod g4
    obtain ⟨he, e5, _⟩ := DataW.trod_bool Tryz.underlying4 g5
    obtain ⟨hs, n2, _, _, _, hlen2, hg2⟩ := DataW.trod_struct Tryz.underlying26 g0
    obtain ⟨es, n3, _, _, _, hlen3, hg3⟩ := DataW.trod_struct Tryz.underlying31 g6
    obtain ⟨z0, hz0⟩ := some_at hlen2 (show 0 < _ by decide)
    have k0 : DataW.trod enc Tryz.prog W 0 (fun _ => true) true n2 22 ((([c0, c1, c2, c3, c4, c5, c6, c7, c8, c9, c10] : List Value).drop 0).take (Tryz.prog.cellsOf 22)) = some z0 := (hg2 0 _ rfl).trans hz0
    rw [show Tryz.prog.cellsOf 22 = 1 by kernel_rfl] at k0
    simp only [List.drop_succ_cons, List.drop_zero, List.take_succ_cons, List.take_zero] at k0
    obtain ⟨i0, f0, _, w0⟩ := DataW.trod_int Tryz.underlying22 k0
    simp only [List.cons.injEq, and_true] at f0
    subst f0
    obtain ⟨z1, hz1⟩ := some_at hlen2 (show 1 < _ by decide)
    have k1 : DataW.trod enc Tryz.prog W 0 (fun _ => true) true n2 4 ((([.int .u16 i0, c1, c2, c3, c4, c5, c6, c7, c8, c9, c10] : List Value).drop 1).take (Tryz.prog.cellsOf 4)) = some z1 := (hg2 1 _ rfl).trans hz1
    rw [show Tryz.prog.cellsOf 4 = 1 by kernel_rfl] at k1
    simp only [List.drop_succ_cons, List.drop_zero, List.take_succ_cons, List.take_zero] at k1
    obtain ⟨b1, f1, _⟩ := DataW.trod_bool Tryz.underlying4 k1
    simp only [List.cons.injEq, and_true] at f1
    subst f1
    obtain ⟨z2, hz2⟩ := some_at hlen2 (show 2 < _ by decide)
    have k2 : DataW.trod enc Tryz.prog W 0 (fun _ => true) true n2 5 ((([.int .u16 i0, .bool b1, c2, c3, c4, c5, c6, c7, c8, c9, c10] : List Value).drop 2).take (Tryz.prog.cellsOf 5)) = some z2 := (hg2 2 _ rfl).trans hz2
    rw [show Tryz.prog.cellsOf 5 = 1 by kernel_rfl] at k2
    simp only [List.drop_succ_cons, List.drop_zero, List.take_succ_cons, List.take_zero] at k2
    obtain ⟨i2, f2, _, w2⟩ := DataW.trod_int Tryz.underlying5 k2
    simp only [List.cons.injEq, and_true] at f2
    subst f2
    obtain ⟨z3, hz3⟩ := some_at hlen2 (show 3 < _ by decide)
    have k3 : DataW.trod enc Tryz.prog W 0 (fun _ => true) true n2 4 ((([.int .u16 i0, .bool b1, .int .u8 i2, c3, c4, c5, c6, c7, c8, c9, c10] : List Value).drop 3).take (Tryz.prog.cellsOf 4)) = some z3 := (hg2 3 _ rfl).trans hz3
    rw [show Tryz.prog.cellsOf 4 = 1 by kernel_rfl] at k3
    simp only [List.drop_succ_cons, List.drop_zero, List.take_succ_cons, List.take_zero] at k3
    obtain ⟨b3, f3, _⟩ := DataW.trod_bool Tryz.underlying4 k3
    simp only [List.cons.injEq, and_true] at f3
    subst f3
    obtain ⟨z4, hz4⟩ := some_at hlen2 (show 4 < _ by decide)
    have k4 : DataW.trod enc Tryz.prog W 0 (fun _ => true) true n2 4 ((([.int .u16 i0, .bool b1, .int .u8 i2, .bool b3, c4, c5, c6, c7, c8, c9, c10] : List Value).drop 4).take (Tryz.prog.cellsOf 4)) = some z4 := (hg2 4 _ rfl).trans hz4
    rw [show Tryz.prog.cellsOf 4 = 1 by kernel_rfl] at k4
    simp only [List.drop_succ_cons, List.drop_zero, List.take_succ_cons, List.take_zero] at k4
    obtain ⟨b4, f4, _⟩ := DataW.trod_bool Tryz.underlying4 k4
    simp only [List.cons.injEq, and_true] at f4
    subst f4
    obtain ⟨z5, hz5⟩ := some_at hlen2 (show 5 < _ by decide)
    have k5 : DataW.trod enc Tryz.prog W 0 (fun _ => true) true n2 4 ((([.int .u16 i0, .bool b1, .int .u8 i2, .bool b3, .bool b4, c5, c6, c7, c8, c9, c10] : List Value).drop 5).take (Tryz.prog.cellsOf 4)) = some z5 := (hg2 5 _ rfl).trans hz5
    rw [show Tryz.prog.cellsOf 4 = 1 by kernel_rfl] at k5
    simp only [List.drop_succ_cons, List.drop_zero, List.take_succ_cons, List.take_zero] at k5
    obtain ⟨b5, f5, _⟩ := DataW.trod_bool Tryz.underlying4 k5
    simp only [List.cons.injEq, and_true] at f5
    subst f5
    obtain ⟨z6, hz6⟩ := some_at hlen2 (show 6 < _ by decide)
    have k6 : DataW.trod enc Tryz.prog W 0 (fun _ => true) true n2 4 ((([.int .u16 i0, .bool b1, .int .u8 i2, .bool b3, .bool b4, .bool b5, c6, c7, c8, c9, c10] : List Value).drop 6).take (Tryz.prog.cellsOf 4)) = some z6 := (hg2 6 _ rfl).trans hz6
    rw [show Tryz.prog.cellsOf 4 = 1 by kernel_rfl] at k6
    simp only [List.drop_succ_cons, List.drop_zero, List.take_succ_cons, List.take_zero] at k6
    obtain ⟨b6, f6, _⟩ := DataW.trod_bool Tryz.underlying4 k6
    simp only [List.cons.injEq, and_true] at f6
    subst f6
    obtain ⟨z7, hz7⟩ := some_at hlen2 (show 7 < _ by decide)
    have k7 : DataW.trod enc Tryz.prog W 0 (fun _ => true) true n2 4 ((([.int .u16 i0, .bool b1, .int .u8 i2, .bool b3, .bool b4, .bool b5, .bool b6, c7, c8, c9, c10] : List Value).drop 7).take (Tryz.prog.cellsOf 4)) = some z7 := (hg2 7 _ rfl).trans hz7
    rw [show Tryz.prog.cellsOf 4 = 1 by kernel_rfl] at k7
    simp only [List.drop_succ_cons, List.drop_zero, List.take_succ_cons, List.take_zero] at k7
    obtain ⟨b7, f7, _⟩ := DataW.trod_bool Tryz.underlying4 k7
    simp only [List.cons.injEq, and_true] at f7
    subst f7
    obtain ⟨z8, hz8⟩ := some_at hlen2 (show 8 < _ by decide)
    have k8 : DataW.trod enc Tryz.prog W 0 (fun _ => true) true n2 4 ((([.int .u16 i0, .bool b1, .int .u8 i2, .bool b3, .bool b4, .bool b5, .bool b6, .bool b7, c8, c9, c10] : List Value).drop 8).take (Tryz.prog.cellsOf 4)) = some z8 := (hg2 8 _ rfl).trans hz8
    rw [show Tryz.prog.cellsOf 4 = 1 by kernel_rfl] at k8
    simp only [List.drop_succ_cons, List.drop_zero, List.take_succ_cons, List.take_zero] at k8
    obtain ⟨b8, f8, _⟩ := DataW.trod_bool Tryz.underlying4 k8
    simp only [List.cons.injEq, and_true] at f8
    subst f8
    obtain ⟨z9, hz9⟩ := some_at hlen2 (show 9 < _ by decide)
    have k9 : DataW.trod enc Tryz.prog W 0 (fun _ => true) true n2 4 ((([.int .u16 i0, .bool b1, .int .u8 i2, .bool b3, .bool b4, .bool b5, .bool b6, .bool b7, .bool b8, c9, c10] : List Value).drop 9).take (Tryz.prog.cellsOf 4)) = some z9 := (hg2 9 _ rfl).trans hz9
    rw [show Tryz.prog.cellsOf 4 = 1 by kernel_rfl] at k9
    simp only [List.drop_succ_cons, List.drop_zero, List.take_succ_cons, List.take_zero] at k9
    obtain ⟨b9, f9, _⟩ := DataW.trod_bool Tryz.underlying4 k9
    simp only [List.cons.injEq, and_true] at f9
    subst f9
    obtain ⟨z10, hz10⟩ := some_at hlen2 (show 10 < _ by decide)
    have k10 : DataW.trod enc Tryz.prog W 0 (fun _ => true) true n2 5 ((([.int .u16 i0, .bool b1, .int .u8 i2, .bool b3, .bool b4, .bool b5, .bool b6, .bool b7, .bool b8, .bool b9, c10] : List Value).drop 10).take (Tryz.prog.cellsOf 5)) = some z10 := (hg2 10 _ rfl).trans hz10
    rw [show Tryz.prog.cellsOf 5 = 1 by kernel_rfl] at k10
    simp only [List.drop_succ_cons, List.drop_zero, List.take_succ_cons, List.take_zero] at k10
    obtain ⟨i10, f10, _, w10⟩ := DataW.trod_int Tryz.underlying5 k10
    simp only [List.cons.injEq, and_true] at f10
    subst f10
    obtain ⟨t0, ht0⟩ := some_at hlen3 (show 0 < _ by decide)
    have m0 : DataW.trod enc Tryz.prog W 0 (fun _ => true) true n3 22 ((([c16, c17, c18, c19, c20] : List Value).drop 0).take (Tryz.prog.cellsOf 22)) = some t0 := (hg3 0 _ rfl).trans ht0
    rw [show Tryz.prog.cellsOf 22 = 1 by kernel_rfl] at m0
    simp only [List.drop_succ_cons, List.drop_zero, List.take_succ_cons, List.take_zero] at m0
    obtain ⟨j0, h0, _, _⟩ := DataW.trod_int Tryz.underlying22 m0
    simp only [List.cons.injEq, and_true] at h0
    subst h0
    obtain ⟨t1, ht1⟩ := some_at hlen3 (show 1 < _ by decide)
    have m1 : DataW.trod enc Tryz.prog W 0 (fun _ => true) true n3 5 ((([.int .u16 j0, c17, c18, c19, c20] : List Value).drop 1).take (Tryz.prog.cellsOf 5)) = some t1 := (hg3 1 _ rfl).trans ht1
    rw [show Tryz.prog.cellsOf 5 = 1 by kernel_rfl] at m1
    simp only [List.drop_succ_cons, List.drop_zero, List.take_succ_cons, List.take_zero] at m1
    obtain ⟨j1, h1, _, _⟩ := DataW.trod_int Tryz.underlying5 m1
    simp only [List.cons.injEq, and_true] at h1
    subst h1
    obtain ⟨t2, ht2⟩ := some_at hlen3 (show 2 < _ by decide)
    have m2 : DataW.trod enc Tryz.prog W 0 (fun _ => true) true n3 5 ((([.int .u16 j0, .int .u8 j1, c18, c19, c20] : List Value).drop 2).take (Tryz.prog.cellsOf 5)) = some t2 := (hg3 2 _ rfl).trans ht2
    rw [show Tryz.prog.cellsOf 5 = 1 by kernel_rfl] at m2
    simp only [List.drop_succ_cons, List.drop_zero, List.take_succ_cons, List.take_zero] at m2
    obtain ⟨j2, h2, _, _⟩ := DataW.trod_int Tryz.underlying5 m2
    simp only [List.cons.injEq, and_true] at h2
    subst h2
    obtain ⟨t3, ht3⟩ := some_at hlen3 (show 3 < _ by decide)
    have m3 : DataW.trod enc Tryz.prog W 0 (fun _ => true) true n3 22 ((([.int .u16 j0, .int .u8 j1, .int .u8 j2, c19, c20] : List Value).drop 3).take (Tryz.prog.cellsOf 22)) = some t3 := (hg3 3 _ rfl).trans ht3
    rw [show Tryz.prog.cellsOf 22 = 1 by kernel_rfl] at m3
    simp only [List.drop_succ_cons, List.drop_zero, List.take_succ_cons, List.take_zero] at m3
    obtain ⟨j3, h3, _, _⟩ := DataW.trod_int Tryz.underlying22 m3
    simp only [List.cons.injEq, and_true] at h3
    subst h3
    obtain ⟨t4, ht4⟩ := some_at hlen3 (show 4 < _ by decide)
    have m4 : DataW.trod enc Tryz.prog W 0 (fun _ => true) true n3 29 ((([.int .u16 j0, .int .u8 j1, .int .u8 j2, .int .u16 j3, c20] : List Value).drop 4).take (Tryz.prog.cellsOf 29)) = some t4 := (hg3 4 _ rfl).trans ht4
    rw [show Tryz.prog.cellsOf 29 = 1 by kernel_rfl] at m4
    simp only [List.drop_succ_cons, List.drop_zero, List.take_succ_cons, List.take_zero] at m4
    obtain ⟨oA, on, oc, rfl, _, _⟩ := slice_trod Tryz.underlying29 m4
    simp only [List.cons.injEq, and_true] at e5
    subst e5
    exact ⟨⟨i0, b1, i2, b3, b4, b5, b6, b7, b8, b9, qA, qn, qc, eA, ext.length, ec, he, j0, j1, j2, j3, oA, on, oc⟩, i10, aA, ac, uA, uc, ans, auth, ext, rfl, hra, hru, hre, hka, hku, hke, wf_u8 w10, Nat.le_trans hq1 hq2⟩
end Go.Proofs.YtbdjoihckienbaaGreatDoor
