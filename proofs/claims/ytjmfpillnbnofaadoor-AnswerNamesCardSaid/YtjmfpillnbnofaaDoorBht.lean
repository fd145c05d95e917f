/- Contracts of functions and plain lemmas that the proofs of this seat share (joined texts). No condition. -/
import Derived.Test.YtjmfpillnbnofaaDoorBq
import Derived.Test.YtjmfpillnbnofaaDoorBg
namespace Go.Proofs.YtjmfpillnbnofaaDoor
set_option linter.unusedSimpArgs false
set_option linter.unusedVariables false
open Go.RowKit
inductive Tr where
  | done : Tr
  | take : Nat → Tr → Tr
  | run : Nat → Tr → Tr
  | run2 : Nat → Tr → Nat → Tr → Tr
  | any : Nat → Array Bool → Tr
section
variable {P : Program} {ops : Array Oper} {Q : Exit → Act → World → Prop} {md : Region.Mode} {S : World → Prop}
def seqT (P : Program) (ops : Array Oper) (Q : Exit → Act → World → Prop) (S : World → Prop) : Tr → Act → World → Prop
  | .done, a, w => Q .normal a w
  | .take i r, a, w => ∃ o v, ops[i]? = some o ∧ YieldsIf P ops S o v a ∧ seqT P ops Q S r (a.put o.dst v) w
  | .run i r, a, w => wpOp P ops Q i (fun a' w' => S w' ∧ seqT P ops Q S r a' w') a w
  | .run2 i r j s, a, w => wpOp P ops Q i (fun a' w' => S w' ∧ seqT P ops Q S r a' w') a w ∧ wpOp P ops Q j (fun a' w' => S w' ∧ seqT P ops Q S s a' w') a w
  | .any n l, a, w => wpAnyH P .any ops Q S n l a w
def okT (md : Region.Mode) (ops : Array Oper) : Tr → Nat → Array Bool → Bool
  | .done, n, listed => decide (n = 0) && (Region.ready md ops listed).isEmpty
  | .take i r, n, listed => decide (0 < n) && (Region.free md ops listed i && ((Region.ready md ops listed).contains i && okT md ops r (n - 1) (listed.setIfInBounds i true)))
  | .run i r, n, listed => decide (0 < n) && (decide (Region.ready md ops listed = [i]) && okT md ops r (n - 1) (listed.setIfInBounds i true))
  | .run2 i r j s, n, listed => decide (0 < n) && (decide (Region.ready md ops listed = [i, j]) && (okT md ops r (n - 1) (listed.setIfInBounds i true) && okT md ops s (n - 1) (listed.setIfInBounds j true)))
  | .any m l, n, listed => decide (md = .any) && (decide (m = n) && decide (l.toList = listed.toList))
theorem seqT_any (hs : Region.noSelect ops = true) (hQ : ∀ (o : Oper) (v : Value) c a w, Q (.panic c) (a.put o.dst v) w → Q (.panic c) a w) :
    ∀ (t : Tr) (n : Nat) (listed : Array Bool) (a : Act) (w : World), okT md ops t n listed = true → S w → seqT P ops Q S t a w → wpAnyH P md ops Q S n listed a w
  | .done, n, listed, a, w, ho, hS, h => by
    simp only [okT, Bool.and_eq_true, decide_eq_true_eq] at ho
    obtain ⟨rfl, ho⟩ := ho
    exact wpAnyH_done (by simpa using ho) h 0
  | .take i r, n, listed, a, w, ho, hS, h => by
    simp only [okT, Bool.and_eq_true, decide_eq_true_eq] at ho
    obtain ⟨hn, h1, h2, h3⟩ := ho
    obtain ⟨m, rfl⟩ : ∃ m, n = m + 1 := ⟨n - 1, by omega⟩
    obtain ⟨o, v, k1, k2, k3⟩ := h
    exact wpAnyH_take k1 hs h1 h2 (hQ o v) k2 hS (seqT_any hs hQ r _ _ _ _ h3 hS k3)
  | .run i r, n, listed, a, w, ho, hS, h => by
    simp only [okT, Bool.and_eq_true, decide_eq_true_eq] at ho
    obtain ⟨hn, h1, h2⟩ := ho
    obtain ⟨m, rfl⟩ : ∃ m, n = m + 1 := ⟨n - 1, by omega⟩
    refine wpAnyH_all h1 (by simp) (fun j hj => ?_)
    rw [List.mem_singleton] at hj
    subst hj
    exact wpOp_mono (fun a' w' hk => ⟨hk.1, seqT_any hs hQ r _ _ _ _ h2 hk.1 hk.2⟩) h
  | .run2 i r k s, n, listed, a, w, ho, hS, h => by
    simp only [okT, Bool.and_eq_true, decide_eq_true_eq] at ho
    obtain ⟨hn, h1, h2, h3⟩ := ho
    obtain ⟨m, rfl⟩ : ∃ m, n = m + 1 := ⟨n - 1, by omega⟩
    refine wpAnyH_all h1 (by simp) (fun j hj => ?_)
    simp only [List.mem_cons, List.not_mem_nil, or_false] at hj
    rcases hj with rfl | rfl
    · exact wpOp_mono (fun a' w' hk => ⟨hk.1, seqT_any hs hQ r _ _ _ _ h2 hk.1 hk.2⟩) h.1
    · exact wpOp_mono (fun a' w' hk => ⟨hk.1, seqT_any hs hQ s _ _ _ _ h3 hk.1 hk.2⟩) h.2
  | .any m l, n, listed, a, w, ho, hS, h => by
    simp only [okT, Bool.and_eq_true, decide_eq_true_eq] at ho
    obtain ⟨rfl, rfl, h3⟩ := ho
    have hl : l = listed := by cases l; cases listed; simp at h3; rw [h3]
    subst hl
    exact h
theorem wp_region_tree {id : Nat} {a : Act} {w : World} (t : Tr) (hm : P.follows .mixedOrders = true)
    (hc : (Region.noSelect ops && okT .any ops t ops.size (Array.replicate ops.size false)) = true)
    (hQ : ∀ (o : Oper) (v : Value) c a w, Q (.panic c) (a.put o.dst v) w → Q (.panic c) a w) (hS : S w.drew) (h : seqT P ops Q S t a w.drew) : (Code.region id ops true).wp P Q a w := by
  simp only [Bool.and_eq_true] at hc
  refine wp_region_held (S := S) hm ?_
  exact seqT_any hc.1 hQ t _ _ a w.drew hc.2 hS h
theorem treeTake {i : Nat} {r : Tr} {a : Act} {w : World} {o : Oper} {v : Value} (ho : nth ops.toList i = some o) (hw : Region.wanted o (yielded ops a.tmps) = true)
    (hy : ∀ w, S w → (execOp a.eval o).run P w = .ok (.value v) w) (h : seqT P ops Q S r (a.put o.dst v) w) : seqT P ops Q S (.take i r) a w :=
  ⟨o, v, by rw [nth_eq] at ho; simpa using ho, .inl ⟨hw, hy⟩, h⟩
theorem treeSkip {i : Nat} {r : Tr} {a : Act} {w : World} {o : Oper} (ho : nth ops.toList i = some o) (hw : Region.wanted o (yielded ops a.tmps) = false)
    (h : seqT P ops Q S r (a.put o.dst undef) w) : seqT P ops Q S (.take i r) a w :=
  ⟨o, undef, by rw [nth_eq] at ho; simpa using ho, .inr ⟨hw, rfl⟩, h⟩
theorem treeIs {i : Nat} {r : Tr} {a : Act} {w : World} (h : seqT P ops Q S (.take i r) a w) : seqT P ops Q S (.take i r) a w := h
theorem treeRun {i : Nat} {r : Tr} {a : Act} {w : World} {o : Oper} (ho : nth ops.toList i = some o)
    (h : ∀ K' : Act → World → Prop, Shut (∀ a w, S w → seqT P ops Q S r a w → K' a w) → if Region.wanted o (yielded ops a.tmps) = true then Oper.wp P o a w K' Q else K' (a.put o.dst undef) w) : seqT P ops Q S (.run i r) a w := by
  show wpOp P ops Q i _ a w
  exact wpOp_step (by rw [nth_eq] at ho; simpa using ho) (fun K' hK => h K' (fun a w hS hW => hK a w ⟨hS, hW⟩))
theorem treeRun2 {i j : Nat} {r s : Tr} {a : Act} {w : World} (h1 : seqT P ops Q S (.run i r) a w) (h2 : seqT P ops Q S (.run j s) a w) : seqT P ops Q S (.run2 i r j s) a w := ⟨h1, h2⟩
theorem treeAny {n : Nat} {l : Array Bool} {a : Act} {w : World} (h : wpAnyH P .any ops Q S n l a w) : seqT P ops Q S (.any n l) a w := h
theorem treeDone {a : Act} {w : World} (h : Q .normal a w) : seqT P ops Q S .done a w := h
end
/-- 'string(b)' of a row of one byte, as an operation. -/
theorem wp_conv1 {o : Oper} {a : Act} {w : World} {K : Act → World → Prop} {Q : Exit → Act → World → Prop} (x : Operand)
    (ho : o.op = .convert 63 9 x) (g : Nat) (c : UInt8) (hx : a.eval x = .slice (some ⟨g, 0, none⟩) 1 1) (hc : w.cell? ⟨g, 0, none⟩ = some (.int .u8 (c.toNat : Int))) (h : K (a.put o.dst (S [c])) w) : Oper.wp Tryd.prog o a w K Q := by
  have hr : Rd w 0 1 (some ⟨g, 0, none⟩) 1 (([c] : List UInt8).map U8) := ⟨rfl, fun _ => ⟨g, 0, rfl, Nat.zero_le _, (spot_of hc).2, fun j u hu => by
    rcases j with _ | j
    · simp at hu; subst hu; exact hc
    · simp at hu⟩⟩
  have hrun := conv_str 1 hr
  unfold Oper.wp execOp
  simp only [ho, hx, Sem.run_bind, hrun, Result.andThen_ok, Sem.run_pure]
  exact h
end Go.Proofs.YtjmfpillnbnofaaDoor
