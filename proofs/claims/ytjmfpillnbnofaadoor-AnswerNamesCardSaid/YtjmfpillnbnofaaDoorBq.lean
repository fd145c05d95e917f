/- Contracts of functions and plain lemmas that the proofs of this seat share (joined texts). No condition. -/
import Derived.Test.YtjmfpillnbnofaaDoorBa
import Derived.Deep.RegionHeld3
namespace Go.Proofs.YtjmfpillnbnofaaDoor
set_option linter.unusedSimpArgs false
set_option linter.unusedVariables false
open Go.RowKit
section
variable {P : Program} {ops : Array Oper} {Q : Exit → Act → World → Prop} {md : Region.Mode} {S : World → Prop}
def nth {α : Type} : List α → Nat → Option α
  | [], _ => none
  | x :: _, 0 => some x
  | _ :: r, n + 1 => nth r n
theorem nth_eq {α : Type} : ∀ (l : List α) (n : Nat), nth l n = l[n]?
  | [], _ => rfl
  | _ :: _, 0 => rfl
  | _ :: r, n + 1 => by rw [nth, nth_eq r n]; rfl
/-- In an order (true: taken first, false: carried out). -/
def seqH (P : Program) (ops : Array Oper) (Q : Exit → Act → World → Prop) (S : World → Prop) : List (Nat × Bool) → Act → World → Prop
  | [], a, w => Q .normal a w
  | (i, true) :: r, a, w => ∃ o v, ops[i]? = some o ∧ YieldsIf P ops S o v a ∧ seqH P ops Q S r (a.put o.dst v) w
  | (i, false) :: r, a, w => wpOp P ops Q i (fun a' w' => S w' ∧ seqH P ops Q S r a' w') a w
def okOrd (md : Region.Mode) (ops : Array Oper) : Array Bool → List (Nat × Bool) → Bool
  | listed, [] => (Region.ready md ops listed).isEmpty
  | listed, (i, true) :: r => Region.free md ops listed i && ((Region.ready md ops listed).contains i && okOrd md ops (listed.setIfInBounds i true) r)
  | listed, (i, false) :: r => decide (Region.ready md ops listed = [i]) && okOrd md ops (listed.setIfInBounds i true) r
theorem seqH_any (hs : Region.noSelect ops = true) (hQ : ∀ (o : Oper) (v : Value) c a w, Q (.panic c) (a.put o.dst v) w → Q (.panic c) a w) :
    ∀ (ord : List (Nat × Bool)) (listed : Array Bool) (a : Act) (w : World), okOrd md ops listed ord = true → S w → seqH P ops Q S ord a w → wpAnyH P md ops Q S ord.length listed a w
  | [], listed, a, w, ho, hS, h => wpAnyH_done (by simpa [okOrd] using ho) h 0
  | (i, true) :: r, listed, a, w, ho, hS, h => by
    simp only [okOrd, Bool.and_eq_true] at ho
    obtain ⟨o, v, h1, h2, h3⟩ := h
    exact wpAnyH_take h1 hs ho.1 ho.2.1 (hQ o v) h2 hS (seqH_any hs hQ r _ _ _ ho.2.2 hS h3)
  | (i, false) :: r, listed, a, w, ho, hS, h => by
    simp only [okOrd, Bool.and_eq_true, decide_eq_true_eq] at ho
    refine wpAnyH_all ho.1 (by simp) (fun j hj => ?_)
    rw [List.mem_singleton] at hj
    subst hj
    exact wpOp_mono (fun a' w' hk => ⟨hk.1, seqH_any hs hQ r _ _ _ ho.2 hk.1 hk.2⟩) h
theorem wp_region_seq {id : Nat} {a : Act} {w : World} (ord : List (Nat × Bool)) (hm : P.follows .mixedOrders = true)
    (hc : (Region.noSelect ops && (decide (ord.length = ops.size) && okOrd .any ops (Array.replicate ops.size false) ord)) = true)
    (hQ : ∀ (o : Oper) (v : Value) c a w, Q (.panic c) (a.put o.dst v) w → Q (.panic c) a w) (hS : S w.drew) (h : seqH P ops Q S ord a w.drew) : (Code.region id ops true).wp P Q a w := by
  simp only [Bool.and_eq_true, decide_eq_true_eq] at hc
  refine wp_region_held (S := S) hm ?_
  rw [← hc.2.1]
  exact seqH_any hc.1 hQ ord _ a w.drew (by rw [hc.2.1]; exact hc.2.2) hS h
theorem heldTake {i : Nat} {r : List (Nat × Bool)} {a : Act} {w : World} {o : Oper} {v : Value} (ho : nth ops.toList i = some o) (hw : Region.wanted o (yielded ops a.tmps) = true)
    (hy : ∀ w, S w → (execOp a.eval o).run P w = .ok (.value v) w) (h : seqH P ops Q S r (a.put o.dst v) w) : seqH P ops Q S ((i, true) :: r) a w :=
  ⟨o, v, by rw [nth_eq] at ho; simpa using ho, .inl ⟨hw, hy⟩, h⟩
theorem heldSkip {i : Nat} {r : List (Nat × Bool)} {a : Act} {w : World} {o : Oper} (ho : nth ops.toList i = some o) (hw : Region.wanted o (yielded ops a.tmps) = false)
    (h : seqH P ops Q S r (a.put o.dst undef) w) : seqH P ops Q S ((i, true) :: r) a w :=
  ⟨o, undef, by rw [nth_eq] at ho; simpa using ho, .inr ⟨hw, rfl⟩, h⟩
theorem heldRun {i : Nat} {r : List (Nat × Bool)} {a : Act} {w : World} {o : Oper} (ho : nth ops.toList i = some o)
    (h : ∀ K' : Act → World → Prop, Shut (∀ a w, S w → seqH P ops Q S r a w → K' a w) → if Region.wanted o (yielded ops a.tmps) = true then Oper.wp P o a w K' Q else K' (a.put o.dst undef) w) : seqH P ops Q S ((i, false) :: r) a w := by
  show wpOp P ops Q i _ a w
  exact wpOp_step (by rw [nth_eq] at ho; simpa using ho) (fun K' hK => h K' (fun a w hS hW => hK a w ⟨hS, hW⟩))
theorem heldIs {i : Nat} {r : List (Nat × Bool)} {a : Act} {w : World} (h : seqH P ops Q S ((i, true) :: r) a w) : seqH P ops Q S ((i, true) :: r) a w := h
theorem heldDone {a : Act} {w : World} (h : Q .normal a w) : seqH P ops Q S [] a w := h
end
theorem boxSet {W : World} {g : Nat} {cs : Array Value} (h : ∀ j, W.cell? ⟨g, j, none⟩ = cs[j]?) (k : Nat) (u : Value) (hk : k < cs.size) : ∀ j, (W.setCell ⟨g, k, none⟩ u).cell? ⟨g, j, none⟩ = (cs.setIfInBounds k u)[j]? := by
  intro j
  by_cases e : k = j
  · subst e
    rw [World.cell?_setCell_same W ⟨g, k, none⟩ u ((h k).trans (Array.getElem?_eq_getElem hk))]
    simp [hk]
  · rw [World.cell?_setCell_other W ⟨g, k, none⟩ ⟨g, j, none⟩ _ (by intro h; injection h with _ h _; exact e h), h j]
    rw [Array.getElem?_setIfInBounds_ne e]
theorem box5 {W : World} {g : Nat} {a0 a1 a2 a3 a4 : Value} (h : ∀ j, W.cell? ⟨g, j, none⟩ = #[a0, a1, a2, a3, a4][j]?) (u0 u1 u2 u3 u4 : Value) :
    ∀ j, (((((W.setCell ⟨g, 0, none⟩ u0).setCell ⟨g, 1, none⟩ u1).setCell ⟨g, 2, none⟩ u2).setCell ⟨g, 3, none⟩ u3).setCell ⟨g, 4, none⟩ u4).cell? ⟨g, j, none⟩ = #[u0, u1, u2, u3, u4][j]? :=
  boxSet (boxSet (boxSet (boxSet (boxSet h 0 u0 (by simp)) 1 u1 (by simp)) 2 u2 (by simp)) 3 u3 (by simp)) 4 u4 (by simp)
end Go.Proofs.YtjmfpillnbnofaaDoor
