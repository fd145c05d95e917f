/- Contracts of functions and plain lemmas that the proofs of this seat share (joined texts). No condition. -/
import Derived.Test.YtcpikbanghoflaaGreatDoorVv
import Derived.Test.YtcpikbanghoflaaGreatDoorVy
namespace Go.Proofs.YtcpikbanghoflaaGreatDoor
set_option linter.unusedSimpArgs false
set_option linter.unusedVariables false
open Go.RowKit
set_option maxRecDepth 100000
def ORecs (w : World) (lo : Nat) (v : Value) (l : List RecD) : Prop := ∃ A c, v = .slice A l.length c ∧ Own w lo 28 5 A l.length c (l.flatMap recCells)
theorem ORecs.ext {w w' : World} {lo : Nat} {v : Value} {l : List RecD} (h : ORecs w lo v l) (hE : Ext w w') : ORecs w' lo v l := by
  obtain ⟨A, c, e, h1⟩ := h; exact ⟨A, c, e, h1.ext hE⟩
theorem ORecs.lower {w : World} {lo lo' : Nat} {v : Value} {l : List RecD} (h : ORecs w lo v l) (hl : lo' ≤ lo) : ORecs w lo' v l := by
  obtain ⟨A, c, e, h1⟩ := h; exact ⟨A, c, e, h1.lower hl⟩
theorem heap_set {w : World} {g : Nat} {cs : Array Value} {t : TypeId} {fr : Nat × Nat} (h : w.heap[g]? = some (.cells cs t fr)) (i : Nat) (u : Value) : (w.setCell ⟨g, i, none⟩ u).heap[g]? = some (.cells (cs.setIfInBounds i u) t fr) := by
  simp [World.setCell, Array.getElem?_modify, h]
theorem heap_off {w : World} {g b : Nat} {o : Obj} (h : w.heap[g]? = some o) (i : Nat) (u : Value) (hb : g ≠ b) : (w.setCell ⟨b, i, none⟩ u).heap[g]? = some o :=
  (Below.heap_setCell w ⟨b, i, none⟩ u g hb).trans h
theorem alloc_setRow (w : World) (zs cs : Array Value) (t : TypeId) (g : Nat) (hg : g = w.heap.size) : (w.alloc (.cells zs t)).setRow g cs = w.alloc (.cells cs t) := by
  subst hg
  unfold World.setRow World.alloc
  simp only
  congr 1
  apply Array.ext_getElem?
  intro i
  simp only [Array.getElem?_modify, Array.getElem?_push]
  by_cases h : i = w.heap.size
  · subst h; simp
  · rw [if_neg (fun e => h e.symm), if_neg h, if_neg h]
end Go.Proofs.YtcpikbanghoflaaGreatDoor
namespace Go.Proofs.YtcpikbanghoflaaGreatDoor
set_option linter.unusedSimpArgs false
set_option linter.unusedVariables false
open Go.RowKit
theorem heap_new_at (w : World) (o : Obj) (g : Nat) (hg : g = w.heap.size) : (w.alloc o).heap[g]? = some o := by subst hg; exact heap_alloc_new w o
section
variable {P : Program} {ops : Array Oper} {Q : Exit → Act → World → Prop}
theorem wpList_load_rowG {rest : List Oper} {o : Oper} {a : Act} {w : World} (hwn : Region.wanted o (yielded ops a.tmps) = true) (ty : TypeId) (x : Operand) (ho : o.op = .load ty x)
    (g : Nat) (hx : a.eval x = .pointer (some ⟨g, 0, none⟩)) (t : TypeId) (cs : Array Value) (fr : Nat × Nat) (d : TypeDesc) (hg : w.heap[g]? = some (.cells cs t fr))
    (hu : P.underlying ty = some d) (hd : (match d with | .struct _ | .array _ _ => true | _ => false) = true) (hi : (P.info? ty).map (·.size) = some cs.size)
    (h : wpList P ops Q rest (a.put o.dst (.agg cs)) w) : wpList P ops Q (o :: rest) a w :=
  wpList_step fun K hK => by
    rw [if_pos hwn]
    exact wp_load_row ty x ho g hx t cs fr d hg hu hd hi (hK _ _ h)
end
end Go.Proofs.YtcpikbanghoflaaGreatDoor
