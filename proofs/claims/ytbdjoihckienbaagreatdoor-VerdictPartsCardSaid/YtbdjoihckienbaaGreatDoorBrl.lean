/- Contracts of functions and plain lemmas that the proofs of this seat share (joined texts). No condition. -/
import Derived.Test.YtbdjoihckienbaaGreatDoorBv
import Derived.Test.YtbdjoihckienbaaGreatDoorBy
namespace Go.Proofs.YtbdjoihckienbaaGreatDoor
set_option linter.unusedSimpArgs false
set_option linter.unusedVariables false
open Go.RowKit
set_option maxRecDepth 100000

theorem info_rec8 : (Tryz.prog.info? 48).map (fun i => (i.zero, i.size, i.bytes)) = some (some (.agg #[.string ⟨#[]⟩, .int .u16 0, .int .u16 0, .int .u32 0, .string ⟨#[]⟩]), 5, 40) := by kernel_rfl
/-- A []api.Record of the call's own. -/
def ORecs (w : World) (lo : Nat) (v : Value) (l : List RecD) : Prop := ∃ A c, v = .slice A l.length c ∧ Own w lo 48 5 A l.length c (l.flatMap recCells)
theorem ORecs.ext {w w' : World} {lo : Nat} {v : Value} {l : List RecD} (h : ORecs w lo v l) (hE : Ext w w') : ORecs w' lo v l := by
  obtain ⟨A, c, e, h1⟩ := h; exact ⟨A, c, e, h1.ext hE⟩
theorem ORecs.recs {w : World} {lo : Nat} {v : Value} {l : List RecD} (h : ORecs w lo v l) : Recs w lo v l := by
  obtain ⟨A, c, e, h1⟩ := h; exact ⟨A, c, e, h1.cap.1, h1.cap.2, h1.rd⟩
theorem ORecs.lower {w : World} {lo lo' : Nat} {v : Value} {l : List RecD} (h : ORecs w lo v l) (hl : lo' ≤ lo) : ORecs w lo' v l := by
  obtain ⟨A, c, e, h1⟩ := h; exact ⟨A, c, e, h1.lower hl⟩
theorem rec_one8 (r : RecD) : ∀ u ∈ recCells r, u.oneCell' = true := by
  intro u hu
  simp only [recCells, List.mem_cons, List.not_mem_nil, or_false] at hu
  rcases hu with rfl | rfl | rfl | rfl | rfl <;> rfl
theorem recs_one8 (l : List RecD) : ∀ u ∈ l.flatMap recCells, u.oneCell' = true := by
  intro u hu
  obtain ⟨r, _, hr⟩ := List.mem_flatMap.1 hu
  exact rec_one8 r u hr
theorem heap_set {w : World} {g : Nat} {cs : Array Value} {t : TypeId} {fr : Nat × Nat} (h : w.heap[g]? = some (.cells cs t fr)) (i : Nat) (u : Value) : (w.setCell ⟨g, i, none⟩ u).heap[g]? = some (.cells (cs.setIfInBounds i u) t fr) := by
  simp [World.setCell, Array.getElem?_modify, h]
theorem heap_off {w : World} {g b : Nat} {o : Obj} (h : w.heap[g]? = some o) (i : Nat) (u : Value) (hb : g ≠ b) : (w.setCell ⟨b, i, none⟩ u).heap[g]? = some o :=
  (Below.heap_setCell w ⟨b, i, none⟩ u g hb).trans h
theorem alloc_setRow (w : World) (zs cs : Array Value) (t : TypeId) (g : Nat) (hg : g = w.heap.size) : (w.alloc (.cells zs t)).setRow g cs = w.alloc (.cells cs t) := by
  subst hg
  unfold World.setRow World.alloc
  simp only
  congr 1
  apply Array.ext_getElem?
  intro i
  simp only [Array.getElem?_modify, Array.getElem?_push]
  by_cases h : i = w.heap.size
  · subst h; simp
  · rw [if_neg (fun e => h e.symm), if_neg h, if_neg h]
theorem heap_cells {w : World} {g : Nat} {cs : Array Value} {t : TypeId} {fr : Nat × Nat} (h : w.heap[g]? = some (.cells cs t fr)) : ∀ j, w.cell? ⟨g, j, none⟩ = cs[j]? := fun j => by simp [World.cell?, h]
theorem u64_natm (x : Int) : ∃ U : Nat, IntKind.u64.wrap x = (U : Int) ∧ U < 18446744073709551616 := by
  have h1 : 0 ≤ IntKind.u64.wrap x := by show 0 ≤ x % _; exact Int.emod_nonneg _ (by decide)
  have h2 : IntKind.u64.wrap x < 18446744073709551616 := by show x % _ < _; exact Int.emod_lt_of_pos _ (by decide)
  exact ⟨(IntKind.u64.wrap x).toNat, by omega, by omega⟩
theorem u64_inm (n : Nat) (h : n < 18446744073709551616) : IntKind.u64.wrap (n : Int) = (n : Int) := by
  show (n : Int) % _ = _
  exact Int.emod_eq_of_lt (by omega) (by show (n : Int) < 18446744073709551616; omega)
theorem flat_setRm (ps : List RecD) (k : Nat) (p q : RecD) (j : Nat) (u : Value) (hp : ps[k]? = some p) (hj : j < 5) (hq : (recCells p).set j u = recCells q) : (ps.flatMap recCells).set (k * 5 + j) u = (ps.set k q).flatMap recCells := by
  induction ps generalizing k with
  | nil => simp at hp
  | cons a ps ih =>
    rcases k with _ | k
    · simp only [List.getElem?_cons_zero, Option.some.injEq] at hp
      subst hp
      simp only [Nat.zero_mul, Nat.zero_add, List.flatMap_cons, List.set_cons_zero]
      rw [List.set_append_left _ _ (by show j < 5; exact hj), hq]
    · simp only [List.getElem?_cons_succ] at hp
      simp only [List.flatMap_cons, List.set_cons_succ]
      rw [List.set_append_right _ _ (by show 5 ≤ _; omega)]
      have e : (k + 1) * 5 + j - (recCells a).length = k * 5 + j := by show (k + 1) * 5 + j - 5 = _; omega
      rw [e, ih k hp]
end Go.Proofs.YtbdjoihckienbaaGreatDoor
namespace Go.Proofs.YtbdjoihckienbaaGreatDoor
set_option linter.unusedSimpArgs false
set_option linter.unusedVariables false
open Go.RowKit
theorem heap_new_at (w : World) (o : Obj) (g : Nat) (hg : g = w.heap.size) : (w.alloc o).heap[g]? = some o := by subst hg; exact heap_alloc_new w o
section
variable {P : Program} {ops : Array Oper} {Q : Exit → Act → World → Prop}
/-- A struct's box, whole, loaded at once; the operation may be guarded. -/
theorem wpList_load_rowG {rest : List Oper} {o : Oper} {a : Act} {w : World} (hwn : Region.wanted o (yielded ops a.tmps) = true) (ty : TypeId) (x : Operand) (ho : o.op = .load ty x)
    (g : Nat) (hx : a.eval x = .pointer (some ⟨g, 0, none⟩)) (t : TypeId) (cs : Array Value) (fr : Nat × Nat) (d : TypeDesc) (hg : w.heap[g]? = some (.cells cs t fr))
    (hu : P.underlying ty = some d) (hd : (match d with | .struct _ | .array _ _ => true | _ => false) = true) (hi : (P.info? ty).map (·.size) = some cs.size)
    (h : wpList P ops Q rest (a.put o.dst (.agg cs)) w) : wpList P ops Q (o :: rest) a w :=
  wpList_step fun K hK => by
    rw [if_pos hwn]
    exact wp_load_row ty x ho g hx t cs fr d hg hu hd hi (hK _ _ h)
end
theorem recsOk_of {l : List RecD} (h : ∀ r ∈ l, RecOk r) : RecsOk l := fun r hr => ⟨(h r hr).2.2.1, (h r hr).2.2.2.1⟩
end Go.Proofs.YtbdjoihckienbaaGreatDoor
