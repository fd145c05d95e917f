/- Contracts of functions and plain lemmas that the proofs of this seat share (joined texts). No condition. -/
import Derived.Test.YtjmfpillnbnofaaDoorBe
import Derived.StillTailTactics
import Derived.Deep.RegionLaw
namespace Go.Proofs.YtjmfpillnbnofaaDoor
set_option linter.unusedSimpArgs false
set_option linter.unusedVariables false
open Go.RowKit
set_option maxRecDepth 100000

def timeT (t : Int) : Int := if 2147483647 < t then 0 else t
/-- A datum put in ahead of the first greater one. -/
def insB : List (List UInt8) → List UInt8 → List (List UInt8)
  | [], s => [s]
  | x :: r, s => if bl s x then s :: x :: r else x :: insB r s
def putS (l : List (List UInt8)) (s : List UInt8) : List (List UInt8) := if l.contains s then l else insB l s
theorem insB_app_t (a b : List (List UInt8)) (s : List UInt8) (h : a.any (bl s) = true) : insB (a ++ b) s = insB a s ++ b := by
  induction a with
  | nil => simp at h
  | cons x a ih =>
    rw [List.cons_append]
    unfold insB
    by_cases hx : bl s x = true
    · rw [if_pos hx, if_pos hx]; rfl
    · rw [if_neg hx, if_neg hx, List.cons_append, ih (by simpa [hx] using h)]
theorem insB_app_f (a b : List (List UInt8)) (s : List UInt8) (h : a.any (bl s) = false) : insB (a ++ b) s = a ++ insB b s := by
  induction a with
  | nil => rfl
  | cons x a ih =>
    have hx : ¬ bl s x = true := by intro e; simp [e] at h
    rw [List.cons_append]
    conv => lhs; unfold insB
    rw [if_neg hx, List.cons_append, ih (by simpa [hx] using h)]
theorem contains_snoc (a : List (List UInt8)) (x s : List UInt8) (h1 : a.contains s = false) (h2 : x ≠ s) : (a ++ [x]).contains s = false := by
  rw [← Bool.not_eq_true, List.contains_iff_mem] at h1 ⊢
  intro h
  rcases List.mem_append.1 h with h | h
  · exact h1 h
  · rw [List.mem_singleton] at h; exact h2 h.symm
theorem insB_none (a : List (List UInt8)) (s : List UInt8) (h : a.any (bl s) = false) : insB a s = a ++ [s] := by
  have := insB_app_f a [] s h
  rw [List.append_nil] at this
  exact this
/-- What stands in 'out', k data far. -/
def putTo (l : List (List UInt8)) (s : List UInt8) (k : Nat) : List (List UInt8) := if (l.take k).any (bl s) then insB (l.take k) s else l.take k
theorem insB_len (l : List (List UInt8)) (s : List UInt8) : (insB l s).length = l.length + 1 := by
  induction l with
  | nil => rfl
  | cons x r ih => simp only [insB]; split <;> simp [ih]
theorem putTo_len (l : List (List UInt8)) (s : List UInt8) (k : Nat) : (putTo l s k).length ≤ l.length + 1 := by
  unfold putTo
  split
  · rw [insB_len]; simp; omega
  · simp; omega
theorem putTo_step (l : List (List UInt8)) (s : List UInt8) (k : Nat) (h : k < l.length) (x : List UInt8) (hx : l[k] = x) :
    ((l.take k).any (bl s) = false → bl s x = true → putTo l s (k + 1) = putTo l s k ++ [s] ++ [x] ∧ (l.take (k + 1)).any (bl s) = true) ∧
    ((l.take k).any (bl s) = true → putTo l s (k + 1) = putTo l s k ++ [x] ∧ (l.take (k + 1)).any (bl s) = true) ∧
    ((l.take k).any (bl s) = false → bl s x = false → putTo l s (k + 1) = putTo l s k ++ [x] ∧ (l.take (k + 1)).any (bl s) = false) := by
  unfold putTo
  rw [take_snoc l k h, hx, List.any_append]
  refine ⟨fun h1 h2 => ?_, fun h1 => ?_, fun h1 h2 => ?_⟩
  · refine ⟨?_, by simp [h2]⟩
    rw [h1]
    simp only [List.any_cons, List.any_nil, h2, Bool.or_false, Bool.or_true, if_true]
    rw [insB_app_f _ _ _ h1]
    simp [insB, h2]
  · refine ⟨?_, by simp [h1]⟩
    rw [h1]
    simp only [Bool.true_or, if_true]
    rw [insB_app_t _ _ _ h1]
  · refine ⟨?_, by simp [h1, h2]⟩
    rw [h1]
    simp [h2]

def PutPost (lo : Nat) (l : List (List UInt8)) (w : World) (e : Ending) (w' : World) : Prop := ∃ v, e = .returned v ∧ OStrs w' lo v l ∧ Ext w w'

end Go.Proofs.YtjmfpillnbnofaaDoor
namespace Go.Proofs.YtjmfpillnbnofaaDoor
set_option linter.unusedSimpArgs false
set_option linter.unusedVariables false
open Go.RowKit
set_option maxRecDepth 100000

/-- Is a set ahead of another? -/
def beforeS (a b : SetD) : Bool := if cmpN a.name b.name = 0 then (if a.typ = b.typ then decide (a.cls < b.cls) else decide (a.typ < b.typ)) else decide (cmpN a.name b.name < 0)
theorem ne_ints {x y : Int} (h : x ≠ y) : (x == y) = false ∧ (x != y) = true := by
  have : (x == y) = false := by rw [beq_eq_false_iff_ne]; exact h
  exact ⟨this, by rw [bne, this]; rfl⟩
theorem eq_ints {x y : Int} (h : x = y) : (x == y) = true ∧ (x != y) = false := by
  have : (x == y) = true := by rw [beq_iff_eq]; exact h
  exact ⟨this, by rw [bne, this]; rfl⟩

theorem ext_new_at {w w' : World} {cs : Array Value} {t : TypeId} (g : Nat) (hg : g = w.heap.size) (hE : Ext (w.alloc (.cells cs t)) w') : (∀ j, w'.cell? ⟨g, j, none⟩ = cs[j]?) ∧ (∀ j, w'.frozen? ⟨g, j, none⟩ = false) ∧ g < w'.heap.size := by
  subst hg; exact ext_new hE

def FindRPost (lo : Nat) (r : Option SetD) (w0 w : World) (e : Ending) (w' : World) : Prop :=
  ∃ d, e = .returned (.tuple #[setVal (r.getD SetD.zero) d, .bool r.isSome]) ∧ Strs w0 lo d (r.getD SetD.zero).data ∧ Ext w w'

end Go.Proofs.YtjmfpillnbnofaaDoor
namespace Go.Proofs.YtjmfpillnbnofaaDoor
set_option linter.unusedSimpArgs false
set_option linter.unusedVariables false
open Go.RowKit
set_option maxRecDepth 100000

theorem str_eq {a b : List UInt8} (h : a = b) : (a == b) = true := by rw [h]; simp
theorem ne_nats {x y : Nat} (h : x ≠ y) : ((x : Int) == (y : Int)) = false ∧ ((x : Int) != (y : Int)) = true := ne_ints (by omega)
theorem eq_nats {x y : Nat} (h : x = y) : ((x : Int) == (y : Int)) = true ∧ ((x : Int) != (y : Int)) = false := eq_ints (by omega)

theorem pair_get {ps : List (SetD × Value)} {l : List SetD} (h : ps.map Prod.fst = l) {k : Nat} (hk : k < ps.length) (hk' : k < l.length) : l[k] = ps[k].1 := by
  subst h; simp

end Go.Proofs.YtjmfpillnbnofaaDoor
namespace Go.Proofs.YtjmfpillnbnofaaDoor
set_option linter.unusedSimpArgs false
set_option linter.unusedVariables false
open Go.RowKit
set_option maxRecDepth 100000

/-- A record (api.Record). -/
structure RecD where
  name : List UInt8
  typ : Int
  cls : Int
  ttl : Int
  data : List UInt8
  deriving DecidableEq
def recCells (r : RecD) : List Value := [S r.name, .int .u16 r.typ, .int .u16 r.cls, .int .u32 r.ttl, S r.data]
abbrev recVal (r : RecD) : Value := .agg #[S r.name, .int .u16 r.typ, .int .u16 r.cls, .int .u32 r.ttl, S r.data]
/-- A []api.Record. -/
def Recs (w : World) (lo : Nat) (v : Value) (l : List RecD) : Prop := ∃ A c, v = .slice A l.length c ∧ l.length ≤ c ∧ c ≤ maxLen ∧ Rd w lo 5 A l.length (l.flatMap recCells)
theorem Recs.ext {w w' : World} {lo : Nat} {v : Value} {l : List RecD} (h : Recs w lo v l) (hE : Ext w w') : Recs w' lo v l := by
  obtain ⟨A, c, e, h1, h2, h3⟩ := h
  exact ⟨A, c, e, h1, h2, h3.ext hE⟩
theorem Recs.lower {w : World} {lo lo' : Nat} {v : Value} {l : List RecD} (h : Recs w lo v l) (hl : lo' ≤ lo) : Recs w lo' v l := by
  obtain ⟨A, c, e, h1, h2, h3⟩ := h
  exact ⟨A, c, e, h1, h2, h3.lower hl⟩
theorem recs_cells {w : World} {b off : Nat} {l : List RecD} (hc : ∀ j u, (l.flatMap recCells)[j]? = some u → w.cell? ⟨b, off + j, none⟩ = some u) (k : Nat) (p : RecD) (hp : l[k]? = some p) :
    w.cell? ⟨b, off + k * 5, none⟩ = some (S p.name) ∧ w.cell? ⟨b, off + k * 5 + 1, none⟩ = some (.int .u16 p.typ) ∧ w.cell? ⟨b, off + k * 5 + 2, none⟩ = some (.int .u16 p.cls) ∧ w.cell? ⟨b, off + k * 5 + 3, none⟩ = some (.int .u32 p.ttl) ∧ w.cell? ⟨b, off + k * 5 + 4, none⟩ = some (S p.data) := by
  refine ⟨?_, ?_, ?_, ?_, ?_⟩
  · exact hc (k * 5 + 0) _ (flat_get recCells 5 (fun _ => rfl) l k 0 p hp (by omega))
  · rw [Nat.add_assoc]; exact hc (k * 5 + 1) _ (flat_get recCells 5 (fun _ => rfl) l k 1 p hp (by omega))
  · rw [Nat.add_assoc]; exact hc (k * 5 + 2) _ (flat_get recCells 5 (fun _ => rfl) l k 2 p hp (by omega))
  · rw [Nat.add_assoc]; exact hc (k * 5 + 3) _ (flat_get recCells 5 (fun _ => rfl) l k 3 p hp (by omega))
  · rw [Nat.add_assoc]; exact hc (k * 5 + 4) _ (flat_get recCells 5 (fun _ => rfl) l k 4 p hp (by omega))

/-! ### Plain: Group -/
def keyM (n : List UInt8) (t c : Int) (s : SetD) : Bool := s.name == n && (s.typ == t && s.cls == c)
/-- The last of the first k that fits, or -1. -/
def atTo (f : SetD → Bool) (l : List SetD) : Nat → Int
  | 0 => -1
  | k + 1 => if f (l.getD k SetD.zero) then (k : Int) else atTo f l k
def updS (t : Int) (d : List UInt8) (s : SetD) : SetD := { s with ttl := min s.ttl t, data := putS s.data d }
def okRec (x : RecD) : Bool := may x.name && rmay x.typ x.data
def addR (sets : List SetD) (x : RecD) : List SetD :=
  if okRec x then
    (if atTo (keyM (fold x.name) x.typ x.cls) sets sets.length < 0 then sets ++ [⟨fold x.name, x.typ, x.cls, timeT x.ttl, [rfold x.typ x.data]⟩]
     else sets.modify (atTo (keyM (fold x.name) x.typ x.cls) sets sets.length).toNat (updS (timeT x.ttl) (rfold x.typ x.data)))
  else sets
def groupTo (l : List RecD) (k : Nat) : List SetD := (l.take k).foldl addR []
theorem groupTo_step (l : List RecD) (k : Nat) (h : k < l.length) : groupTo l (k + 1) = addR (groupTo l k) l[k] := by
  unfold groupTo; rw [take_snoc l k h, List.foldl_append]; rfl
theorem atTo_bd (f : SetD → Bool) (l : List SetD) : ∀ k, -1 ≤ atTo f l k ∧ atTo f l k < k
  | 0 => by simp [atTo]
  | k + 1 => by
    have := atTo_bd f l k
    simp only [atTo]
    split <;> omega
/-- The first least one of the first i. -/
def minTo (l : List SetD) : Nat → Nat
  | 0 => 0
  | i + 1 => if i = 0 then 0 else if beforeS (l.getD i SetD.zero) (l.getD (minTo l i) SetD.zero) then i else minTo l i
theorem minTo_lt (l : List SetD) : ∀ i, 0 < i → minTo l i < i
  | 0, h => absurd h (by omega)
  | i + 1, _ => by
    simp only [minTo]
    split
    · omega
    · split
      · omega
      · have := minTo_lt l i (by omega); omega
def selF : Nat → List SetD → List SetD
  | 0, _ => []
  | n + 1, l => if l.length = 0 then [] else l.getD (minTo l l.length) SetD.zero :: selF n (l.take (minTo l l.length) ++ l.drop (minTo l l.length + 1))
def groupR (l : List RecD) : List SetD := selF l.length (groupTo l l.length)

/-! ### A store into a row of the call's own -/
theorem Own.stored {w : World} {lo : Nat} {e : TypeId} {sz n c g : Nat} {xs : List Value} (h : Own w lo e sz (some ⟨g, 0, none⟩) n c xs) (j : Nat) (u : Value) (hj : j < n * sz) : Own (w.setCell ⟨g, j, none⟩ u) lo e sz (some ⟨g, 0, none⟩) n c (xs.set j u) := by
  refine ⟨by rw [List.length_set]; exact h.1, ?_⟩
  rcases h.2 with ⟨h1, _⟩ | ⟨g', cap, cur, h1, hg, hh, h4, h5, h6, h7⟩
  · injection h1 with h1; cases h1
  · injection h1 with h1 _ h3
    injection h1 with h1
    injection h1 with h1 _ _
    subst h1 h3
    refine .inr ⟨g, c, cur.setIfInBounds j u, rfl, hg, ?_, h4, h5, by simpa using h6, ?_⟩
    · simp [World.setCell, Array.getElem?_modify, hh]
    · rw [Array.toList_setIfInBounds, ← h7, List.take_set]
theorem Own.addr {w : World} {lo : Nat} {e : TypeId} {sz n c : Nat} {A : Option Addr} {xs : List Value} (h : Own w lo e sz A n c xs) (hn : 0 < n) : ∃ g, A = some ⟨g, 0, none⟩ ∧ lo ≤ g ∧ g < w.heap.size ∧ (∀ j, w.frozen? ⟨g, j, none⟩ = false) ∧ (∀ j u, xs[j]? = some u → w.cell? ⟨g, j, none⟩ = some u) := by
  have hr := h.rd
  rcases h.2 with ⟨h1, h2⟩ | ⟨g, cap, cur, h1, hg, hh, h4, h5, h6, h7⟩
  · omega
  · injection h1 with h1 _ h3
    subst h1
    obtain ⟨b, off, e1, _, hb, hc⟩ := hr.2 hn
    injection e1 with e1
    injection e1 with e1 e2 _
    subst e1 e2
    refine ⟨g, rfl, hg, hb, fun j => ?_, fun j u hu => by have := hc j u hu; rwa [Nat.zero_add] at this⟩
    simp [World.frozen?, hh]
theorem OStrs.set_other {w : World} {lo : Nat} {v : Value} {l : List (List UInt8)} (h : OStrs w lo v l) {p : Addr} (u : Value) (hp : v.ownBlock = none ∨ v.ownBlock ≠ some p.block) : OStrs (w.setCell p u) lo v l := by
  obtain ⟨A, c, rfl, ho⟩ := h
  refine ⟨A, c, rfl, ho.1, ?_⟩
  rcases ho.2 with h1 | ⟨g, cap, cur, h1, hg, hh, h4⟩
  · exact .inl h1
  · refine .inr ⟨g, cap, cur, h1, hg, (Below.heap_setCell w p u g (fun e => ?_)).trans hh, h4⟩
    injection h1 with h1
    subst h1
    rcases hp with hp | hp
    · simp [Value.ownBlock] at hp
    · exact hp (by simp [Value.ownBlock, e])
theorem Rd.drew {w : World} {lo size n : Nat} {A : Option Addr} {xs : List Value} (h : Rd w lo size A n xs) : Rd w.drew lo size A n xs := h
theorem set_oneS (s : SetD) (A : Option Addr) (n c : Nat) : ∀ u ∈ setCells (s, .slice A n c), u.oneCell' = true := by
  intro u hu
  simp only [setCells, List.mem_cons, List.not_mem_nil, or_false] at hu
  rcases hu with rfl | rfl | rfl | rfl | rfl <;> rfl
section
variable {P : Program} (w : World)
theorem step_app {ops : Array Oper} {o : Oper} {a : Act} {K : Act → World → Prop} {Q : Exit → Act → World → Prop} {E : Prop} (hgd : o.guard = none) (s x : Operand) (t : TypeId)
    (ho : o.op = .call { callee := .builtin .append, args := #[s, x], argTypes := #[t, t] })
    (lo : Nat) (e : TypeId) (i : TypeInfo) (z : Value) (sz bytes : Nat) (ht : P.underlying t = some (.slice e)) (hi : P.info? e = some i) (hz : i.zero = some z)
    (hsize : i.size = sz) (hby : i.bytes = bytes) (hzs : z.cells.size = sz) (hsz : 0 < sz)
    (A : Option Addr) (n c : Nat) (xs : List Value) (hs : a.eval s = .slice A n c) (hown : Own w lo e sz A n c xs)
    (l2 : Nat) (B : Option Addr) (m d : Nat) (news : List Value) (hx : a.eval x = .slice B m d) (hr : Rd w l2 sz B m news) (h1 : ∀ u ∈ news, u.oneCell' = true)
    (hbytes : (n + m) * bytes ≤ 140737488355328) (hb0 : 0 < bytes) (hbase : lo ≤ w.heap.size)
    (h : ∀ A' c' w', Own w' lo e sz A' (n + m) c' (xs ++ news) → w.grownBy w' (Value.slice A n c).ownBlock → Below lo w w' →
      ((Value.slice A' (n + m) c').ownBlock = (Value.slice A n c).ownBlock ∨ (Value.slice A' (n + m) c').ownBlock = some w.heap.size) → K (a.put o.dst (.slice A' (n + m) c')) w') :
    if Region.wanted o (yielded ops a.tmps) = true then Oper.wp P o a w K Q else E := by
  have hw : Region.wanted o (yielded ops a.tmps) = true := by simp [Region.wanted, hgd]
  rw [if_pos hw]
  obtain ⟨A', c', w', hrun, h2, h3, h4, h5⟩ := run_app (P := P) w lo t o.type e i z sz bytes ht hi hz hsize hby hzs hsz A n c xs hown l2 B m d news hr h1 hbytes hb0 hbase
  unfold Oper.wp execOp
  simp only [ho, resolve, invoke, builtin, Sem.run_bind, Sem.run_pure, Result.andThen_ok, List.map_toArray, List.map_cons, List.map_nil, hs, hx, hrun]
  exact h A' c' w' h2 h3 h4 h5
end
theorem flat_set (ps : List (SetD × Value)) (k : Nat) (p q : SetD × Value) (j : Nat) (u : Value) (hp : ps[k]? = some p) (hj : j < 5) (hq : (setCells p).set j u = setCells q) : (ps.flatMap setCells).set (k * 5 + j) u = (ps.set k q).flatMap setCells := by
  induction ps generalizing k with
  | nil => simp at hp
  | cons a ps ih =>
    rcases k with _ | k
    · simp at hp; subst hp
      rw [List.set_cons_zero, List.flatMap_cons, List.flatMap_cons, Nat.zero_mul, Nat.zero_add, List.set_append_left _ _ (by simpa [setCells] using hj), hq]
    · simp only [List.getElem?_cons_succ] at hp
      have hl : (setCells a).length = 5 := rfl
      rw [List.set_cons_succ, List.flatMap_cons, List.flatMap_cons, List.set_append_right _ _ (by rw [hl, Nat.add_mul]; omega), hl, show (k + 1) * 5 + j - 5 = k * 5 + j by rw [Nat.add_mul]; omega, ih k hp]
end Go.Proofs.YtjmfpillnbnofaaDoor
