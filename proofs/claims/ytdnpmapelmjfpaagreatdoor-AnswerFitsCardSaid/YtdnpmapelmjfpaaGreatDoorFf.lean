/- Contracts of functions and plain lemmas that the proofs of this seat share (joined texts). No condition. -/
import Derived.Test.YtdnpmapelmjfpaaGreatDoorFe
import Derived.StillTailTactics
import Derived.Deep.RegionLaw
namespace Go.Proofs.YtdnpmapelmjfpaaGreatDoor
set_option linter.unusedSimpArgs false
set_option linter.unusedVariables false
open Go.RowKit
set_option maxRecDepth 100000
structure RecD where
  name : List UInt8
  typ : Int
  cls : Int
  ttl : Int
  data : List UInt8
  deriving DecidableEq
def recCells (r : RecD) : List Value := [S r.name, .int .u16 r.typ, .int .u16 r.cls, .int .u32 r.ttl, S r.data]
abbrev recVal (r : RecD) : Value := .agg #[S r.name, .int .u16 r.typ, .int .u16 r.cls, .int .u32 r.ttl, S r.data]
def Recs (w : World) (lo : Nat) (v : Value) (l : List RecD) : Prop := ∃ A c, v = .slice A l.length c ∧ l.length ≤ c ∧ c ≤ maxLen ∧ Rd w lo 5 A l.length (l.flatMap recCells)
theorem Recs.ext {w w' : World} {lo : Nat} {v : Value} {l : List RecD} (h : Recs w lo v l) (hE : Ext w w') : Recs w' lo v l := by
  obtain ⟨A, c, e, h1, h2, h3⟩ := h
  exact ⟨A, c, e, h1, h2, h3.ext hE⟩
theorem Recs.lower {w : World} {lo lo' : Nat} {v : Value} {l : List RecD} (h : Recs w lo v l) (hl : lo' ≤ lo) : Recs w lo' v l := by
  obtain ⟨A, c, e, h1, h2, h3⟩ := h
  exact ⟨A, c, e, h1, h2, h3.lower hl⟩
theorem recs_cells {w : World} {b off : Nat} {l : List RecD} (hc : ∀ j u, (l.flatMap recCells)[j]? = some u → w.cell? ⟨b, off + j, none⟩ = some u) (k : Nat) (p : RecD) (hp : l[k]? = some p) :
    w.cell? ⟨b, off + k * 5, none⟩ = some (S p.name) ∧ w.cell? ⟨b, off + k * 5 + 1, none⟩ = some (.int .u16 p.typ) ∧ w.cell? ⟨b, off + k * 5 + 2, none⟩ = some (.int .u16 p.cls) ∧ w.cell? ⟨b, off + k * 5 + 3, none⟩ = some (.int .u32 p.ttl) ∧ w.cell? ⟨b, off + k * 5 + 4, none⟩ = some (S p.data) := by
  refine ⟨?_, ?_, ?_, ?_, ?_⟩
  · exact hc (k * 5 + 0) _ (flat_get recCells 5 (fun _ => rfl) l k 0 p hp (by omega))
  · rw [Nat.add_assoc]; exact hc (k * 5 + 1) _ (flat_get recCells 5 (fun _ => rfl) l k 1 p hp (by omega))
  · rw [Nat.add_assoc]; exact hc (k * 5 + 2) _ (flat_get recCells 5 (fun _ => rfl) l k 2 p hp (by omega))
  · rw [Nat.add_assoc]; exact hc (k * 5 + 3) _ (flat_get recCells 5 (fun _ => rfl) l k 3 p hp (by omega))
  · rw [Nat.add_assoc]; exact hc (k * 5 + 4) _ (flat_get recCells 5 (fun _ => rfl) l k 4 p hp (by omega))

theorem Own.addr {w : World} {lo : Nat} {e : TypeId} {sz n c : Nat} {A : Option Addr} {xs : List Value} (h : Own w lo e sz A n c xs) (hn : 0 < n) : ∃ g, A = some ⟨g, 0, none⟩ ∧ lo ≤ g ∧ g < w.heap.size ∧ (∀ j, w.frozen? ⟨g, j, none⟩ = false) ∧ (∀ j u, xs[j]? = some u → w.cell? ⟨g, j, none⟩ = some u) := by
  have hr := h.rd
  rcases h.2 with ⟨h1, h2⟩ | ⟨g, cap, cur, h1, hg, hh, h4, h5, h6, h7⟩
  · omega
  · injection h1 with h1 _ h3
    subst h1
    obtain ⟨b, off, e1, _, hb, hc⟩ := hr.2 hn
    injection e1 with e1
    injection e1 with e1 e2 _
    subst e1 e2
    refine ⟨g, rfl, hg, hb, fun j => ?_, fun j u hu => by have := hc j u hu; rwa [Nat.zero_add] at this⟩
    simp [World.frozen?, hh]
theorem OStrs.set_other {w : World} {lo : Nat} {v : Value} {l : List (List UInt8)} (h : OStrs w lo v l) {p : Addr} (u : Value) (hp : v.ownBlock = none ∨ v.ownBlock ≠ some p.block) : OStrs (w.setCell p u) lo v l := by
  obtain ⟨A, c, rfl, ho⟩ := h
  refine ⟨A, c, rfl, ho.1, ?_⟩
  rcases ho.2 with h1 | ⟨g, cap, cur, h1, hg, hh, h4⟩
  · exact .inl h1
  · refine .inr ⟨g, cap, cur, h1, hg, (Below.heap_setCell w p u g (fun e => ?_)).trans hh, h4⟩
    injection h1 with h1
    subst h1
    rcases hp with hp | hp
    · simp [Value.ownBlock] at hp
    · exact hp (by simp [Value.ownBlock, e])
theorem Rd.drew {w : World} {lo size n : Nat} {A : Option Addr} {xs : List Value} (h : Rd w lo size A n xs) : Rd w.drew lo size A n xs := h
section
variable {P : Program} (w : World)
theorem step_app {ops : Array Oper} {o : Oper} {a : Act} {K : Act → World → Prop} {Q : Exit → Act → World → Prop} {E : Prop} (hgd : o.guard = none) (s x : Operand) (t : TypeId)
    (ho : o.op = .call { callee := .builtin .append, args := #[s, x], argTypes := #[t, t] })
    (lo : Nat) (e : TypeId) (i : TypeInfo) (z : Value) (sz bytes : Nat) (ht : P.underlying t = some (.slice e)) (hi : P.info? e = some i) (hz : i.zero = some z)
    (hsize : i.size = sz) (hby : i.bytes = bytes) (hzs : z.cells.size = sz) (hsz : 0 < sz)
    (A : Option Addr) (n c : Nat) (xs : List Value) (hs : a.eval s = .slice A n c) (hown : Own w lo e sz A n c xs)
    (l2 : Nat) (B : Option Addr) (m d : Nat) (news : List Value) (hx : a.eval x = .slice B m d) (hr : Rd w l2 sz B m news) (h1 : ∀ u ∈ news, u.oneCell' = true)
    (hbytes : (n + m) * bytes ≤ 140737488355328) (hb0 : 0 < bytes) (hbase : lo ≤ w.heap.size)
    (h : ∀ A' c' w', Own w' lo e sz A' (n + m) c' (xs ++ news) → w.grownBy w' (Value.slice A n c).ownBlock → Below lo w w' →
      ((Value.slice A' (n + m) c').ownBlock = (Value.slice A n c).ownBlock ∨ (Value.slice A' (n + m) c').ownBlock = some w.heap.size) → K (a.put o.dst (.slice A' (n + m) c')) w') :
    if Region.wanted o (yielded ops a.tmps) = true then Oper.wp P o a w K Q else E := by
  have hw : Region.wanted o (yielded ops a.tmps) = true := by simp [Region.wanted, hgd]
  rw [if_pos hw]
  obtain ⟨A', c', w', hrun, h2, h3, h4, h5⟩ := run_app (P := P) w lo t o.type e i z sz bytes ht hi hz hsize hby hzs hsz A n c xs hown l2 B m d news hr h1 hbytes hb0 hbase
  unfold Oper.wp execOp
  simp only [ho, resolve, invoke, builtin, Sem.run_bind, Sem.run_pure, Result.andThen_ok, List.map_toArray, List.map_cons, List.map_nil, hs, hx, hrun]
  exact h A' c' w' h2 h3 h4 h5
end
end Go.Proofs.YtdnpmapelmjfpaaGreatDoor
