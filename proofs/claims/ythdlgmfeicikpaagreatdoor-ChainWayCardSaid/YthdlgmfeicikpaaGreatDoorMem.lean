/- Laws on memory that the call itself makes: rows that are appended to. The append law is the guide's own (run_append_own_at, run_append_own_string), said for a source that may be nil. No condition. -/
import Derived.Test.YthdlgmfeicikpaaGreatDoorBase
import Derived.Maps.AppendAt
import Derived.OwnWalk
import Derived.Lib.AppendStr
import Derived.Laws.AppendOwn
namespace Go.Proofs.YthdlgmfeicikpaaGreatDoor
set_option linter.unusedSimpArgs false
set_option linter.unusedVariables false
open Go.RowKit

/-- The slice at A of n elements owns the cells xs, in a block from lo on. -/
def Own (w : World) (lo : Nat) (e : TypeId) (sz : Nat) (A : Option Addr) (n c : Nat) (xs : List Value) : Prop := w.ownsRow lo e sz (.slice A n c) n xs

section
variable {w w' : World} {lo : Nat} {e : TypeId} {sz n c : Nat} {A : Option Addr} {xs : List Value}
theorem Own.nil (w : World) (lo : Nat) (e : TypeId) (sz : Nat) : Own w lo e sz none 0 0 [] := World.ownsRow_nil w lo e sz
theorem Own.cap (h : Own w lo e sz A n c xs) : n ≤ c ∧ c ≤ maxLen := by
  rcases h.2 with ⟨h1, _⟩ | ⟨g, cap, cur, h1, _, _, h4, h5, _⟩
  · injection h1 with _ h2 h3; subst h2 h3; exact ⟨Nat.le_refl _, by unfold maxLen; omega⟩
  · injection h1 with _ _ h3; subst h3; exact ⟨h4, h5⟩
theorem Own.rd (h : Own w lo e sz A n c xs) : Rd w lo sz A n xs := by
  refine ⟨h.1, fun hn => ?_⟩
  rcases h.2 with ⟨h1, h2⟩ | ⟨g, cap, cur, h1, hg, hh, h4, h5, h6, h7⟩
  · omega
  · injection h1 with h1 _ _
    refine ⟨g, 0, h1, hg, (Array.getElem?_eq_some_iff.1 hh).1, fun j u hu => ?_⟩
    have hj : j < n * sz := by have := (List.getElem?_eq_some_iff.1 hu).1; rw [h.1] at this; exact this
    rw [← h7, List.getElem?_take_of_lt hj] at hu
    simp [World.cell?, hh, ← hu]
theorem Own.ext (h : Own w lo e sz A n c xs) (hE : Ext w w') : Own w' lo e sz A n c xs := by
  refine ⟨h.1, ?_⟩
  rcases h.2 with h1 | ⟨g, cap, cur, h1, hg, hh, h4⟩
  · exact .inl h1
  · exact .inr ⟨g, cap, cur, h1, hg, (hE.block g (Array.getElem?_eq_some_iff.1 hh).1).trans hh, h4⟩
theorem Own.set_other (h : Own w lo e sz A n c xs) {p : Addr} (hp : p.block < lo) (u : Value) : Own (w.setCell p u) lo e sz A n c xs := by
  refine ⟨h.1, ?_⟩
  rcases h.2 with h1 | ⟨g, cap, cur, h1, hg, hh, h4⟩
  · exact .inl h1
  · exact .inr ⟨g, cap, cur, h1, hg, (Below.heap_setCell w p u g (by omega)).trans hh, h4⟩
theorem Own.drewN (h : Own w lo e sz A n c xs) (k : Nat) : Own (w.drewN k) lo e sz A n c xs := h
theorem Own.lower {lo' : Nat} (h : Own w lo e sz A n c xs) (hl : lo' ≤ lo) : Own w lo' e sz A n c xs := by
  refine ⟨h.1, ?_⟩
  rcases h.2 with h1 | ⟨g, cap, cur, h1, hg, hh, h4⟩
  · exact .inl h1
  · exact .inr ⟨g, cap, cur, h1, by omega, hh, h4⟩
/-- A block of the row's own, or none. -/
theorem Own.blk (h : Own w lo e sz A n c xs) : ∀ k, (Value.slice A n c).ownBlock = some k → lo ≤ k ∧ k < w.heap.size := World.ownsRow.lt h
theorem Own.kept (h : Own w lo e sz A n c xs) {row : Option Nat} (hg : w.grownBy w' row) (hne : (Value.slice A n c).ownBlock = none ∨ (Value.slice A n c).ownBlock ≠ row) : Own w' lo e sz A n c xs := World.ownsRow.kept h hg hne
end

theorem slice_shape {w : World} {lo : Nat} {e : TypeId} {sz n : Nat} {v : Value} {xs : List Value} (h : w.ownsRow lo e sz v n xs) : ∃ A c, v = .slice A n c ∧ Own w lo e sz A n c xs := by
  rcases h.2 with ⟨h1, h2⟩ | ⟨g, cap, cur, h1, h2⟩
  · subst h1 h2; exact ⟨none, 0, rfl, h⟩
  · subst h1; exact ⟨_, _, rfl, h⟩

theorem add_none (b off j : Nat) : Addr.add ⟨b, off, none⟩ j = ⟨b, off + j, none⟩ := by
  unfold Addr.add
  split <;> simp_all

section
variable {P : Program} (w : World)

theorem run_app (lo : Nat) (t ty e : TypeId) (i : TypeInfo) (z : Value) (sz bytes : Nat) (ht : P.underlying t = some (.slice e)) (hi : P.info? e = some i) (hz : i.zero = some z)
    (hsize : i.size = sz) (hby : i.bytes = bytes) (hzs : z.cells.size = sz) (hsz : 0 < sz)
    (A : Option Addr) (n c : Nat) (xs : List Value) (hown : Own w lo e sz A n c xs)
    (l2 : Nat) (B : Option Addr) (m d : Nat) (news : List Value) (hr : Rd w l2 sz B m news) (h1 : ∀ u ∈ news, u.oneCell' = true)
    (hbytes : (n + m) * bytes ≤ 140737488355328) (hb0 : 0 < bytes) (hbase : lo ≤ w.heap.size) :
    ∃ A' c' w', (Builtin.append_ #[t, t] ty #[.slice A n c, .slice B m d]).run P w = .ok (.slice A' (n + m) c') w' ∧ Own w' lo e sz A' (n + m) c' (xs ++ news) ∧ w.grownBy w' (Value.slice A n c).ownBlock ∧ Below lo w w' ∧
      ((Value.slice A' (n + m) c').ownBlock = (Value.slice A n c).ownBlock ∨ (Value.slice A' (n + m) c').ownBlock = some w.heap.size) := by
  have h63 : n + m ≤ maxLen := by
    have : (n + m) * 1 ≤ (n + m) * bytes := Nat.mul_le_mul_left _ hb0
    unfold maxLen; omega
  have hbl : ∀ w', w.grownBy w' (Value.slice A n c).ownBlock → Below lo w w' := fun w' hg =>
    (Below.refl _ _).grown hg hbase (fun k hk => (hown.blk k hk).1)
  by_cases hm : m = 0
  · subst hm
    have hn : news = [] := List.eq_nil_of_length_eq_zero (by simpa using hr.1)
    subst hn
    refine ⟨A, c, w, ?_, by simpa using hown, World.grownBy.refl w _, hbl w (World.grownBy.refl w _), .inl rfl⟩
    rcases hown.2 with ⟨h1, h2⟩ | ⟨g, cap, cur, h1, _, _, hnc, _⟩
    · injection h1 with h1 _ h3
      subst h1 h2 h3
      cases B <;> simp [Builtin.append_, run_underlying ht, sizeOf, typeInfo, hi, Builtin.lenOf, Builtin.firstCells, loadCells, loadCellsFrom]
    · injection h1 with h1 _ h3
      subst h1 h3
      cases B <;> simp [Builtin.append_, run_underlying ht, sizeOf, typeInfo, hi, Builtin.lenOf, Builtin.firstCells, hnc, storeCells, loadCells, loadCellsFrom]
  · obtain ⟨b, off, rfl, _, _, hc⟩ := hr.2 (by omega)
    obtain ⟨v', w', hrun, h2, h3, _, h5⟩ := run_append_own_at (P := P) w lo t ty e i z sz bytes ht hi hz hsize hby hzs hsz (.slice A n c) n xs hown ⟨b, off, none⟩ m d news hr.1 (fun j u hu => by rw [add_none]; exact hc j u hu) h1 h63 hbytes hbase
    obtain ⟨A', c', rfl, h6⟩ := slice_shape h2
    exact ⟨A', c', w', hrun, h6, h3, hbl w' h3, h5⟩

theorem wpList_app {ops : Array Oper} {rest : List Oper} {o : Oper} {a : Act} {Q : Exit → Act → World → Prop} (hgd : o.guard = none) (s x : Operand) (t : TypeId)
    (ho : o.op = .call { callee := .builtin .append, args := #[s, x], argTypes := #[t, t] })
    (lo : Nat) (e : TypeId) (i : TypeInfo) (z : Value) (sz bytes : Nat) (ht : P.underlying t = some (.slice e)) (hi : P.info? e = some i) (hz : i.zero = some z)
    (hsize : i.size = sz) (hby : i.bytes = bytes) (hzs : z.cells.size = sz) (hsz : 0 < sz)
    (A : Option Addr) (n c : Nat) (xs : List Value) (hs : a.eval s = .slice A n c) (hown : Own w lo e sz A n c xs)
    (l2 : Nat) (B : Option Addr) (m d : Nat) (news : List Value) (hx : a.eval x = .slice B m d) (hr : Rd w l2 sz B m news) (h1 : ∀ u ∈ news, u.oneCell' = true)
    (hbytes : (n + m) * bytes ≤ 140737488355328) (hb0 : 0 < bytes) (hbase : lo ≤ w.heap.size)
    (h : ∀ A' c' w', Own w' lo e sz A' (n + m) c' (xs ++ news) → w.grownBy w' (Value.slice A n c).ownBlock → Below lo w w' →
      ((Value.slice A' (n + m) c').ownBlock = (Value.slice A n c).ownBlock ∨ (Value.slice A' (n + m) c').ownBlock = some w.heap.size) → wpList P ops Q rest (a.put o.dst (.slice A' (n + m) c')) w') : wpList P ops Q (o :: rest) a w :=
  wpList_plain hgd fun K hK => by
    obtain ⟨A', c', w', hrun, h2, h3, h4, h5⟩ := run_app (P := P) w lo t o.type e i z sz bytes ht hi hz hsize hby hzs hsz A n c xs hown l2 B m d news hr h1 hbytes hb0 hbase
    unfold Oper.wp execOp
    simp only [ho, resolve, invoke, builtin, Sem.run_bind, Sem.run_pure, Result.andThen_ok, List.map_toArray, List.map_cons, List.map_nil, hs, hx, hrun]
    exact hK _ _ (h A' c' w' h2 h3 h4 h5)

theorem wpList_app_str {ops : Array Oper} {rest : List Oper} {o : Oper} {a : Act} {Q : Exit → Act → World → Prop} (hgd : o.guard = none) (s x : Operand) (t u : TypeId)
    (ho : o.op = .call { callee := .builtin .append, args := #[s, x], argTypes := #[t, u] })
    (lo : Nat) (e : TypeId) (i : TypeInfo) (ht : P.underlying t = some (.slice e)) (hu : P.underlying u = some .string) (hi : P.info? e = some i) (hz : i.zero = some (.int .u8 0))
    (hsize : i.size = 1) (hby : i.bytes = 1)
    (A : Option Addr) (n c : Nat) (xs : List Value) (hs : a.eval s = .slice A n c) (hown : Own w lo e 1 A n c xs)
    (l : List UInt8) (hx : a.eval x = S l)
    (hbytes : n + l.length ≤ 140737488355328) (hbase : lo ≤ w.heap.size)
    (h : ∀ A' c' w', Own w' lo e 1 A' (n + l.length) c' (xs ++ l.map fun b => Value.int .u8 b.toNat) → w.grownBy w' (Value.slice A n c).ownBlock → Below lo w w' → wpList P ops Q rest (a.put o.dst (.slice A' (n + l.length) c')) w') : wpList P ops Q (o :: rest) a w :=
  wpList_plain hgd fun K hK => by
    obtain ⟨v', w', hrun, h2, h3, _⟩ := Lib.run_append_own_string (P := P) w lo t u o.type e i ht hu hi hz hsize hby (.slice A n c) n xs hown ⟨l.toArray⟩ (by rw [size_mk]; unfold maxLen; omega) (by rw [size_mk]; omega) hbase
    rw [size_mk] at h2
    obtain ⟨A', c', rfl, h6⟩ := slice_shape h2
    unfold Oper.wp execOp
    simp only [ho, resolve, invoke, builtin, Sem.run_bind, Sem.run_pure, Result.andThen_ok, List.map_toArray, List.map_cons, List.map_nil, hs, hx, hrun]
    exact hK _ _ (h A' c' w' (by simpa [Lib.strCells] using h6) h3 ((Below.refl _ _).grown h3 hbase (fun k hk => (hown.blk k hk).1)))
end

/-- A byte's cell. -/
abbrev U8 (b : UInt8) : Value := .int .u8 b.toNat
theorem rd_new1 (w : World) (lo : Nat) (t : TypeId) (u : Value) (hlo : lo ≤ w.heap.size) : Rd (w.alloc (.cells #[u] t)) lo 1 (some ⟨w.heap.size, 0, none⟩) 1 [u] := by
  refine ⟨rfl, fun _ => ⟨w.heap.size, 0, rfl, hlo, by simp, fun j x hx => ?_⟩⟩
  rcases j with _ | j
  · simp at hx; subst hx; simp
  · simp at hx
theorem info_u8 : (Tryz.prog.info? 5).map (fun i => (i.zero, i.size, i.bytes)) = some (some (.int .u8 0), 1, 1) := by kernel_rfl

/-- 'string(b)' of a row of bytes, nil let in. -/
theorem conv_str {w : World} {lo n : Nat} {A : Option Addr} (c : Nat) {l : List UInt8} (h : Rd w lo 1 A n (l.map U8)) :
    (convert 74 9 (.slice A n c)).run Tryz.prog w = .ok (S l) w := by
  have hn : l.length = n := by have := h.1; simpa using this
  subst hn
  by_cases h0 : l.length = 0
  · have : l = [] := List.eq_nil_of_length_eq_zero h0
    subst this
    rw [run_convert_bytes_string w 74 9 5 A _ c Tryz.underlying74 Tryz.underlying5 Tryz.underlying9]
    cases A <;> simp [Conv.bytesToString, loadCells, loadCellsFrom] <;> rfl
  · obtain ⟨b, off, rfl, _, _, hc⟩ := h.2 (by omega)
    exact run_convert_bytes_back (P := Tryz.prog) w 74 9 5 ⟨b, off, none⟩ c l Tryz.underlying74 Tryz.underlying5 Tryz.underlying9 (fun j hj => by
      rw [add_none]
      exact hc j _ (by simp [List.getElem?_eq_getElem hj]))
end Go.Proofs.YthdlgmfeicikpaaGreatDoor
