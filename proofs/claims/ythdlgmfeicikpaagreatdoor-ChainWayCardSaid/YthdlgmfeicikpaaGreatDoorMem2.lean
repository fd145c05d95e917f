/- Append to a row of the call's own: what was there reads as before. No condition. -/
import Derived.Test.YthdlgmfeicikpaaGreatDoorMem
namespace Go.Proofs.YthdlgmfeicikpaaGreatDoor
set_option linter.unusedSimpArgs false
set_option linter.unusedVariables false
open Go.RowKit
section
variable {P : Program} (w : World)

theorem run_app_old (lo : Nat) (t ty e : TypeId) (i : TypeInfo) (z : Value) (sz bytes : Nat) (ht : P.underlying t = some (.slice e)) (hi : P.info? e = some i) (hz : i.zero = some z)
    (hsize : i.size = sz) (hby : i.bytes = bytes) (hzs : z.cells.size = sz)
    (A : Option Addr) (n c : Nat) (xs : List Value) (hown : Own w lo e sz A n c xs)
    (l2 : Nat) (B : Option Addr) (m d : Nat) (news : List Value) (hr : Rd w l2 sz B m news) (h1 : ∀ u ∈ news, u.oneCell' = true)
    (hbytes : (n + m) * bytes ≤ 140737488355328) (hb0 : 0 < bytes) (v' : Value) (w' : World)
    (hrun : (Builtin.append_ #[t, t] ty #[.slice A n c, .slice B m d]).run P w = .ok v' w') (hsame : m = 0 → w' = w) : Own w' lo e sz A n c xs := by
  by_cases hm : m = 0
  · rw [hsame hm]; exact hown
  have h63 : n + m ≤ maxLen := by
    have : (n + m) * 1 ≤ (n + m) * bytes := Nat.mul_le_mul_left _ hb0
    unfold maxLen; omega
  have hsmall : n + m ≤ 9223372036854775807 := by simp only [maxLen] at h63; omega
  obtain ⟨b, off, rfl, _, _, hc⟩ := hr.2 (by omega)
  have hnews : ∀ j u, news[j]? = some u → w.cell? (Addr.add ⟨b, off, none⟩ j) = some u := fun j u hu => by rw [add_none]; exact hc j u hu
  subst hsize
  subst hby
  rcases hown.2 with ⟨e1, e2⟩ | ⟨g, cap, cur, e1, hbg, hg, hnc, hcm, hcs, htake⟩
  · injection e1 with e1 _ e3
    have hx : xs = [] := List.eq_nil_of_length_eq_zero (by have := hown.1; rw [e2] at this; simpa using this)
    subst e1 e2 e3 hx
    exact Own.nil _ _ _ _
  · injection e1 with e1 _ e3
    subst e1 e3
    by_cases hroom : n + m ≤ c
    · have hfit : n * i.size + news.length ≤ cur.size := by rw [hr.1, hcs, ← Nat.add_mul]; exact Nat.mul_le_mul_right _ hroom
      have hr2 := run_append_room (P := P) w t ty e i ht hi g n c cur hg ⟨b, off, none⟩ m d news hr.1 hnews h1 hroom hfit
      rw [hrun] at hr2
      injection hr2 with _ hw
      subst hw
      refine ⟨hown.1, .inr ⟨g, c, _, rfl, hbg, setRow_heap w g cur _ e _ hg, hnc, hcm, ?_, ?_⟩⟩
      · simp only [List.size_toArray, List.length_append, List.length_take, List.length_drop, Array.length_toList]
        omega
      · have hlx : xs.length = n * i.size := hown.1
        rw [htake, List.append_assoc, List.take_append_of_le_length (by omega), List.take_of_length_le (by omega)]
    · have holds : ∀ j u, xs[j]? = some u → w.cell? ((⟨g, 0, none⟩ : Addr).add j) = some u := World.ownsRow.cells hown (g := g) rfl
      have hr2 := run_append_grow (P := P) w t ty e i z ht hi hz ⟨g, 0, none⟩ n c xs hown.1 holds ⟨b, off, none⟩ m d news hr.1 hnews (by omega) (by omega) (growslice_fits (by omega) hbytes)
      rw [hrun] at hr2
      injection hr2 with _ hw
      subst hw
      exact hown.ext ((Ext.refl w).drew.alloc _)

theorem wpList_app2 {ops : Array Oper} {rest : List Oper} {o : Oper} {a : Act} {Q : Exit → Act → World → Prop} (hgd : o.guard = none) (s x : Operand) (t : TypeId)
    (ho : o.op = .call { callee := .builtin .append, args := #[s, x], argTypes := #[t, t] })
    (lo : Nat) (e : TypeId) (i : TypeInfo) (z : Value) (sz bytes : Nat) (ht : P.underlying t = some (.slice e)) (hi : P.info? e = some i) (hz : i.zero = some z)
    (hsize : i.size = sz) (hby : i.bytes = bytes) (hzs : z.cells.size = sz) (hsz : 0 < sz)
    (A : Option Addr) (n c : Nat) (xs : List Value) (hs : a.eval s = .slice A n c) (hown : Own w lo e sz A n c xs)
    (l2 : Nat) (B : Option Addr) (m d : Nat) (news : List Value) (hx : a.eval x = .slice B m d) (hr : Rd w l2 sz B m news) (h1 : ∀ u ∈ news, u.oneCell' = true) (hm : 0 < m)
    (hbytes : (n + m) * bytes ≤ 140737488355328) (hb0 : 0 < bytes) (hbase : lo ≤ w.heap.size)
    (h : ∀ A' c' w', Own w' lo e sz A' (n + m) c' (xs ++ news) → Own w' lo e sz A n c xs → w.grownBy w' (Value.slice A n c).ownBlock → Below lo w w' →
      ((Value.slice A' (n + m) c').ownBlock = (Value.slice A n c).ownBlock ∨ (Value.slice A' (n + m) c').ownBlock = some w.heap.size) → wpList P ops Q rest (a.put o.dst (.slice A' (n + m) c')) w') : wpList P ops Q (o :: rest) a w :=
  wpList_plain hgd fun K hK => by
    obtain ⟨A', c', w', hrun, h2, h3, h4, h5⟩ := run_app (P := P) w lo t o.type e i z sz bytes ht hi hz hsize hby hzs hsz A n c xs hown l2 B m d news hr h1 hbytes hb0 hbase
    have h6 := run_app_old (P := P) w lo t o.type e i z sz bytes ht hi hz hsize hby hzs A n c xs hown l2 B m d news hr h1 hbytes hb0 _ w' hrun (fun h => absurd h (by omega))
    unfold Oper.wp execOp
    simp only [ho, resolve, invoke, builtin, Sem.run_bind, Sem.run_pure, Result.andThen_ok, List.map_toArray, List.map_cons, List.map_nil, hs, hx, hrun]
    exact hK _ _ (h A' c' w' h2 h6 h3 h4 h5)
end
end Go.Proofs.YthdlgmfeicikpaaGreatDoor
