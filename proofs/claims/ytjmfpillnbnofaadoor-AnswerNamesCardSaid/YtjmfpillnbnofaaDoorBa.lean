/- Contracts of functions and plain lemmas that the proofs of this seat share (joined texts). No condition. -/
import Derived.Test.YtjmfpillnbnofaaDoorProg
import Derived.WalkKit
import Derived.WalkLawsBesides
import Derived.WalkSpells
import Derived.Lib.Hide
import Derived.Outline
import Derived.LoopTactic
import Derived.Deep.QuietTactic
import Derived.BigQuiet
import Derived.Deep.DeepFit
import Derived.Laws.IdiomStrings
import Derived.Lib.SlBytesRow
import Derived.Deep.Draws
import Derived.Maps.AppendAt
import Derived.OwnWalk
import Derived.Lib.AppendStr
import Derived.Laws.AppendOwn
import Derived.Sort.Grow
namespace Go.Proofs.YtjmfpillnbnofaaDoor
set_option linter.unusedSimpArgs false
set_option linter.unusedVariables false
open Go.RowKit

/-! ### Bytes and names, plain -/
abbrev S (l : List UInt8) : Value := .string ⟨l.toArray⟩

/-- One byte folded. -/
def lowB (b : UInt8) : UInt8 := if 65 ≤ b.toNat ∧ b.toNat ≤ 90 then b + 32 else b
def low (l : List UInt8) : List UInt8 := l.map lowB

/-- The labels of bytes (with fuel). -/
def parseF : Nat → List UInt8 → Option (List (List UInt8))
  | 0, _ => none
  | _ + 1, [] => none
  | n + 1, b :: r => if b = 0 then (if r = [] then some [] else none) else if 63 < b.toNat then none else (parseF n (r.drop b.toNat)).map (r.take b.toNat :: ·)
def parse (l : List UInt8) : Option (List (List UInt8)) := parseF (l.length + 1) l

theorem parseF_fuel : ∀ (n m : Nat) (l : List UInt8), l.length < n → l.length < m → parseF n l = parseF m l
  | 0, _, _, h, _ => absurd h (by omega)
  | _, 0, _, _, h => absurd h (by omega)
  | n + 1, m + 1, [], _, _ => rfl
  | n + 1, m + 1, b :: r, h1, h2 => by
    simp only [List.length_cons] at h1 h2
    simp only [parseF]
    rw [parseF_fuel n m (r.drop b.toNat) (by simp; omega) (by simp; omega)]

theorem parse_nil : parse [] = none := rfl
theorem parse_cons (b : UInt8) (r : List UInt8) :
    parse (b :: r) = if b = 0 then (if r = [] then some [] else none) else if 63 < b.toNat then none else (parse (r.drop b.toNat)).map (r.take b.toNat :: ·) := by
  unfold parse
  conv => lhs; unfold parseF
  rw [parseF_fuel (b :: r).length ((r.drop b.toNat).length + 1) (r.drop b.toNat) (by simp; omega) (by omega)]

def labelsOf (l : List UInt8) : Option (List (List UInt8)) := if l.length ≤ 255 then parse l else none
def may (l : List UInt8) : Bool := (labelsOf l).isSome
def fold (l : List UInt8) : List UInt8 := if may l then low l else []
def sameN (a b : List UInt8) : Bool := may a && may b && (low a == low b)

theorem length_low (l : List UInt8) : (low l).length = l.length := by simp [low]
theorem may_nil : may [] = false := rfl
theorem may_le {l : List UInt8} (h : may l = true) : l.length ≤ 255 := by
  unfold may labelsOf at h
  split at h
  · assumption
  · simp at h

/-- A number, its high byte first. -/
def be (l : List UInt8) : Nat := l.foldl (fun v b => v * 256 + b.toNat) 0
theorem be_snoc (l : List UInt8) (b : UInt8) : be (l ++ [b]) = be l * 256 + b.toNat := by simp [be]
theorem be_lt (l : List UInt8) : be l < 256 ^ l.length := by
  rw [← List.reverse_reverse l]
  generalize l.reverse = r
  induction r with
  | nil => simp [be]
  | cons b r ih =>
    rw [List.reverse_cons, be_snoc, List.length_append, List.length_singleton, Nat.pow_succ]
    have := b.toNat_lt
    omega
theorem take_snoc {α : Type} (l : List α) (k : Nat) (h : k < l.length) : l.take (k + 1) = l.take k ++ [l[k]] := List.take_succ_eq_append_getElem h
theorem or_low (x c : Nat) (hc : c < 256) : x * 256 ||| c = x * 256 + c := by
  have := Nat.shiftLeft_add_eq_or_of_lt (i := 8) (b := c) hc x
  rw [Nat.shiftLeft_eq] at this
  exact this.symm

/-! ### Small facts for the walk -/
theorem wrap64_byte (b : UInt8) : wrap64 (b.toNat : Int) = (b.toNat : Int) := by
  have := b.toNat_lt
  exact IntWalk.wrap64_in _ ⟨by omega, by omega⟩
theorem size_mk (l : List UInt8) : (ByteArray.mk l.toArray).size = l.length := rfl
theorem mk_get (l : List UInt8) (k : Nat) (h : k < (ByteArray.mk l.toArray).size) : (ByteArray.mk l.toArray)[k] = l[k]'(by rw [size_mk] at h; exact h) := by
  simp [ByteArray.getElem_eq_getElem_data]
theorem extract_mk (l : List UInt8) (a b : Nat) : (ByteArray.mk l.toArray).extract a b = ⟨((l.drop a).take (b - a)).toArray⟩ := by
  apply ByteArray.ext
  apply Array.toList_inj.1
  rw [Lib.extract_data]
attribute [go_sem] extract_mk
theorem i64_or_nat (a b : Nat) (ha : a < 9223372036854775808) (hb : b < 9223372036854775808) : bits .or .i64 (a : Int) (b : Int) = ((a ||| b : Nat) : Int) := by
  have hx : a ||| b < 2 ^ 63 := Nat.or_lt_two_pow (by omega) (by omega)
  show IntKind.i64.wrap ((BitVec.ofInt 64 (a : Int) ||| BitVec.ofInt 64 (b : Int)).toNat : Int) = _
  rw [BitVec.toNat_or, ofInt_u64 a (by omega), ofInt_u64 b (by omega)]
  exact IntWalk.i64_in _ (by omega)
/-- The byte at a place, under a name of its own (the walk takes the first equation as a rule). -/
theorem byte_at (l : List UInt8) (k : Nat) (h : k < l.length) : ∃ b : UInt8, Hid (l[k] = b) ∧ (∀ h', (ByteArray.mk l.toArray)[k]'h' = b) ∧ wrap64 (b.toNat : Int) = (b.toNat : Int) ∧ (b.toNat : Int) ≤ 255 :=
  ⟨l[k], rfl, fun h' => mk_get l k h', wrap64_byte _, by have := l[k].toNat_lt; omega⟩
theorem ret_bool {a b : Bool} (h : a = b) : Ending.returned (.bool a) = .returned (.bool b) := by rw [h]
theorem ret_int {k : IntKind} {a b : Int} (h : a = b) : Ending.returned (.int k a) = .returned (.int k b) := by rw [h]
theorem ret_str {a b : List UInt8} (h : a = b) : Ending.returned (S a) = .returned (S b) := by rw [h]
theorem drop_cons (l : List UInt8) (k : Nat) (h : k < l.length) : l.drop k = l[k] :: l.drop (k + 1) := by rw [List.drop_eq_getElem_cons h]

theorem len_ne {n : Nat} (h : n ≠ 0) : ((n : Int) == 0) = false := by rw [beq_eq_false_iff_ne]; omega

/-! ### The world behind a call: only new memory -/
abbrev Ext (w w' : World) : Prop := Below w.heap.size w w'
theorem Ext.refl (w : World) : Ext w w := Below.refl _ _
theorem Ext.trans {a b c : World} (h : Ext a b) (k : Ext b c) : Ext a c := Below.trans h (k.mono h.size)
theorem Ext.drewN {a b : World} (h : Ext a b) (n : Nat) : Ext a (b.drewN n) := ⟨h.os, h.tape, h.output, h.size, h.block⟩
theorem Ext.of_drewN {a b : World} (n : Nat) (h : Ext (a.drewN n) b) : Ext a b := ⟨h.os, h.tape, h.output, h.size, h.block⟩
theorem Ext.alloc {a w : World} (h : Ext a w) (o : Obj) : Ext a (w.alloc o) := Below.alloc h h.size o
theorem Ext.drew {a w : World} (h : Ext a w) : Ext a w.drew := Below.drew h
theorem Ext.setCell {a w : World} (h : Ext a w) {p : Addr} (hp : a.heap.size ≤ p.block) (u : Value) : Ext a (w.setCell p u) := Below.setCell h hp u
theorem Ext.then {a b c : World} {lo : Nat} (h : Ext a b) (k : Below lo b c) (hl : a.heap.size ≤ lo) : Ext a c := Below.trans h (k.mono hl)
theorem ext_cell {W w1 : World} (hb : Ext W w1) : (∀ b o, b < W.heap.size → w1.cell? ⟨b, o, none⟩ = W.cell? ⟨b, o, none⟩) ∧ (∀ b o, b < W.heap.size → w1.frozen? ⟨b, o, none⟩ = W.frozen? ⟨b, o, none⟩) :=
  ⟨fun b o h => hb.cell (p := ⟨b, o, none⟩) h, fun b o h => hb.frozen (p := ⟨b, o, none⟩) h⟩

/-- A block that was new ahead of a call, behind it. -/
theorem ext_new {w w' : World} {cs : Array Value} {t : TypeId} (hE : Ext (w.alloc (.cells cs t)) w') : (∀ j, w'.cell? ⟨w.heap.size, j, none⟩ = cs[j]?) ∧ (∀ j, w'.frozen? ⟨w.heap.size, j, none⟩ = false) ∧ w.heap.size < w'.heap.size := by
  have hz : w.heap.size < (w.alloc (.cells cs t)).heap.size := by simp
  refine ⟨fun j => ?_, fun j => ?_, Nat.lt_of_lt_of_le hz hE.size⟩
  · rw [hE.cell (p := ⟨w.heap.size, j, none⟩) hz]; exact World.cell?_alloc_mark w cs t _ j
  · rw [hE.frozen (p := ⟨w.heap.size, j, none⟩) hz]
    have : (w.alloc (.cells cs t)).heap[w.heap.size]? = some (.cells cs t) := heap_alloc_new w _
    unfold World.frozen?
    rw [this]
    simp

/-! ### How a slice reads -/
/-- The slice at A of n elements, 'size' cells each, holds the cells xs; they lie from block lo on. -/
def Rd (w : World) (lo size : Nat) (A : Option Addr) (n : Nat) (xs : List Value) : Prop :=
  xs.length = n * size ∧ (0 < n → ∃ b off, A = some ⟨b, off, none⟩ ∧ lo ≤ b ∧ b < w.heap.size ∧ ∀ j u, xs[j]? = some u → w.cell? ⟨b, off + j, none⟩ = some u)

theorem Rd.keep {w w' : World} {lo size n : Nat} {A : Option Addr} {xs : List Value} (h : Rd w lo size A n xs) (hs : w.heap.size ≤ w'.heap.size)
    (hk : ∀ b o, b < w.heap.size → lo ≤ b → w'.cell? ⟨b, o, none⟩ = w.cell? ⟨b, o, none⟩) : Rd w' lo size A n xs :=
  ⟨h.1, fun hn => by
    obtain ⟨b, off, e, hlo, hb, hc⟩ := h.2 hn
    exact ⟨b, off, e, hlo, by omega, fun j u hu => (hk _ _ hb hlo).trans (hc j u hu)⟩⟩
theorem Rd.ext {w w' : World} {lo size n : Nat} {A : Option Addr} {xs : List Value} (h : Rd w lo size A n xs) (hb : Ext w w') : Rd w' lo size A n xs :=
  h.keep hb.size fun _ _ hlt _ => hb.cell (p := ⟨_, _, none⟩) hlt
theorem Rd.lower {w : World} {lo lo' size n : Nat} {A : Option Addr} {xs : List Value} (h : Rd w lo size A n xs) (hl : lo' ≤ lo) : Rd w lo' size A n xs :=
  ⟨h.1, fun hn => by obtain ⟨b, off, e, hlo, hb, hc⟩ := h.2 hn; exact ⟨b, off, e, by omega, hb, hc⟩⟩
theorem Rd.nil (w : World) (lo size : Nat) (A : Option Addr) : Rd w lo size A 0 [] := ⟨by simp, fun h => absurd h (by omega)⟩

/-- A row of bytes of the call's own. -/
def BRow (w : World) (g n : Nat) (f : Nat → UInt8) : Prop := ∀ j, j < n → w.cell? ⟨g, j, none⟩ = some (.int .u8 ((f j).toNat : Int)) ∧ w.frozen? ⟨g, j, none⟩ = false
theorem BRow.set {w : World} {g n : Nat} {f : Nat → UInt8} (h : BRow w g n f) {k : Nat} (hk : k < n) (b : UInt8) (x : Int) (hx : x = b.toNat) : BRow (w.setCell ⟨g, k, none⟩ (.int .u8 x)) g n (fun j => if j = k then b else f j) := by
  subst hx
  intro j hj
  obtain ⟨h1, h2⟩ := h j hj
  obtain ⟨h3, _⟩ := h k hk
  constructor
  · by_cases e : j = k
    · subst e
      simp only [if_true]
      exact World.cell?_setCell_same w ⟨g, j, none⟩ _ h3
    · simp only [if_neg e]
      rw [World.cell?_setCell_other w ⟨g, k, none⟩ ⟨g, j, none⟩ _ (fun h => e (by injection h with _ h; exact h.symm)), h1]
  · rw [World.frozen?_setCell]; exact h2
theorem BRow.congr {w : World} {g n : Nat} {f f' : Nat → UInt8} (h : BRow w g n f) (e : ∀ j, j < n → f' j = f j) : BRow w g n f' := fun j hj => by rw [e j hj]; exact h j hj

/-- A []string. -/
def Strs (w : World) (lo : Nat) (v : Value) (l : List (List UInt8)) : Prop :=
  ∃ A c, v = .slice A l.length c ∧ l.length ≤ c ∧ c ≤ maxLen ∧ Rd w lo 1 A l.length (l.map S)
theorem Strs.ext {w w' : World} {lo : Nat} {v : Value} {l : List (List UInt8)} (h : Strs w lo v l) (hb : Ext w w') : Strs w' lo v l := by
  obtain ⟨A, c, e, h1, h2, h3⟩ := h
  exact ⟨A, c, e, h1, h2, h3.ext hb⟩
end Go.Proofs.YtjmfpillnbnofaaDoor
namespace Go.Proofs.YtjmfpillnbnofaaDoor
set_option linter.unusedSimpArgs false
set_option linter.unusedVariables false
open Go.RowKit

/-- The slice at A of n elements owns the cells xs, in a block from lo on. -/
def Own (w : World) (lo : Nat) (e : TypeId) (sz : Nat) (A : Option Addr) (n c : Nat) (xs : List Value) : Prop := w.ownsRow lo e sz (.slice A n c) n xs

section
variable {w w' : World} {lo : Nat} {e : TypeId} {sz n c : Nat} {A : Option Addr} {xs : List Value}
theorem Own.nil (w : World) (lo : Nat) (e : TypeId) (sz : Nat) : Own w lo e sz none 0 0 [] := World.ownsRow_nil w lo e sz
theorem Own.cap (h : Own w lo e sz A n c xs) : n ≤ c ∧ c ≤ maxLen := by
  rcases h.2 with ⟨h1, _⟩ | ⟨g, cap, cur, h1, _, _, h4, h5, _⟩
  · injection h1 with _ h2 h3; subst h2 h3; exact ⟨Nat.le_refl _, by unfold maxLen; omega⟩
  · injection h1 with _ _ h3; subst h3; exact ⟨h4, h5⟩
theorem Own.rd (h : Own w lo e sz A n c xs) : Rd w lo sz A n xs := by
  refine ⟨h.1, fun hn => ?_⟩
  rcases h.2 with ⟨h1, h2⟩ | ⟨g, cap, cur, h1, hg, hh, h4, h5, h6, h7⟩
  · omega
  · injection h1 with h1 _ _
    refine ⟨g, 0, h1, hg, (Array.getElem?_eq_some_iff.1 hh).1, fun j u hu => ?_⟩
    have hj : j < n * sz := by have := (List.getElem?_eq_some_iff.1 hu).1; rw [h.1] at this; exact this
    rw [← h7, List.getElem?_take_of_lt hj] at hu
    simp [World.cell?, hh, ← hu]
theorem Own.ext (h : Own w lo e sz A n c xs) (hE : Ext w w') : Own w' lo e sz A n c xs := by
  refine ⟨h.1, ?_⟩
  rcases h.2 with h1 | ⟨g, cap, cur, h1, hg, hh, h4⟩
  · exact .inl h1
  · exact .inr ⟨g, cap, cur, h1, hg, (hE.block g (Array.getElem?_eq_some_iff.1 hh).1).trans hh, h4⟩
theorem Own.set_other (h : Own w lo e sz A n c xs) {p : Addr} (hp : p.block < lo) (u : Value) : Own (w.setCell p u) lo e sz A n c xs := by
  refine ⟨h.1, ?_⟩
  rcases h.2 with h1 | ⟨g, cap, cur, h1, hg, hh, h4⟩
  · exact .inl h1
  · exact .inr ⟨g, cap, cur, h1, hg, (Below.heap_setCell w p u g (by omega)).trans hh, h4⟩
theorem Own.drewN (h : Own w lo e sz A n c xs) (k : Nat) : Own (w.drewN k) lo e sz A n c xs := h
theorem Own.lower {lo' : Nat} (h : Own w lo e sz A n c xs) (hl : lo' ≤ lo) : Own w lo' e sz A n c xs := by
  refine ⟨h.1, ?_⟩
  rcases h.2 with h1 | ⟨g, cap, cur, h1, hg, hh, h4⟩
  · exact .inl h1
  · exact .inr ⟨g, cap, cur, h1, by omega, hh, h4⟩
/-- A block of the row's own, or none. -/
theorem Own.blk (h : Own w lo e sz A n c xs) : ∀ k, (Value.slice A n c).ownBlock = some k → lo ≤ k ∧ k < w.heap.size := World.ownsRow.lt h
theorem Own.kept (h : Own w lo e sz A n c xs) {row : Option Nat} (hg : w.grownBy w' row) (hne : (Value.slice A n c).ownBlock = none ∨ (Value.slice A n c).ownBlock ≠ row) : Own w' lo e sz A n c xs := World.ownsRow.kept h hg hne
end

theorem slice_shape {w : World} {lo : Nat} {e : TypeId} {sz n : Nat} {v : Value} {xs : List Value} (h : w.ownsRow lo e sz v n xs) : ∃ A c, v = .slice A n c ∧ Own w lo e sz A n c xs := by
  rcases h.2 with ⟨h1, h2⟩ | ⟨g, cap, cur, h1, h2⟩
  · subst h1 h2; exact ⟨none, 0, rfl, h⟩
  · subst h1; exact ⟨_, _, rfl, h⟩

theorem add_none (b off j : Nat) : Addr.add ⟨b, off, none⟩ j = ⟨b, off + j, none⟩ := by
  unfold Addr.add
  split <;> simp_all

section
variable {P : Program} (w : World)

theorem run_app (lo : Nat) (t ty e : TypeId) (i : TypeInfo) (z : Value) (sz bytes : Nat) (ht : P.underlying t = some (.slice e)) (hi : P.info? e = some i) (hz : i.zero = some z)
    (hsize : i.size = sz) (hby : i.bytes = bytes) (hzs : z.cells.size = sz) (hsz : 0 < sz)
    (A : Option Addr) (n c : Nat) (xs : List Value) (hown : Own w lo e sz A n c xs)
    (l2 : Nat) (B : Option Addr) (m d : Nat) (news : List Value) (hr : Rd w l2 sz B m news) (h1 : ∀ u ∈ news, u.oneCell' = true)
    (hbytes : (n + m) * bytes ≤ 140737488355328) (hb0 : 0 < bytes) (hbase : lo ≤ w.heap.size) :
    ∃ A' c' w', (Builtin.append_ #[t, t] ty #[.slice A n c, .slice B m d]).run P w = .ok (.slice A' (n + m) c') w' ∧ Own w' lo e sz A' (n + m) c' (xs ++ news) ∧ w.grownBy w' (Value.slice A n c).ownBlock ∧ Below lo w w' ∧
      ((Value.slice A' (n + m) c').ownBlock = (Value.slice A n c).ownBlock ∨ (Value.slice A' (n + m) c').ownBlock = some w.heap.size) := by
  have h63 : n + m ≤ maxLen := by
    have : (n + m) * 1 ≤ (n + m) * bytes := Nat.mul_le_mul_left _ hb0
    unfold maxLen; omega
  have hbl : ∀ w', w.grownBy w' (Value.slice A n c).ownBlock → Below lo w w' := fun w' hg =>
    (Below.refl _ _).grown hg hbase (fun k hk => (hown.blk k hk).1)
  by_cases hm : m = 0
  · subst hm
    have hn : news = [] := List.eq_nil_of_length_eq_zero (by simpa using hr.1)
    subst hn
    refine ⟨A, c, w, ?_, by simpa using hown, World.grownBy.refl w _, hbl w (World.grownBy.refl w _), .inl rfl⟩
    rcases hown.2 with ⟨h1, h2⟩ | ⟨g, cap, cur, h1, _, _, hnc, _⟩
    · injection h1 with h1 _ h3
      subst h1 h2 h3
      cases B <;> simp [Builtin.append_, run_underlying ht, sizeOf, typeInfo, hi, Builtin.lenOf, Builtin.firstCells, loadCells, loadCellsFrom]
    · injection h1 with h1 _ h3
      subst h1 h3
      cases B <;> simp [Builtin.append_, run_underlying ht, sizeOf, typeInfo, hi, Builtin.lenOf, Builtin.firstCells, hnc, storeCells, loadCells, loadCellsFrom]
  · obtain ⟨b, off, rfl, _, _, hc⟩ := hr.2 (by omega)
    obtain ⟨v', w', hrun, h2, h3, _, h5⟩ := run_append_own_at (P := P) w lo t ty e i z sz bytes ht hi hz hsize hby hzs hsz (.slice A n c) n xs hown ⟨b, off, none⟩ m d news hr.1 (fun j u hu => by rw [add_none]; exact hc j u hu) h1 h63 hbytes hbase
    obtain ⟨A', c', rfl, h6⟩ := slice_shape h2
    exact ⟨A', c', w', hrun, h6, h3, hbl w' h3, h5⟩

theorem wpList_app {ops : Array Oper} {rest : List Oper} {o : Oper} {a : Act} {Q : Exit → Act → World → Prop} (hgd : o.guard = none) (s x : Operand) (t : TypeId)
    (ho : o.op = .call { callee := .builtin .append, args := #[s, x], argTypes := #[t, t] })
    (lo : Nat) (e : TypeId) (i : TypeInfo) (z : Value) (sz bytes : Nat) (ht : P.underlying t = some (.slice e)) (hi : P.info? e = some i) (hz : i.zero = some z)
    (hsize : i.size = sz) (hby : i.bytes = bytes) (hzs : z.cells.size = sz) (hsz : 0 < sz)
    (A : Option Addr) (n c : Nat) (xs : List Value) (hs : a.eval s = .slice A n c) (hown : Own w lo e sz A n c xs)
    (l2 : Nat) (B : Option Addr) (m d : Nat) (news : List Value) (hx : a.eval x = .slice B m d) (hr : Rd w l2 sz B m news) (h1 : ∀ u ∈ news, u.oneCell' = true)
    (hbytes : (n + m) * bytes ≤ 140737488355328) (hb0 : 0 < bytes) (hbase : lo ≤ w.heap.size)
    (h : ∀ A' c' w', Own w' lo e sz A' (n + m) c' (xs ++ news) → w.grownBy w' (Value.slice A n c).ownBlock → Below lo w w' →
      ((Value.slice A' (n + m) c').ownBlock = (Value.slice A n c).ownBlock ∨ (Value.slice A' (n + m) c').ownBlock = some w.heap.size) → wpList P ops Q rest (a.put o.dst (.slice A' (n + m) c')) w') : wpList P ops Q (o :: rest) a w :=
  wpList_plain hgd fun K hK => by
    obtain ⟨A', c', w', hrun, h2, h3, h4, h5⟩ := run_app (P := P) w lo t o.type e i z sz bytes ht hi hz hsize hby hzs hsz A n c xs hown l2 B m d news hr h1 hbytes hb0 hbase
    unfold Oper.wp execOp
    simp only [ho, resolve, invoke, builtin, Sem.run_bind, Sem.run_pure, Result.andThen_ok, List.map_toArray, List.map_cons, List.map_nil, hs, hx, hrun]
    exact hK _ _ (h A' c' w' h2 h3 h4 h5)

theorem wpList_app_str {ops : Array Oper} {rest : List Oper} {o : Oper} {a : Act} {Q : Exit → Act → World → Prop} (hgd : o.guard = none) (s x : Operand) (t u : TypeId)
    (ho : o.op = .call { callee := .builtin .append, args := #[s, x], argTypes := #[t, u] })
    (lo : Nat) (e : TypeId) (i : TypeInfo) (ht : P.underlying t = some (.slice e)) (hu : P.underlying u = some .string) (hi : P.info? e = some i) (hz : i.zero = some (.int .u8 0))
    (hsize : i.size = 1) (hby : i.bytes = 1)
    (A : Option Addr) (n c : Nat) (xs : List Value) (hs : a.eval s = .slice A n c) (hown : Own w lo e 1 A n c xs)
    (l : List UInt8) (hx : a.eval x = S l)
    (hbytes : n + l.length ≤ 140737488355328) (hbase : lo ≤ w.heap.size)
    (h : ∀ A' c' w', Own w' lo e 1 A' (n + l.length) c' (xs ++ l.map fun b => Value.int .u8 b.toNat) → w.grownBy w' (Value.slice A n c).ownBlock → Below lo w w' → wpList P ops Q rest (a.put o.dst (.slice A' (n + l.length) c')) w') : wpList P ops Q (o :: rest) a w :=
  wpList_plain hgd fun K hK => by
    obtain ⟨v', w', hrun, h2, h3, _⟩ := Lib.run_append_own_string (P := P) w lo t u o.type e i ht hu hi hz hsize hby (.slice A n c) n xs hown ⟨l.toArray⟩ (by rw [size_mk]; unfold maxLen; omega) (by rw [size_mk]; omega) hbase
    rw [size_mk] at h2
    obtain ⟨A', c', rfl, h6⟩ := slice_shape h2
    unfold Oper.wp execOp
    simp only [ho, resolve, invoke, builtin, Sem.run_bind, Sem.run_pure, Result.andThen_ok, List.map_toArray, List.map_cons, List.map_nil, hs, hx, hrun]
    exact hK _ _ (h A' c' w' (by simpa [Lib.strCells] using h6) h3 ((Below.refl _ _).grown h3 hbase (fun k hk => (hown.blk k hk).1)))
end

/-- A byte's cell. -/
abbrev U8 (b : UInt8) : Value := .int .u8 b.toNat
theorem rd_new1 (w : World) (lo : Nat) (t : TypeId) (u : Value) (hlo : lo ≤ w.heap.size) : Rd (w.alloc (.cells #[u] t)) lo 1 (some ⟨w.heap.size, 0, none⟩) 1 [u] := by
  refine ⟨rfl, fun _ => ⟨w.heap.size, 0, rfl, hlo, by simp, fun j x hx => ?_⟩⟩
  rcases j with _ | j
  · simp at hx; subst hx; simp
  · simp at hx
theorem info_u8 : (Tryd.prog.info? 5).map (fun i => (i.zero, i.size, i.bytes)) = some (some (.int .u8 0), 1, 1) := by kernel_rfl

/-- 'string(b)' of a row of bytes, nil let in. -/
theorem conv_str {w : World} {lo n : Nat} {A : Option Addr} (c : Nat) {l : List UInt8} (h : Rd w lo 1 A n (l.map U8)) :
    (convert 63 9 (.slice A n c)).run Tryd.prog w = .ok (S l) w := by
  have hn : l.length = n := by have := h.1; simpa using this
  subst hn
  by_cases h0 : l.length = 0
  · have : l = [] := List.eq_nil_of_length_eq_zero h0
    subst this
    rw [run_convert_bytes_string w 63 9 5 A _ c Tryd.underlying63 Tryd.underlying5 Tryd.underlying9]
    cases A <;> simp [Conv.bytesToString, loadCells, loadCellsFrom] <;> rfl
  · obtain ⟨b, off, rfl, _, _, hc⟩ := h.2 (by omega)
    exact run_convert_bytes_back (P := Tryd.prog) w 63 9 5 ⟨b, off, none⟩ c l Tryd.underlying63 Tryd.underlying5 Tryd.underlying9 (fun j hj => by
      rw [add_none]
      exact hc j _ (by simp [List.getElem?_eq_getElem hj]))
end Go.Proofs.YtjmfpillnbnofaaDoor
namespace Go.Proofs.YtjmfpillnbnofaaDoor
set_option linter.unusedSimpArgs false
set_option linter.unusedVariables false
open Go.RowKit
section
variable {P : Program} (w : World)

theorem run_app_old (lo : Nat) (t ty e : TypeId) (i : TypeInfo) (z : Value) (sz bytes : Nat) (ht : P.underlying t = some (.slice e)) (hi : P.info? e = some i) (hz : i.zero = some z)
    (hsize : i.size = sz) (hby : i.bytes = bytes) (hzs : z.cells.size = sz)
    (A : Option Addr) (n c : Nat) (xs : List Value) (hown : Own w lo e sz A n c xs)
    (l2 : Nat) (B : Option Addr) (m d : Nat) (news : List Value) (hr : Rd w l2 sz B m news) (h1 : ∀ u ∈ news, u.oneCell' = true)
    (hbytes : (n + m) * bytes ≤ 140737488355328) (hb0 : 0 < bytes) (v' : Value) (w' : World)
    (hrun : (Builtin.append_ #[t, t] ty #[.slice A n c, .slice B m d]).run P w = .ok v' w') (hsame : m = 0 → w' = w) : Own w' lo e sz A n c xs := by
  by_cases hm : m = 0
  · rw [hsame hm]; exact hown
  have h63 : n + m ≤ maxLen := by
    have : (n + m) * 1 ≤ (n + m) * bytes := Nat.mul_le_mul_left _ hb0
    unfold maxLen; omega
  have hsmall : n + m ≤ 9223372036854775807 := by simp only [maxLen] at h63; omega
  obtain ⟨b, off, rfl, _, _, hc⟩ := hr.2 (by omega)
  have hnews : ∀ j u, news[j]? = some u → w.cell? (Addr.add ⟨b, off, none⟩ j) = some u := fun j u hu => by rw [add_none]; exact hc j u hu
  subst hsize
  subst hby
  rcases hown.2 with ⟨e1, e2⟩ | ⟨g, cap, cur, e1, hbg, hg, hnc, hcm, hcs, htake⟩
  · injection e1 with e1 _ e3
    have hx : xs = [] := List.eq_nil_of_length_eq_zero (by have := hown.1; rw [e2] at this; simpa using this)
    subst e1 e2 e3 hx
    exact Own.nil _ _ _ _
  · injection e1 with e1 _ e3
    subst e1 e3
    by_cases hroom : n + m ≤ c
    · have hfit : n * i.size + news.length ≤ cur.size := by rw [hr.1, hcs, ← Nat.add_mul]; exact Nat.mul_le_mul_right _ hroom
      have hr2 := run_append_room (P := P) w t ty e i ht hi g n c cur hg ⟨b, off, none⟩ m d news hr.1 hnews h1 hroom hfit
      rw [hrun] at hr2
      injection hr2 with _ hw
      subst hw
      refine ⟨hown.1, .inr ⟨g, c, _, rfl, hbg, setRow_heap w g cur _ e _ hg, hnc, hcm, ?_, ?_⟩⟩
      · simp only [List.size_toArray, List.length_append, List.length_take, List.length_drop, Array.length_toList]
        omega
      · have hlx : xs.length = n * i.size := hown.1
        rw [htake, List.append_assoc, List.take_append_of_le_length (by omega), List.take_of_length_le (by omega)]
    · have holds : ∀ j u, xs[j]? = some u → w.cell? ((⟨g, 0, none⟩ : Addr).add j) = some u := World.ownsRow.cells hown (g := g) rfl
      have hr2 := run_append_grow (P := P) w t ty e i z ht hi hz ⟨g, 0, none⟩ n c xs hown.1 holds ⟨b, off, none⟩ m d news hr.1 hnews (by omega) (by omega) (growslice_fits (by omega) hbytes)
      rw [hrun] at hr2
      injection hr2 with _ hw
      subst hw
      exact hown.ext ((Ext.refl w).drew.alloc _)

theorem wpList_app2 {ops : Array Oper} {rest : List Oper} {o : Oper} {a : Act} {Q : Exit → Act → World → Prop} (hgd : o.guard = none) (s x : Operand) (t : TypeId)
    (ho : o.op = .call { callee := .builtin .append, args := #[s, x], argTypes := #[t, t] })
    (lo : Nat) (e : TypeId) (i : TypeInfo) (z : Value) (sz bytes : Nat) (ht : P.underlying t = some (.slice e)) (hi : P.info? e = some i) (hz : i.zero = some z)
    (hsize : i.size = sz) (hby : i.bytes = bytes) (hzs : z.cells.size = sz) (hsz : 0 < sz)
    (A : Option Addr) (n c : Nat) (xs : List Value) (hs : a.eval s = .slice A n c) (hown : Own w lo e sz A n c xs)
    (l2 : Nat) (B : Option Addr) (m d : Nat) (news : List Value) (hx : a.eval x = .slice B m d) (hr : Rd w l2 sz B m news) (h1 : ∀ u ∈ news, u.oneCell' = true) (hm : 0 < m)
    (hbytes : (n + m) * bytes ≤ 140737488355328) (hb0 : 0 < bytes) (hbase : lo ≤ w.heap.size)
    (h : ∀ A' c' w', Own w' lo e sz A' (n + m) c' (xs ++ news) → Own w' lo e sz A n c xs → w.grownBy w' (Value.slice A n c).ownBlock → Below lo w w' →
      ((Value.slice A' (n + m) c').ownBlock = (Value.slice A n c).ownBlock ∨ (Value.slice A' (n + m) c').ownBlock = some w.heap.size) → wpList P ops Q rest (a.put o.dst (.slice A' (n + m) c')) w') : wpList P ops Q (o :: rest) a w :=
  wpList_plain hgd fun K hK => by
    obtain ⟨A', c', w', hrun, h2, h3, h4, h5⟩ := run_app (P := P) w lo t o.type e i z sz bytes ht hi hz hsize hby hzs hsz A n c xs hown l2 B m d news hr h1 hbytes hb0 hbase
    have h6 := run_app_old (P := P) w lo t o.type e i z sz bytes ht hi hz hsize hby hzs A n c xs hown l2 B m d news hr h1 hbytes hb0 _ w' hrun (fun h => absurd h (by omega))
    unfold Oper.wp execOp
    simp only [ho, resolve, invoke, builtin, Sem.run_bind, Sem.run_pure, Result.andThen_ok, List.map_toArray, List.map_cons, List.map_nil, hs, hx, hrun]
    exact hK _ _ (h A' c' w' h2 h6 h3 h4 h5)
end
end Go.Proofs.YtjmfpillnbnofaaDoor
namespace Go.Proofs.YtjmfpillnbnofaaDoor
set_option linter.unusedSimpArgs false
set_option linter.unusedVariables false
open Go.RowKit
section
variable {P : Program} (w : World)
theorem run_app_drawn (lo : Nat) (t ty e : TypeId) (i : TypeInfo) (z : Value) (sz bytes : Nat) (ht : P.underlying t = some (.slice e)) (hi : P.info? e = some i) (hz : i.zero = some z)
    (hsize : i.size = sz) (hby : i.bytes = bytes) (hzs : z.cells.size = sz)
    (A : Option Addr) (n c : Nat) (xs : List Value) (hown : Own w lo e sz A n c xs)
    (l2 : Nat) (B : Option Addr) (m d : Nat) (news : List Value) (hr : Rd w l2 sz B m news) (h1 : ∀ u ∈ news, u.oneCell' = true) (hm : 0 < m)
    (hbytes : (n + m) * bytes ≤ 140737488355328) (hb0 : 0 < bytes) (v' : Value) (w' : World)
    (hrun : (Builtin.append_ #[t, t] ty #[.slice A n c, .slice B m d]).run P w = .ok v' w') : w.drawn ≤ w'.drawn := by
  have h63 : n + m ≤ maxLen := by
    have : (n + m) * 1 ≤ (n + m) * bytes := Nat.mul_le_mul_left _ hb0
    unfold maxLen; omega
  have hsmall : n + m ≤ 9223372036854775807 := by simp only [maxLen] at h63; omega
  obtain ⟨b, off, rfl, _, _, hc⟩ := hr.2 (by omega)
  have hnews : ∀ j u, news[j]? = some u → w.cell? (Addr.add ⟨b, off, none⟩ j) = some u := fun j u hu => by rw [add_none]; exact hc j u hu
  subst hsize
  subst hby
  rcases hown.2 with ⟨e1, e2⟩ | ⟨g, cap, cur, e1, hbg, hg, hnc, hcm, hcs, htake⟩
  · injection e1 with e1 _ e3
    have hx : xs = [] := List.eq_nil_of_length_eq_zero (by have := hown.1; rw [e2] at this; simpa using this)
    subst e1 e2 e3 hx
    have hr2 := run_append_nil (P := P) w t ty e i z ht hi hz ⟨b, off, none⟩ m d news hr.1 hnews (by omega) (by omega) (by have hb := hbytes; simp only [Nat.zero_add] at hb; omega)
    rw [hrun] at hr2
    injection hr2 with _ hw
    rw [hw]
    show w.drawn ≤ w.drawn + 1
    omega
  · injection e1 with e1 _ e3
    subst e1 e3
    by_cases hroom : n + m ≤ c
    · have hfit : n * i.size + news.length ≤ cur.size := by rw [hr.1, hcs, ← Nat.add_mul]; exact Nat.mul_le_mul_right _ hroom
      have hr2 := run_append_room (P := P) w t ty e i ht hi g n c cur hg ⟨b, off, none⟩ m d news hr.1 hnews h1 hroom hfit
      rw [hrun] at hr2
      injection hr2 with _ hw
      rw [hw]
      exact Nat.le_refl _
    · have holds : ∀ j u, xs[j]? = some u → w.cell? ((⟨g, 0, none⟩ : Addr).add j) = some u := World.ownsRow.cells hown (g := g) rfl
      have hr2 := run_append_grow (P := P) w t ty e i z ht hi hz ⟨g, 0, none⟩ n c xs hown.1 holds ⟨b, off, none⟩ m d news hr.1 hnews (by omega) (by omega) (growslice_fits (by omega) hbytes)
      rw [hrun] at hr2
      injection hr2 with _ hw
      rw [hw]
      show w.drawn ≤ w.drawn + 1
      omega

theorem wpList_app3 {ops : Array Oper} {rest : List Oper} {o : Oper} {a : Act} {Q : Exit → Act → World → Prop} (hgd : o.guard = none) (s x : Operand) (t : TypeId)
    (ho : o.op = .call { callee := .builtin .append, args := #[s, x], argTypes := #[t, t] })
    (lo : Nat) (e : TypeId) (i : TypeInfo) (z : Value) (sz bytes : Nat) (ht : P.underlying t = some (.slice e)) (hi : P.info? e = some i) (hz : i.zero = some z)
    (hsize : i.size = sz) (hby : i.bytes = bytes) (hzs : z.cells.size = sz) (hsz : 0 < sz)
    (A : Option Addr) (n c : Nat) (xs : List Value) (hs : a.eval s = .slice A n c) (hown : Own w lo e sz A n c xs)
    (l2 : Nat) (B : Option Addr) (m d : Nat) (news : List Value) (hx : a.eval x = .slice B m d) (hr : Rd w l2 sz B m news) (h1 : ∀ u ∈ news, u.oneCell' = true) (hm : 0 < m)
    (hbytes : (n + m) * bytes ≤ 140737488355328) (hb0 : 0 < bytes) (hbase : lo ≤ w.heap.size)
    (h : ∀ A' c' w', Own w' lo e sz A' (n + m) c' (xs ++ news) → w.drawn ≤ w'.drawn → w.grownBy w' (Value.slice A n c).ownBlock → Below lo w w' →
      ((Value.slice A' (n + m) c').ownBlock = (Value.slice A n c).ownBlock ∨ (Value.slice A' (n + m) c').ownBlock = some w.heap.size) → wpList P ops Q rest (a.put o.dst (.slice A' (n + m) c')) w') : wpList P ops Q (o :: rest) a w :=
  wpList_plain hgd fun K hK => by
    obtain ⟨A', c', w', hrun, h2, h3, h4, h5⟩ := run_app (P := P) w lo t o.type e i z sz bytes ht hi hz hsize hby hzs hsz A n c xs hown l2 B m d news hr h1 hbytes hb0 hbase
    have h6 := run_app_drawn (P := P) w lo t o.type e i z sz bytes ht hi hz hsize hby hzs A n c xs hown l2 B m d news hr h1 hm hbytes hb0 _ w' hrun
    unfold Oper.wp execOp
    simp only [ho, resolve, invoke, builtin, Sem.run_bind, Sem.run_pure, Result.andThen_ok, List.map_toArray, List.map_cons, List.map_nil, hs, hx, hrun]
    exact hK _ _ (h A' c' w' h2 h6 h3 h4 h5)
end

/-- Only new memory, and no draw undone. -/
def ExtD (w w' : World) : Prop := Ext w w' ∧ w.drawn ≤ w'.drawn
theorem ExtD.refl (w : World) : ExtD w w := ⟨Ext.refl w, Nat.le_refl _⟩
theorem ExtD.trans {a b c : World} (h : ExtD a b) (k : ExtD b c) : ExtD a c := ⟨h.1.trans k.1, Nat.le_trans h.2 k.2⟩
theorem ExtD.alloc {a w : World} (h : ExtD a w) (o : Obj) : ExtD a (w.alloc o) := ⟨h.1.alloc o, h.2⟩
theorem ExtD.drew {a w : World} (h : ExtD a w) : ExtD a w.drew := ⟨h.1.drew, Nat.le_trans h.2 (by show w.drawn ≤ w.drawn + 1; omega)⟩
theorem ExtD.drewN {a w : World} (h : ExtD a w) (n : Nat) : ExtD a (w.drewN n) := ⟨h.1.drewN n, Nat.le_trans h.2 (by show w.drawn ≤ w.drawn + n; omega)⟩
theorem ExtD.setCell {a w : World} (h : ExtD a w) {p : Addr} (hp : a.heap.size ≤ p.block) (u : Value) : ExtD a (w.setCell p u) := ⟨h.1.setCell hp u, h.2⟩
theorem ExtD.then {a b c : World} {lo : Nat} (h : ExtD a b) (k : Below lo b c) (hd : b.drawn ≤ c.drawn) (hl : a.heap.size ≤ lo) : ExtD a c := ⟨h.1.then k hl, Nat.le_trans h.2 hd⟩
theorem ExtD.grow {w w' : World} (h : ExtD w w') : ∃ q os, w' = Go.Sort.grow (w.drewN q) os := by
  refine ⟨w'.drawn - w.drawn, w'.heap.extract w.heap.size w'.heap.size, ?_⟩
  obtain ⟨h1, h2⟩ := h
  have hh : w'.heap = w.heap ++ w'.heap.extract w.heap.size w'.heap.size := by
    apply Array.ext_getElem?
    intro k
    rcases Nat.lt_or_ge k w.heap.size with hk | hk
    · rw [Array.getElem?_append_left hk]; exact h1.block k hk
    · rw [Array.getElem?_append_right hk, Array.getElem?_extract]
      have := h1.size
      split
      · congr 1; omega
      · rw [Array.getElem?_eq_none (by omega)]
  have hd : w.drawn + (w'.drawn - w.drawn) = w'.drawn := by omega
  obtain ⟨hp, tp, dr, os, ou⟩ := w'
  have e1 := h1.os
  have e2 := h1.tape
  have e3 := h1.output
  dsimp only at *
  subst e1 e2 e3
  simp only [Go.Sort.grow, World.drewN, World.mk.injEq, and_true, true_and]
  exact ⟨hh, hd.symm⟩
theorem ext_of_grow (w : World) (q : Nat) (os : Array Obj) : Ext w (Go.Sort.grow (w.drewN q) os) := by
  refine ⟨rfl, rfl, rfl, by simp [Go.Sort.grow, World.drewN], fun k hk => ?_⟩
  simp only [Go.Sort.grow, World.drewN]
  rw [Array.getElem?_append_left hk]
end Go.Proofs.YtjmfpillnbnofaaDoor
namespace Go.Proofs.YtjmfpillnbnofaaDoor
set_option linter.unusedSimpArgs false
set_option linter.unusedVariables false
open Go.RowKit
section
variable {P : Program} (w : World)
theorem run_app_new (t ty e : TypeId) (i : TypeInfo) (z : Value) (sz bytes : Nat) (ht : P.underlying t = some (.slice e)) (hi : P.info? e = some i) (hz : i.zero = some z)
    (hsize : i.size = sz) (hby : i.bytes = bytes) (hzs : z.cells.size = sz) (hsz : 0 < sz)
    (l1 : Nat) (A : Option Addr) (n c : Nat) (xs : List Value) (hold : Rd w l1 sz A n xs) (hn : 0 < n)
    (l2 : Nat) (B : Option Addr) (m d : Nat) (news : List Value) (hr : Rd w l2 sz B m news) (hm : 0 < m) (hc : c < n + m)
    (hbytes : (n + m) * bytes ≤ 140737488355328) (hb0 : 0 < bytes) :
    ∃ A' c' w', (Builtin.append_ #[t, t] ty #[.slice A n c, .slice B m d]).run P w = .ok (.slice A' (n + m) c') w' ∧ Own w' w.heap.size e sz A' (n + m) c' (xs ++ news) ∧ Ext w w' := by
  have h63 : n + m ≤ maxLen := by
    have : (n + m) * 1 ≤ (n + m) * bytes := Nat.mul_le_mul_left _ hb0
    unfold maxLen; omega
  have hsmall : n + m ≤ 9223372036854775807 := by simp only [maxLen] at h63; omega
  obtain ⟨b, off, rfl, _, _, hcb⟩ := hr.2 hm
  obtain ⟨g, o, rfl, _, _, hcg⟩ := hold.2 hn
  have hnews : ∀ j u, news[j]? = some u → w.cell? (Addr.add ⟨b, off, none⟩ j) = some u := fun j u hu => by rw [add_none]; exact hcb j u hu
  have holds : ∀ j u, xs[j]? = some u → w.cell? (Addr.add ⟨g, o, none⟩ j) = some u := fun j u hu => by rw [add_none]; exact hcg j u hu
  subst hsize
  subst hby
  have hlen : (xs ++ news).length = (n + m) * i.size := by rw [List.length_append, hold.1, hr.1, Nat.add_mul]
  have hr2 := run_append_grow (P := P) w t ty e i z ht hi hz ⟨g, o, none⟩ n c xs hold.1 holds ⟨b, off, none⟩ m d news hr.1 hnews hc (by omega) (growslice_fits hc hbytes)
  refine ⟨_, _, _, hr2, ⟨hlen, .inr ⟨w.heap.size, _, _, rfl, Nat.le_refl _, heap_alloc_new w.drew _, grownCap_ge w (n + m) c e, grownCap_le_maxLen w (n + m) c e h63, ?_, ?_⟩⟩, (Ext.refl w).drew.alloc _⟩
  · have hge := grownCap_ge w (n + m) c e
    simp only [Array.size_append, List.size_toArray, size_zeroCells, hzs, hold.1, hr.1, ← Nat.add_mul]
    congr 1
    omega
  · simp only [Array.toList_append, List.append_assoc]
    rw [← List.append_assoc, ← hlen]
    exact List.take_left
/-- Onto a row that is full, in a region; the operation may be guarded. -/
theorem step_appN {ops : Array Oper} {o : Oper} {a : Act} {K : Act → World → Prop} {Q : Exit → Act → World → Prop} {E : Prop} (hw : Region.wanted o (yielded ops a.tmps) = true) (s x : Operand) (t : TypeId)
    (ho : o.op = .call { callee := .builtin .append, args := #[s, x], argTypes := #[t, t] })
    (e : TypeId) (i : TypeInfo) (z : Value) (sz bytes : Nat) (ht : P.underlying t = some (.slice e)) (hi : P.info? e = some i) (hz : i.zero = some z)
    (hsize : i.size = sz) (hby : i.bytes = bytes) (hzs : z.cells.size = sz) (hsz : 0 < sz)
    (l1 : Nat) (A : Option Addr) (n c : Nat) (xs : List Value) (hs : a.eval s = .slice A n c) (hold : Rd w l1 sz A n xs) (hn : 0 < n)
    (l2 : Nat) (B : Option Addr) (m d : Nat) (news : List Value) (hx : a.eval x = .slice B m d) (hr : Rd w l2 sz B m news) (hm : 0 < m) (hc : c < n + m)
    (hbytes : (n + m) * bytes ≤ 140737488355328) (hb0 : 0 < bytes)
    (h : ∀ A' c' w', Own w' w.heap.size e sz A' (n + m) c' (xs ++ news) → Ext w w' → K (a.put o.dst (.slice A' (n + m) c')) w') :
    if Region.wanted o (yielded ops a.tmps) = true then Oper.wp P o a w K Q else E := by
  rw [if_pos hw]
  obtain ⟨A', c', w', hrun, h2, h3⟩ := run_app_new (P := P) w t o.type e i z sz bytes ht hi hz hsize hby hzs hsz l1 A n c xs hold hn l2 B m d news hr hm hc hbytes hb0
  unfold Oper.wp execOp
  simp only [ho, resolve, invoke, builtin, Sem.run_bind, Sem.run_pure, Result.andThen_ok, List.map_toArray, List.map_cons, List.map_nil, hs, hx, hrun]
  exact h A' c' w' h2 h3
end
end Go.Proofs.YtjmfpillnbnofaaDoor
namespace Go.Proofs.YtjmfpillnbnofaaDoor
set_option linter.unusedSimpArgs false
set_option linter.unusedVariables false

/-- A reading: where, the limit of pointers, the offset behind the name if a pointer was met, the bytes so far. -/
structure RdSt where
  pos : Nat
  lim : Nat
  nx : Option Nat
  out : List UInt8

def readF (msg : List UInt8) : Nat → RdSt → List UInt8 × Nat × Nat
  | 0, _ => ([], 0, 0)
  | n + 1, s =>
    match msg[s.pos]? with
    | none => ([], 0, 4)
    | some b =>
      if b = 0 then (s.out ++ [0], s.nx.getD (s.pos + 1), 0)
      else if b.toNat < 64 then
        if msg.length < s.pos + 1 + b.toNat then ([], 0, 4)
        else if 255 < s.out.length + 1 + b.toNat + 1 then ([], 0, 5)
        else readF msg n ⟨s.pos + 1 + b.toNat, s.lim, s.nx, s.out ++ b :: (msg.drop (s.pos + 1)).take b.toNat⟩
      else if b.toNat < 192 then ([], 0, 3)
      else match msg[s.pos + 1]? with
        | none => ([], 0, 4)
        | some c =>
          if s.lim ≤ (b.toNat - 192) * 256 + c.toNat then ([], 0, 8)
          else readF msg n ⟨(b.toNat - 192) * 256 + c.toNat, (b.toNat - 192) * 256 + c.toNat, some (s.nx.getD (s.pos + 2)), s.out⟩

def RdSt.meas (s : RdSt) : Nat := s.lim * 300 + (256 - s.out.length)

set_option maxRecDepth 10000 in
theorem meas_jump {lim len to n : Nat} (h : ¬ lim ≤ to) (h1 : lim * 300 + (256 - len) < n + 1) : to * 300 + (256 - len) < n := by omega
theorem readF_fuel (msg : List UInt8) (n : Nat) : ∀ (m : Nat) (s : RdSt), s.meas < n → s.meas < m → readF msg n s = readF msg m s := by
  induction n with
  | zero => intro _ _ h _; exact absurd h (by omega)
  | succ n ih =>
    intro m s h1 h2
    rcases m with _ | m
    · exact absurd h2 (by omega)
    simp only [readF]
    split
    · rfl
    · rename_i b hb
      split
      · rfl
      · split
        · split
          · rfl
          · split
            · rfl
            · rename_i h0 hb64 hl h255
              have hlen : ((msg.drop (s.pos + 1)).take b.toNat).length = b.toNat := by simp; omega
              have hb1 : 0 < b.toNat := Nat.pos_of_ne_zero (fun e => h0 (UInt8.toNat_inj.1 (by simpa using e)))
              refine ih m _ ?_ ?_ <;> (simp only [RdSt.meas, List.length_append, List.length_cons, hlen] at *; omega)
        · split
          · rfl
          · split
            · rfl
            · split
              · rfl
              · rename_i h4
                generalize (b.toNat - 192) * 256 + _ = to at h4 ⊢
                exact ih m _ (meas_jump h4 h1) (meas_jump h4 h2)

/-- The reading that starts in a state. -/
def readS (msg : List UInt8) (s : RdSt) : List UInt8 × Nat × Nat := readF msg (s.meas + 1) s
/-- The name at an offset, the offset behind it, the error's number. -/
def readN (msg : List UInt8) (pos : Nat) : List UInt8 × Nat × Nat := readS msg ⟨pos, pos, none, []⟩

section
variable (msg : List UInt8) (s : RdSt)
theorem readS_end (h : msg[s.pos]? = none) : readS msg s = ([], 0, 4) := by unfold readS readF; rw [h]
theorem readS_zero (h : msg[s.pos]? = some 0) : readS msg s = (s.out ++ [0], s.nx.getD (s.pos + 1), 0) := by unfold readS readF; rw [h]; rfl
variable (b : UInt8)
theorem b_ne (h0 : b.toNat ≠ 0) (e : b = 0) : False := h0 (by rw [e]; rfl)
variable (h : msg[s.pos]? = some b) (h0 : b.toNat ≠ 0)
include h h0
theorem readS_short (h1 : b.toNat < 64) (h2 : msg.length < s.pos + 1 + b.toNat) : readS msg s = ([], 0, 4) := by
  unfold readS readF; simp only [h]; rw [if_neg (b_ne b h0), if_pos h1, if_pos h2]
theorem readS_long (h1 : b.toNat < 64) (h2 : ¬ msg.length < s.pos + 1 + b.toNat) (h3 : 255 < s.out.length + 1 + b.toNat + 1) : readS msg s = ([], 0, 5) := by
  unfold readS readF; simp only [h]; rw [if_neg (b_ne b h0), if_pos h1, if_neg h2, if_pos h3]
theorem readS_label (h1 : b.toNat < 64) (h2 : ¬ msg.length < s.pos + 1 + b.toNat) (h3 : ¬ 255 < s.out.length + 1 + b.toNat + 1) :
    readS msg s = readS msg ⟨s.pos + 1 + b.toNat, s.lim, s.nx, s.out ++ b :: (msg.drop (s.pos + 1)).take b.toNat⟩ := by
  have hlen : ((msg.drop (s.pos + 1)).take b.toNat).length = b.toNat := by simp; omega
  unfold readS
  conv => lhs; unfold readF
  simp only [h]
  rw [if_neg (b_ne b h0), if_pos h1, if_neg h2, if_neg h3]
  refine readF_fuel msg _ _ _ ?_ ?_ <;> (simp only [RdSt.meas, List.length_append, List.length_cons, hlen] at *; omega)
theorem readS_form (h1 : ¬ b.toNat < 64) (h2 : b.toNat < 192) : readS msg s = ([], 0, 3) := by
  unfold readS readF; simp only [h]; rw [if_neg (b_ne b h0), if_neg h1, if_pos h2]
theorem readS_cut (h1 : ¬ b.toNat < 192) (h2 : msg[s.pos + 1]? = none) : readS msg s = ([], 0, 4) := by
  unfold readS readF; simp only [h]; rw [if_neg (b_ne b h0), if_neg (by omega), if_neg h1, h2]
theorem readS_loop (h1 : ¬ b.toNat < 192) (c : UInt8) (h2 : msg[s.pos + 1]? = some c) (h3 : s.lim ≤ (b.toNat - 192) * 256 + c.toNat) : readS msg s = ([], 0, 8) := by
  unfold readS readF; simp only [h]; rw [if_neg (b_ne b h0), if_neg (by omega), if_neg h1, h2]; simp only; rw [if_pos h3]
theorem readS_jump (h1 : ¬ b.toNat < 192) (c : UInt8) (h2 : msg[s.pos + 1]? = some c) (h3 : ¬ s.lim ≤ (b.toNat - 192) * 256 + c.toNat) :
    readS msg s = readS msg ⟨(b.toNat - 192) * 256 + c.toNat, (b.toNat - 192) * 256 + c.toNat, some (s.nx.getD (s.pos + 2)), s.out⟩ := by
  unfold readS
  conv => lhs; unfold readF
  simp only [h]
  rw [if_neg (b_ne b h0), if_neg (by omega), if_neg h1, h2]
  simp only
  rw [if_neg h3]
  generalize (b.toNat - 192) * 256 + c.toNat = to at h3 ⊢
  exact readF_fuel msg _ _ _ (meas_jump h3 (Nat.lt_succ_self _)) (Nat.lt_succ_self _)
end
end Go.Proofs.YtjmfpillnbnofaaDoor
namespace Go.Proofs.YtjmfpillnbnofaaDoor
set_option linter.unusedSimpArgs false
set_option linter.unusedVariables false

/-- A part of data: its bytes, is it a name, the offset behind it. -/
structure Pc where
  text : List UInt8
  nm : Bool
  next : Nat
def Pc.cells (p : Pc) : List Value := [S p.text, .bool p.nm, .int .i64 p.next]
def Pc.zero : Pc := ⟨[], false, 0⟩

/-- A check of one part. kind 0: n bytes; 1: a name; 2: texts; else: all the rest. -/
structure Chk where
  kind : Nat
  n : Nat

/-- Texts, each with its length ahead, up to the end: do they fit? -/
def textsF : Nat → List UInt8 → Bool
  | 0, _ => false
  | _ + 1, [] => false
  | n + 1, b :: r => if r.length < b.toNat then false else if r.length = b.toNat then true else textsF n (r.drop b.toNat)
def textsOk (l : List UInt8) : Bool := textsF (l.length + 1) l
theorem textsF_fuel (n : Nat) : ∀ (m : Nat) (l : List UInt8), l.length < n → l.length < m → textsF n l = textsF m l := by
  induction n with
  | zero => intro _ _ h _; exact absurd h (by omega)
  | succ n ih =>
    intro m l h1 h2
    rcases m with _ | m
    · exact absurd h2 (by omega)
    rcases l with _ | ⟨b, r⟩
    · rfl
    · simp only [List.length_cons] at h1 h2
      simp only [textsF]
      rw [ih m (r.drop b.toNat) (by simp; omega) (by simp; omega)]
theorem textsOk_nil : textsOk [] = false := rfl
theorem textsOk_cons (b : UInt8) (r : List UInt8) : textsOk (b :: r) = if r.length < b.toNat then false else if r.length = b.toNat then true else textsOk (r.drop b.toNat) := by
  unfold textsOk
  conv => lhs; unfold textsF
  rw [textsF_fuel (b :: r).length ((r.drop b.toNat).length + 1) (r.drop b.toNat) (by simp; omega) (by omega)]

def runChk (c : Chk) (msg : List UInt8) (pos : Nat) : Pc × Nat :=
  match c.kind with
  | 0 => if msg.length - pos < c.n then (Pc.zero, 4) else (⟨(msg.drop pos).take c.n, false, pos + c.n⟩, 0)
  | 1 => if (readN msg pos).2.2 ≠ 0 then (Pc.zero, (readN msg pos).2.2) else (⟨(readN msg pos).1, true, (readN msg pos).2.1⟩, 0)
  | 2 => if textsOk (msg.drop pos) then (⟨msg.drop pos, false, msg.length⟩, 0) else (Pc.zero, 4)
  | _ => (⟨msg.drop pos, false, msg.length⟩, 0)

def checksOf (kind : Int) : List Chk :=
  if kind = 1 then [⟨0, 4⟩]
  else if kind = 28 then [⟨0, 16⟩]
  else if kind = 2 ∨ kind = 5 ∨ kind = 12 then [⟨1, 0⟩]
  else if kind = 15 then [⟨0, 2⟩, ⟨1, 0⟩]
  else if kind = 6 then [⟨1, 0⟩, ⟨1, 0⟩, ⟨0, 20⟩]
  else if kind = 33 then [⟨0, 6⟩, ⟨1, 0⟩]
  else if kind = 16 then [⟨2, 0⟩]
  else [⟨3, 0⟩]

def splitL : List Chk → List UInt8 → Nat → List Pc × Nat
  | [], msg, pos => if pos < msg.length then ([], 3) else ([], 0)
  | c :: cs, msg, pos =>
    if (runChk c msg pos).2 ≠ 0 then ([], (runChk c msg pos).2)
    else if (splitL cs msg (runChk c msg pos).1.next).2 ≠ 0 then ([], (splitL cs msg (runChk c msg pos).1.next).2)
    else ((runChk c msg pos).1 :: (splitL cs msg (runChk c msg pos).1.next).1, 0)
def splitOf (msg : List UInt8) (pos : Nat) (kind : Int) : List Pc × Nat := if kind = 41 then ([], 3) else splitL (checksOf kind) msg pos

def textOf (l : List Pc) : List UInt8 := l.flatMap Pc.text
/-- The parts of whole data. -/
def wholeOf (kind : Int) (data : List UInt8) : Option (List Pc) :=
  if (splitOf data 0 kind).2 = 0 ∧ textOf (splitOf data 0 kind).1 = data then some (splitOf data 0 kind).1 else none
def rmay (kind : Int) (data : List UInt8) : Bool := (wholeOf kind data).isSome
def partsOf (kind : Int) (data : List UInt8) : List Pc := (wholeOf kind data).getD []
def rnames (kind : Int) (data : List UInt8) : List (List UInt8) := ((partsOf kind data).filter Pc.nm).map Pc.text
def rfold (kind : Int) (data : List UInt8) : List UInt8 := (partsOf kind data).flatMap fun p => if p.nm then fold p.text else p.text
end Go.Proofs.YtjmfpillnbnofaaDoor
namespace Go.Proofs.YtjmfpillnbnofaaDoor
set_option linter.unusedSimpArgs false
set_option linter.unusedVariables false
set_option maxRecDepth 100000

theorem parse_label (b : UInt8) (r : List UInt8) (h0 : b.toNat ≠ 0) (h : b.toNat < 64) : (parse (b :: r)).isSome = (parse (r.drop b.toNat)).isSome := by
  rw [parse_cons, if_neg (fun e => h0 (by rw [e]; rfl)), if_neg (by omega), Option.isSome_map]

theorem readS_valid (msg : List UInt8) : ∀ (m : Nat) (s : RdSt), s.meas < m → (∀ t, (parse (s.out ++ t)).isSome = (parse t).isSome) → s.out.length ≤ 254 → (readS msg s).2.2 = 0 → may (readS msg s).1 = true ∧ (readS msg s).1.length ≤ 255
  | 0, _, h, _, _, _ => absurd h (by omega)
  | m + 1, s, hm, hpre, hlen, he => by
    rcases hb : msg[s.pos]? with _ | b
    · rw [readS_end msg s hb] at he; simp at he
    by_cases h0 : b.toNat = 0
    · have hz : b = 0 := UInt8.toNat_inj.1 (by simpa using h0)
      subst hz
      rw [readS_zero msg s hb]
      have hl : (s.out ++ [0]).length ≤ 255 := by simp; omega
      refine ⟨?_, hl⟩
      show may (s.out ++ [0]) = true
      unfold may labelsOf
      rw [if_pos hl, hpre]; rfl
    by_cases h1 : b.toNat < 64
    · by_cases h2 : msg.length < s.pos + 1 + b.toNat
      · rw [readS_short msg s b hb h0 h1 h2] at he; simp at he
      by_cases h3 : 255 < s.out.length + 1 + b.toNat + 1
      · rw [readS_long msg s b hb h0 h1 h2 h3] at he; simp at he
      rw [readS_label msg s b hb h0 h1 h2 h3] at he ⊢
      have hl : ((msg.drop (s.pos + 1)).take b.toNat).length = b.toNat := by simp; omega
      refine readS_valid msg m _ ?_ ?_ ?_ he
      · simp only [RdSt.meas, List.length_append, List.length_cons, hl] at *; omega
      · intro t
        show (parse (s.out ++ b :: (msg.drop (s.pos + 1)).take b.toNat ++ t)).isSome = _
        rw [List.append_assoc, hpre, List.cons_append, parse_label b _ h0 h1, List.drop_append_of_le_length (by omega), List.drop_of_length_le (by omega), List.nil_append]
      · show (s.out ++ b :: (msg.drop (s.pos + 1)).take b.toNat).length ≤ 254
        rw [List.length_append, List.length_cons, hl]; omega
    by_cases h2 : b.toNat < 192
    · rw [readS_form msg s b hb h0 h1 h2] at he; simp at he
    rcases hc : msg[s.pos + 1]? with _ | c
    · rw [readS_cut msg s b hb h0 h2 hc] at he; simp at he
    by_cases h3 : s.lim ≤ (b.toNat - 192) * 256 + c.toNat
    · rw [readS_loop msg s b hb h0 h2 c hc h3] at he; simp at he
    rw [readS_jump msg s b hb h0 h2 c hc h3] at he ⊢
    generalize (b.toNat - 192) * 256 + c.toNat = to at *
    exact readS_valid msg m _ (meas_jump h3 hm) hpre hlen he

theorem readN_valid {msg : List UInt8} {pos : Nat} (h : (readN msg pos).2.2 = 0) : may (readN msg pos).1 = true :=
  (readS_valid msg _ _ (Nat.lt_succ_self _) (fun _ => rfl) (by simp) h).1

theorem readS_plain (msg n : List UInt8) (p : Nat) (hn : (msg.drop p).take n.length = n) (hl : n.length ≤ 255) (lim : Nat) (nx : Option Nat) : ∀ (m k : Nat), n.length - k < m → k ≤ n.length → (parse (n.drop k)).isSome = true →
    readS msg ⟨p + k, lim, nx, n.take k⟩ = (n, nx.getD (p + n.length), 0)
  | 0, _, h, _, _ => absurd h (by omega)
  | m + 1, k, hm, hk, hp => by
    have hat : ∀ j, j < n.length → msg[p + j]? = n[j]? := fun j hj => by
      conv => rhs; rw [← hn]
      rw [List.getElem?_take_of_lt hj, List.getElem?_drop]
    have hml : p + n.length ≤ msg.length := by
      have := congrArg List.length hn
      rw [List.length_take, List.length_drop] at this
      rcases Nat.eq_zero_or_pos n.length with h | h
      · rw [List.eq_nil_of_length_eq_zero h] at hp; simp [parse_nil] at hp
      · omega
    by_cases hlt : k < n.length
    · have hd := drop_cons n k hlt
      have hb : msg[p + k]? = some n[k] := by rw [hat k hlt]; exact List.getElem?_eq_getElem hlt
      generalize hbe : n[k] = b at *
      by_cases h0 : b.toNat = 0
      · have hz : b = 0 := UInt8.toNat_inj.1 (by simpa using h0)
        subst hz
        rw [hd, parse_cons, if_pos rfl] at hp
        have he : n.drop (k + 1) = [] := by
          by_cases e : n.drop (k + 1) = []
          · exact e
          · rw [if_neg e] at hp; simp at hp
        have hk1 : n.length = k + 1 := by
          have := congrArg List.length he
          simp at this; omega
        rw [readS_zero msg _ (by exact hb)]
        have : n.take k ++ [0] = n := by
          conv => rhs; rw [← List.take_append_drop k n, hd, he]
        simp only [this, hk1]
        rfl
      · by_cases h1 : b.toNat < 64
        · have hp2 := hp
          rw [hd, parse_label b _ h0 h1, List.drop_drop] at hp2
          have hlt2 : k + 1 + b.toNat < n.length := by
            rcases Nat.lt_or_ge (k + 1 + b.toNat) n.length with h | h
            · exact h
            · rw [List.drop_of_length_le h] at hp2; simp [parse_nil] at hp2
          rw [readS_label msg _ b (by exact hb) h0 h1 (by show ¬ msg.length < p + k + 1 + b.toNat; omega) (by show ¬ 255 < (n.take k).length + 1 + b.toNat + 1; rw [List.length_take]; omega)]
          have e1 : (⟨p + k + 1 + b.toNat, lim, nx, n.take k ++ b :: (msg.drop (p + k + 1)).take b.toNat⟩ : RdSt) = ⟨p + (k + 1 + b.toNat), lim, nx, n.take (k + 1 + b.toNat)⟩ := by
            have e2 : n.take (k + 1 + b.toNat) = n.take k ++ b :: (msg.drop (p + k + 1)).take b.toNat := by
              apply List.ext_getElem?
              intro j
              rcases Nat.lt_or_ge j (k + 1 + b.toNat) with h | h
              · rw [List.getElem?_take_of_lt h]
                rcases Nat.lt_or_ge j k with h' | h'
                · rw [List.getElem?_append_left (by rw [List.length_take]; omega), List.getElem?_take_of_lt h']
                · rw [List.getElem?_append_right (by rw [List.length_take]; omega), List.length_take, Nat.min_eq_left (by omega)]
                  rcases Nat.eq_or_lt_of_le h' with h'' | h''
                  · subst h''; simp [List.getElem?_eq_getElem hlt, hbe]
                  · rw [show j - k = (j - k - 1) + 1 by omega, List.getElem?_cons_succ, List.getElem?_take_of_lt (by omega), List.getElem?_drop, show p + k + 1 + (j - k - 1) = p + j by omega, hat j (by omega)]
              · rw [List.getElem?_eq_none (by rw [List.length_take]; omega), List.getElem?_eq_none (by rw [List.length_append, List.length_cons, List.length_take, List.length_take, List.length_drop]; omega)]
            rw [e2, Nat.add_assoc p k, Nat.add_assoc p]
          show readS msg (⟨p + k + 1 + b.toNat, lim, nx, n.take k ++ b :: (msg.drop (p + k + 1)).take b.toNat⟩ : RdSt) = _
          rw [e1]
          exact readS_plain msg n p hn hl lim nx m _ (by omega) (by omega) hp2
        · rw [hd, parse_cons, if_neg (fun e => h0 (by rw [e]; rfl)), if_pos (by omega)] at hp
          simp at hp
    · rw [List.drop_of_length_le (by omega)] at hp; simp [parse_nil] at hp

theorem may_parse {n : List UInt8} (h : may n = true) : (parse n).isSome = true := by
  unfold may labelsOf at h
  split at h
  · exact h
  · simp at h
theorem readN_plain {msg n : List UInt8} {p : Nat} (hn : (msg.drop p).take n.length = n) (h : may n = true) : readN msg p = (n, p + n.length, 0) :=
  readS_plain msg n p hn (may_le h) p none (n.length + 1) 0 (by omega) (by omega) (by simpa using may_parse h)

theorem wholeOf_name {k : Int} (hk : k = 2 ∨ k = 5 ∨ k = 12) (d : List UInt8) : wholeOf k d = if may d then some [⟨d, true, d.length⟩] else none := by
  have hc : checksOf k = [⟨1, 0⟩] := by
    unfold checksOf
    rw [if_neg (by omega), if_neg (by omega), if_pos hk]
  have hs : splitOf d 0 k = splitL [⟨1, 0⟩] d 0 := by unfold splitOf; rw [if_neg (by omega), hc]
  unfold wholeOf
  rw [hs]
  by_cases hm : may d = true
  · have hr := readN_plain (msg := d) (n := d) (p := 0) (by simp) hm
    rw [if_pos hm]
    simp [splitL, runChk, hr, textOf]
  · rw [if_neg hm, if_neg]
    rintro ⟨h1, h2⟩
    by_cases he : (readN d 0).2.2 = 0
    · have hv := readN_valid he
      have hr : runChk ⟨1, 0⟩ d 0 = (⟨(readN d 0).1, true, (readN d 0).2.1⟩, 0) := by simp [runChk, he]
      by_cases h3 : (readN d 0).2.1 < d.length
      · simp [splitL, hr, h3] at h1
      · simp [splitL, hr, h3, textOf] at h2
        rw [h2] at hv
        exact hm hv
    · have hr : runChk ⟨1, 0⟩ d 0 = (Pc.zero, (readN d 0).2.2) := by simp [runChk, he]
      simp [splitL, hr, he] at h1
theorem rnames_name {k : Int} (hk : k = 2 ∨ k = 5 ∨ k = 12) (d : List UInt8) : rnames k d = if may d then [d] else [] := by
  unfold rnames partsOf
  rw [wholeOf_name hk]
  split <;> rfl
end Go.Proofs.YtjmfpillnbnofaaDoor
namespace Go.Proofs.YtjmfpillnbnofaaDoor
set_option linter.unusedSimpArgs false
set_option linter.unusedVariables false
open Go.RowKit

theorem parse_some_step (l : List UInt8) (k : Nat) (h : k < l.length) (b : UInt8) (hb : l[k] = b) (h0 : ((b.toNat : Int) == 0) = false) (h1 : (b.toNat : Int) ≤ 63) :
    (parse (l.drop k)).isSome = (parse (l.drop (k + (1 + b.toNat)))).isSome := by
  rw [drop_cons l k h, hb, parse_cons, if_neg (fun e => by rw [e] at h0; simp at h0), if_neg (by omega), Option.isSome_map, List.drop_drop]
  congr 3; omega
theorem parse_zero (l : List UInt8) (k : Nat) (h : k < l.length) (b : UInt8) (hb : l[k] = b) (h0 : ((b.toNat : Int) == 0) = true) : (parse (l.drop k)).isSome = ((k : Int) == (l.length : Int) - 1) := by
  have hz : b = 0 := UInt8.toNat_inj.1 (by simpa using h0)
  rw [drop_cons l k h, hb, parse_cons, if_pos hz]
  by_cases e : k = l.length - 1
  · have : l.drop (k + 1) = [] := List.drop_of_length_le (by omega)
    rw [this]; simp; omega
  · have : l.drop (k + 1) ≠ [] := by simp; omega
    rw [if_neg this]; simp; omega
theorem parse_big (l : List UInt8) (k : Nat) (h : k < l.length) (b : UInt8) (hb : l[k] = b) (h1 : 63 < (b.toNat : Int)) : (parse (l.drop k)).isSome = false := by
  rw [drop_cons l k h, hb, parse_cons, if_neg (fun e => by rw [e] at h1; simp at h1), if_pos (by omega)]; rfl
theorem parse_end (l : List UInt8) (k : Nat) (h : ¬ k < l.length) : (parse (l.drop k)).isSome = false := by
  rw [List.drop_of_length_le (by omega)]; rfl
theorem may_of_parse {l : List UInt8} {b : Bool} (hl : l.length ≤ 255) (h : (parse l).isSome = b) : may l = b := by
  unfold may labelsOf; rw [if_pos hl]; exact h

set_option maxHeartbeats 400000 in
theorem name_may_in (l : List UInt8) (w : World) (h0 : 0 < l.length) (hl : l.length ≤ 255) :
    Calls Tryd.prog 22 #[S l] w fun e w' => e = .returned (.bool (may l)) ∧ w = w' := by
  have h1 : ((l.length : Int) == 0) = false := by simp; intro h; subst h; simp at h0
  go_enter Tryd.func22, Tryd.ntmps22
  go_wp2
  go_loop [3, 4] (fun at_ sz => ∃ k : Nat, k ≤ 400 ∧ at_ = .int .i64 k ∧ (parse l).isSome = (parse (l.drop k)).isSome) (fun at_ _ => 400 - (intOf at_).toNat)
  case atStart => exact ⟨0, by omega, rfl, rfl⟩
  case round =>
    obtain ⟨k, hk, rfl, hm⟩ := hrel
    have Hm := Lib.hid hm
    clear hm
    by_cases hlt : k < l.length
    · obtain ⟨b, Hb, hget, hwb, hbd⟩ := byte_at l k hlt
      go_wp2
      · go_ret
        exact ⟨ret_bool (may_of_parse hl (by rw [Hm.out]; exact parse_zero l k hlt b Hb ‹_›)).symm, rfl⟩
      · go_ret
        exact ⟨ret_bool (may_of_parse hl (by rw [Hm.out]; exact parse_big l k hlt b Hb ‹_›)).symm, rfl⟩
      · go_round
        case rel => exact ⟨k + (1 + b.toNat), by omega, by go_num, by rw [Hm.out]; exact parse_some_step l k hlt b Hb ‹_› ‹_›⟩
        case measure => simp [intOf]; omega
    · go_wp2
      go_ret
      exact ⟨ret_bool (may_of_parse hl (by rw [Hm.out]; exact parse_end l k hlt)).symm, rfl⟩

theorem name_may (l : List UInt8) (w : World) (hl : l.length ≤ maxLen) :
    Calls Tryd.prog 22 #[S l] w fun e w' => e = .returned (.bool (may l)) ∧ w = w' := by
  by_cases h0 : l.length = 0
  · have : l = [] := List.eq_nil_of_length_eq_zero h0
    subst this
    go_enter Tryd.func22, Tryd.ntmps22
    go_wp2
    go_ret
    exact ⟨rfl, rfl⟩
  by_cases h1 : l.length ≤ 255
  · exact name_may_in l w (by omega) h1
  · have hm : may l = false := by unfold may labelsOf; rw [if_neg h1]; rfl
    rw [hm]
    unfold maxLen at hl
    have h2 : ((l.length : Int) == 0) = false := len_ne h0
    have h3 : 255 < (l.length : Int) := by omega
    clear h0 h1 hm
    go_enter Tryd.func22, Tryd.ntmps22
    go_wp2
    go_ret
    exact ⟨rfl, rfl⟩

theorem lowB_up {b : UInt8} (h1 : 65 ≤ (b.toNat : Int)) (h2 : (b.toNat : Int) ≤ 90) : (b.toNat : Int) + 32 = (lowB b).toNat := by
  unfold lowB
  rw [if_pos ⟨by omega, by omega⟩, UInt8.toNat_add]
  simp; omega
theorem lowB_no {b : UInt8} (h : ¬ (65 ≤ (b.toNat : Int) ∧ (b.toNat : Int) ≤ 90)) : lowB b = b := by
  unfold lowB
  rw [if_neg (by omega)]
/-- What is folded, k bytes far. -/
def lowTo (l : List UInt8) (k : Nat) : Nat → UInt8 := fun j => if j < k then lowB (l.getD j 0) else l.getD j 0
theorem brow_new (w : World) (l : List UInt8) (cap : Nat) (C : Array Value) (hC : bytesRow ⟨l.toArray⟩ cap = C) : BRow (w.alloc (.cells C 5 (C.size, C.size + 1))).drew w.heap.size l.length (lowTo l 0) := by
  subst hC
  intro j hj
  constructor
  · show (w.alloc _).cell? _ = _
    rw [World.cell?_alloc_mark]
    simp [bytesRow, lowTo, hj, Array.getElem?_append]
  · show (w.alloc _).frozen? _ = _
    have : (w.alloc (.cells (bytesRow ⟨l.toArray⟩ cap) 5 ((bytesRow ⟨l.toArray⟩ cap).size, (bytesRow ⟨l.toArray⟩ cap).size + 1))).heap[w.heap.size]? = some (.cells (bytesRow ⟨l.toArray⟩ cap) 5 ((bytesRow ⟨l.toArray⟩ cap).size, (bytesRow ⟨l.toArray⟩ cap).size + 1)) := heap_alloc_new w _
    simp only [World.frozen?, this]
    have hs : l.length ≤ (bytesRow ⟨l.toArray⟩ cap).size := by simp [bytesRow]
    simp; omega
theorem lowTo_step (l : List UInt8) (k : Nat) (h : k < l.length) (b : UInt8) (hb : l[k] = b) : ∀ j, lowTo l (k + 1) j = if j = k then lowB b else lowTo l k j := by
  intro j
  unfold lowTo
  by_cases e : j = k
  · subst e
    simp [h, hb]
  · rw [if_neg e]
    by_cases h1 : j < k
    · rw [if_pos h1, if_pos (by omega)]
    · rw [if_neg h1, if_neg (by omega)]

end Go.Proofs.YtjmfpillnbnofaaDoor
