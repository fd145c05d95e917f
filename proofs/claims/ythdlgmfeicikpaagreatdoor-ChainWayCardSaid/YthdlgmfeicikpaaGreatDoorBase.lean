/- The words that all texts of this family share: bytes, names by their labels, how slices, records and sets read in memory. No condition. -/
import Derived.Test.YthdlgmfeicikpaaGreatDoorProg
import Derived.WalkKit
import Derived.WalkLawsBesides
import Derived.WalkSpells
import Derived.Lib.Hide
import Derived.Outline
import Derived.LoopTactic
import Derived.Deep.QuietTactic
import Derived.BigQuiet
import Derived.Deep.DeepFit
import Derived.Laws.IdiomStrings
import Derived.Lib.SlBytesRow
import Derived.Deep.Draws
namespace Go.Proofs.YthdlgmfeicikpaaGreatDoor
set_option linter.unusedSimpArgs false
set_option linter.unusedVariables false
open Go.RowKit

/-! ### Bytes and names, plain -/
abbrev S (l : List UInt8) : Value := .string ⟨l.toArray⟩

/-- One byte folded. -/
def lowB (b : UInt8) : UInt8 := if 65 ≤ b.toNat ∧ b.toNat ≤ 90 then b + 32 else b
def low (l : List UInt8) : List UInt8 := l.map lowB

/-- The labels of bytes (with fuel). -/
def parseF : Nat → List UInt8 → Option (List (List UInt8))
  | 0, _ => none
  | _ + 1, [] => none
  | n + 1, b :: r => if b = 0 then (if r = [] then some [] else none) else if 63 < b.toNat then none else (parseF n (r.drop b.toNat)).map (r.take b.toNat :: ·)
def parse (l : List UInt8) : Option (List (List UInt8)) := parseF (l.length + 1) l

theorem parseF_fuel : ∀ (n m : Nat) (l : List UInt8), l.length < n → l.length < m → parseF n l = parseF m l
  | 0, _, _, h, _ => absurd h (by omega)
  | _, 0, _, _, h => absurd h (by omega)
  | n + 1, m + 1, [], _, _ => rfl
  | n + 1, m + 1, b :: r, h1, h2 => by
    simp only [List.length_cons] at h1 h2
    simp only [parseF]
    rw [parseF_fuel n m (r.drop b.toNat) (by simp; omega) (by simp; omega)]

theorem parse_nil : parse [] = none := rfl
theorem parse_cons (b : UInt8) (r : List UInt8) :
    parse (b :: r) = if b = 0 then (if r = [] then some [] else none) else if 63 < b.toNat then none else (parse (r.drop b.toNat)).map (r.take b.toNat :: ·) := by
  unfold parse
  conv => lhs; unfold parseF
  rw [parseF_fuel (b :: r).length ((r.drop b.toNat).length + 1) (r.drop b.toNat) (by simp; omega) (by omega)]

def labelsOf (l : List UInt8) : Option (List (List UInt8)) := if l.length ≤ 255 then parse l else none
def may (l : List UInt8) : Bool := (labelsOf l).isSome
def fold (l : List UInt8) : List UInt8 := if may l then low l else []
def sameN (a b : List UInt8) : Bool := may a && may b && (low a == low b)

theorem length_low (l : List UInt8) : (low l).length = l.length := by simp [low]
theorem may_nil : may [] = false := rfl
theorem may_le {l : List UInt8} (h : may l = true) : l.length ≤ 255 := by
  unfold may labelsOf at h
  split at h
  · assumption
  · simp at h

/-- A number, its high byte first. -/
def be (l : List UInt8) : Nat := l.foldl (fun v b => v * 256 + b.toNat) 0
theorem be_snoc (l : List UInt8) (b : UInt8) : be (l ++ [b]) = be l * 256 + b.toNat := by simp [be]
theorem be_lt (l : List UInt8) : be l < 256 ^ l.length := by
  rw [← List.reverse_reverse l]
  generalize l.reverse = r
  induction r with
  | nil => simp [be]
  | cons b r ih =>
    rw [List.reverse_cons, be_snoc, List.length_append, List.length_singleton, Nat.pow_succ]
    have := b.toNat_lt
    omega
theorem take_snoc {α : Type} (l : List α) (k : Nat) (h : k < l.length) : l.take (k + 1) = l.take k ++ [l[k]] := List.take_succ_eq_append_getElem h
theorem or_low (x c : Nat) (hc : c < 256) : x * 256 ||| c = x * 256 + c := by
  have := Nat.shiftLeft_add_eq_or_of_lt (i := 8) (b := c) hc x
  rw [Nat.shiftLeft_eq] at this
  exact this.symm

/-! ### Small facts for the walk -/
theorem wrap64_byte (b : UInt8) : wrap64 (b.toNat : Int) = (b.toNat : Int) := by
  have := b.toNat_lt
  exact IntWalk.wrap64_in _ ⟨by omega, by omega⟩
theorem size_mk (l : List UInt8) : (ByteArray.mk l.toArray).size = l.length := rfl
theorem mk_get (l : List UInt8) (k : Nat) (h : k < (ByteArray.mk l.toArray).size) : (ByteArray.mk l.toArray)[k] = l[k]'(by rw [size_mk] at h; exact h) := by
  simp [ByteArray.getElem_eq_getElem_data]
theorem extract_mk (l : List UInt8) (a b : Nat) : (ByteArray.mk l.toArray).extract a b = ⟨((l.drop a).take (b - a)).toArray⟩ := by
  apply ByteArray.ext
  apply Array.toList_inj.1
  rw [Lib.extract_data]
attribute [go_sem] extract_mk
theorem i64_or_nat (a b : Nat) (ha : a < 9223372036854775808) (hb : b < 9223372036854775808) : bits .or .i64 (a : Int) (b : Int) = ((a ||| b : Nat) : Int) := by
  have hx : a ||| b < 2 ^ 63 := Nat.or_lt_two_pow (by omega) (by omega)
  show IntKind.i64.wrap ((BitVec.ofInt 64 (a : Int) ||| BitVec.ofInt 64 (b : Int)).toNat : Int) = _
  rw [BitVec.toNat_or, ofInt_u64 a (by omega), ofInt_u64 b (by omega)]
  exact IntWalk.i64_in _ (by omega)
/-- The byte at a place, under a name of its own (the walk takes the first equation as a rule). -/
theorem byte_at (l : List UInt8) (k : Nat) (h : k < l.length) : ∃ b : UInt8, Hid (l[k] = b) ∧ (∀ h', (ByteArray.mk l.toArray)[k]'h' = b) ∧ wrap64 (b.toNat : Int) = (b.toNat : Int) ∧ (b.toNat : Int) ≤ 255 :=
  ⟨l[k], rfl, fun h' => mk_get l k h', wrap64_byte _, by have := l[k].toNat_lt; omega⟩
theorem ret_bool {a b : Bool} (h : a = b) : Ending.returned (.bool a) = .returned (.bool b) := by rw [h]
theorem ret_int {k : IntKind} {a b : Int} (h : a = b) : Ending.returned (.int k a) = .returned (.int k b) := by rw [h]
theorem ret_str {a b : List UInt8} (h : a = b) : Ending.returned (S a) = .returned (S b) := by rw [h]
theorem drop_cons (l : List UInt8) (k : Nat) (h : k < l.length) : l.drop k = l[k] :: l.drop (k + 1) := by rw [List.drop_eq_getElem_cons h]

theorem len_ne {n : Nat} (h : n ≠ 0) : ((n : Int) == 0) = false := by rw [beq_eq_false_iff_ne]; omega

/-! ### The world behind a call: only new memory -/
abbrev Ext (w w' : World) : Prop := Below w.heap.size w w'
theorem Ext.refl (w : World) : Ext w w := Below.refl _ _
theorem Ext.trans {a b c : World} (h : Ext a b) (k : Ext b c) : Ext a c := Below.trans h (k.mono h.size)
theorem Ext.drewN {a b : World} (h : Ext a b) (n : Nat) : Ext a (b.drewN n) := ⟨h.os, h.tape, h.output, h.size, h.block⟩
theorem Ext.of_drewN {a b : World} (n : Nat) (h : Ext (a.drewN n) b) : Ext a b := ⟨h.os, h.tape, h.output, h.size, h.block⟩
theorem Ext.alloc {a w : World} (h : Ext a w) (o : Obj) : Ext a (w.alloc o) := Below.alloc h h.size o
theorem Ext.drew {a w : World} (h : Ext a w) : Ext a w.drew := Below.drew h
theorem Ext.setCell {a w : World} (h : Ext a w) {p : Addr} (hp : a.heap.size ≤ p.block) (u : Value) : Ext a (w.setCell p u) := Below.setCell h hp u
theorem Ext.then {a b c : World} {lo : Nat} (h : Ext a b) (k : Below lo b c) (hl : a.heap.size ≤ lo) : Ext a c := Below.trans h (k.mono hl)
theorem ext_cell {W w1 : World} (hb : Ext W w1) : (∀ b o, b < W.heap.size → w1.cell? ⟨b, o, none⟩ = W.cell? ⟨b, o, none⟩) ∧ (∀ b o, b < W.heap.size → w1.frozen? ⟨b, o, none⟩ = W.frozen? ⟨b, o, none⟩) :=
  ⟨fun b o h => hb.cell (p := ⟨b, o, none⟩) h, fun b o h => hb.frozen (p := ⟨b, o, none⟩) h⟩

/-- A block that was new ahead of a call, behind it. -/
theorem ext_new {w w' : World} {cs : Array Value} {t : TypeId} (hE : Ext (w.alloc (.cells cs t)) w') : (∀ j, w'.cell? ⟨w.heap.size, j, none⟩ = cs[j]?) ∧ (∀ j, w'.frozen? ⟨w.heap.size, j, none⟩ = false) ∧ w.heap.size < w'.heap.size := by
  have hz : w.heap.size < (w.alloc (.cells cs t)).heap.size := by simp
  refine ⟨fun j => ?_, fun j => ?_, Nat.lt_of_lt_of_le hz hE.size⟩
  · rw [hE.cell (p := ⟨w.heap.size, j, none⟩) hz]; exact World.cell?_alloc_mark w cs t _ j
  · rw [hE.frozen (p := ⟨w.heap.size, j, none⟩) hz]
    have : (w.alloc (.cells cs t)).heap[w.heap.size]? = some (.cells cs t) := heap_alloc_new w _
    unfold World.frozen?
    rw [this]
    simp

/-! ### How a slice reads -/
/-- The slice at A of n elements, 'size' cells each, holds the cells xs; they lie from block lo on. -/
def Rd (w : World) (lo size : Nat) (A : Option Addr) (n : Nat) (xs : List Value) : Prop :=
  xs.length = n * size ∧ (0 < n → ∃ b off, A = some ⟨b, off, none⟩ ∧ lo ≤ b ∧ b < w.heap.size ∧ ∀ j u, xs[j]? = some u → w.cell? ⟨b, off + j, none⟩ = some u)

theorem Rd.keep {w w' : World} {lo size n : Nat} {A : Option Addr} {xs : List Value} (h : Rd w lo size A n xs) (hs : w.heap.size ≤ w'.heap.size)
    (hk : ∀ b o, b < w.heap.size → lo ≤ b → w'.cell? ⟨b, o, none⟩ = w.cell? ⟨b, o, none⟩) : Rd w' lo size A n xs :=
  ⟨h.1, fun hn => by
    obtain ⟨b, off, e, hlo, hb, hc⟩ := h.2 hn
    exact ⟨b, off, e, hlo, by omega, fun j u hu => (hk _ _ hb hlo).trans (hc j u hu)⟩⟩
theorem Rd.ext {w w' : World} {lo size n : Nat} {A : Option Addr} {xs : List Value} (h : Rd w lo size A n xs) (hb : Ext w w') : Rd w' lo size A n xs :=
  h.keep hb.size fun _ _ hlt _ => hb.cell (p := ⟨_, _, none⟩) hlt
theorem Rd.lower {w : World} {lo lo' size n : Nat} {A : Option Addr} {xs : List Value} (h : Rd w lo size A n xs) (hl : lo' ≤ lo) : Rd w lo' size A n xs :=
  ⟨h.1, fun hn => by obtain ⟨b, off, e, hlo, hb, hc⟩ := h.2 hn; exact ⟨b, off, e, by omega, hb, hc⟩⟩
theorem Rd.nil (w : World) (lo size : Nat) (A : Option Addr) : Rd w lo size A 0 [] := ⟨by simp, fun h => absurd h (by omega)⟩

/-- A row of bytes of the call's own. -/
def BRow (w : World) (g n : Nat) (f : Nat → UInt8) : Prop := ∀ j, j < n → w.cell? ⟨g, j, none⟩ = some (.int .u8 ((f j).toNat : Int)) ∧ w.frozen? ⟨g, j, none⟩ = false
theorem BRow.set {w : World} {g n : Nat} {f : Nat → UInt8} (h : BRow w g n f) {k : Nat} (hk : k < n) (b : UInt8) (x : Int) (hx : x = b.toNat) : BRow (w.setCell ⟨g, k, none⟩ (.int .u8 x)) g n (fun j => if j = k then b else f j) := by
  subst hx
  intro j hj
  obtain ⟨h1, h2⟩ := h j hj
  obtain ⟨h3, _⟩ := h k hk
  constructor
  · by_cases e : j = k
    · subst e
      simp only [if_true]
      exact World.cell?_setCell_same w ⟨g, j, none⟩ _ h3
    · simp only [if_neg e]
      rw [World.cell?_setCell_other w ⟨g, k, none⟩ ⟨g, j, none⟩ _ (fun h => e (by injection h with _ h; exact h.symm)), h1]
  · rw [World.frozen?_setCell]; exact h2
theorem BRow.congr {w : World} {g n : Nat} {f f' : Nat → UInt8} (h : BRow w g n f) (e : ∀ j, j < n → f' j = f j) : BRow w g n f' := fun j hj => by rw [e j hj]; exact h j hj

/-- A []string. -/
def Strs (w : World) (lo : Nat) (v : Value) (l : List (List UInt8)) : Prop :=
  ∃ A c, v = .slice A l.length c ∧ l.length ≤ c ∧ c ≤ maxLen ∧ Rd w lo 1 A l.length (l.map S)
theorem Strs.ext {w w' : World} {lo : Nat} {v : Value} {l : List (List UInt8)} (h : Strs w lo v l) (hb : Ext w w') : Strs w' lo v l := by
  obtain ⟨A, c, e, h1, h2, h3⟩ := h
  exact ⟨A, c, e, h1, h2, h3.ext hb⟩
end Go.Proofs.YthdlgmfeicikpaaGreatDoor
