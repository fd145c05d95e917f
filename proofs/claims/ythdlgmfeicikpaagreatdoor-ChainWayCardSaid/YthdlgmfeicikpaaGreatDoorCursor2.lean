/- Package cursor, said of a cursor in memory as one word (Cur). -/
import Derived.Test.YthdlgmfeicikpaaGreatDoorCursor1
import Derived.Test.YthdlgmfeicikpaaGreatDoorMem
namespace Go.Proofs.YthdlgmfeicikpaaGreatDoor
set_option linter.unusedSimpArgs false
set_option linter.unusedVariables false
open Go.RowKit

/-- A cursor over l at offset n, in block g. -/
structure Cur (w : World) (g : Nat) (l : List UInt8) (n : Nat) : Prop where
  c0 : w.cell? ⟨g, 0, none⟩ = some (S l)
  c1 : w.cell? ⟨g, 1, none⟩ = some (.int .i64 n)
  fr : w.frozen? ⟨g, 1, none⟩ = false

/-- Block g alone has turned. -/
structure Only (g : Nat) (w w' : World) : Prop where
  by_ : w.grownBy w' (some g)
  size : w'.heap.size = w.heap.size

theorem Cur.lt {w : World} {g : Nat} {l : List UInt8} {n : Nat} (h : Cur w g l n) : g < w.heap.size := World.block_lt_of_cell? w _ h.c0
theorem Cur.new (w : World) (l : List UInt8) (m : Nat) : Cur (w.alloc (.cells #[S l, .int .i64 m] 157)) w.heap.size l m := ⟨by simp, by simp, by simp⟩
theorem Cur.set {w : World} {g : Nat} {l : List UInt8} {n : Nat} (h : Cur w g l n) (q : Nat) {m : Int} {k : Nat} (e : m = (k : Int)) : Cur ((w.drewN q).setCell ⟨g, 1, none⟩ (.int .i64 m)) g l k := by
  subst e
  refine ⟨?_, ?_, ?_⟩
  · rw [World.cell?_setCell_other _ ⟨g, 1, none⟩ ⟨g, 0, none⟩ _ (by simp)]; exact h.c0
  · exact World.cell?_setCell_same (w.drewN q) ⟨g, 1, none⟩ _ h.c1
  · rw [World.frozen?_setCell]; exact h.fr
theorem Only.set (w : World) (g : Nat) (q : Nat) (v : Value) : Only g w ((w.drewN q).setCell ⟨g, 1, none⟩ v) :=
  ⟨⟨rfl, rfl, rfl, by simp, fun k _ hk => Below.heap_setCell (w.drewN q) ⟨g, 1, none⟩ v k (fun e => hk (by rw [e]))⟩, by simp⟩
theorem Only.refl (g : Nat) (w : World) : Only g w w := ⟨World.grownBy.refl w _, rfl⟩
theorem Only.trans {g : Nat} {a b c : World} (h : Only g a b) (k : Only g b c) : Only g a c :=
  ⟨⟨k.by_.os.trans h.by_.os, k.by_.tape.trans h.by_.tape, k.by_.output.trans h.by_.output, by rw [k.size, h.size]; exact Nat.le_refl _, fun i hi hne => (k.by_.block i (by rw [h.size]; exact hi) hne).trans (h.by_.block i hi hne)⟩, k.size.trans h.size⟩
theorem Ext.only {a w w' : World} {g : Nat} (h : Ext a w) (ho : Only g w w') (hg : a.heap.size ≤ g) : Ext a w' :=
  Below.grown h ho.by_ h.size (fun k hk => by injection hk with hk; omega)
theorem Own.only {w w' : World} {g lo : Nat} {e : TypeId} {sz n c : Nat} {A : Option Addr} {xs : List Value} (h : Own w lo e sz A n c xs) (ho : Only g w w') (hg : g < lo) : Own w' lo e sz A n c xs :=
  h.kept ho.by_ (.inr fun he => by have := (h.blk g he).1; omega)
theorem Cur.ext {w w' : World} {g : Nat} {l : List UInt8} {n : Nat} (h : Cur w g l n) (hE : Ext w w') : Cur w' g l n :=
  ⟨(hE.cell (p := ⟨g, 0, none⟩) h.lt).trans h.c0, (hE.cell (p := ⟨g, 1, none⟩) h.lt).trans h.c1, (hE.frozen (p := ⟨g, 1, none⟩) h.lt).trans h.fr⟩
theorem Cur.below {w w' : World} {g lo : Nat} {l : List UInt8} {n : Nat} (h : Cur w g l n) (hE : Below lo w w') (hg : g < lo) : Cur w' g l n :=
  ⟨(hE.cell (p := ⟨g, 0, none⟩) hg).trans h.c0, (hE.cell (p := ⟨g, 1, none⟩) hg).trans h.c1, (hE.frozen (p := ⟨g, 1, none⟩) hg).trans h.fr⟩

theorem curC_at {w : World} {g : Nat} {l : List UInt8} {n : Nat} (h : Cur w g l n) :
    Calls Tryz.prog 130 #[.pointer (some ⟨g, 0, none⟩)] w fun e w' => e = .returned (.int .i64 n) ∧ w = w' := cur_at g n w h.c1

theorem curC_seek {w : World} {g : Nat} {l : List UInt8} {n : Nat} (h : Cur w g l n) (hl : l.length ≤ maxLen) (m : Int) (h1 : 0 ≤ m) (h2 : m ≤ l.length) :
    Calls Tryz.prog 128 #[.pointer (some ⟨g, 0, none⟩), .int .i64 m] w fun e w' => e = .returned (.int .i64 0) ∧ Cur w' g l m.toNat ∧ Only g w w' :=
  (cur_seek g l n m w hl h.c0 h.c1 h.fr h1 h2).mono fun _ _ ⟨he, hw⟩ => by
    subst hw
    exact ⟨he, h.set 0 (by omega), Only.set w g 0 _⟩

theorem curC_byte {w : World} {g : Nat} {l : List UInt8} {n : Nat} (h : Cur w g l n) (hl : l.length ≤ maxLen) (c : UInt8) (hc : l[n]? = some c) :
    Calls Tryz.prog 129 #[.pointer (some ⟨g, 0, none⟩)] w fun e w' => e = .returned (.tuple #[.int .u8 c.toNat, .int .i64 0]) ∧ Cur w' g l (n + 1) ∧ Only g w w' := by
  obtain ⟨hn, hc'⟩ := List.getElem?_eq_some_iff.1 hc
  exact (cur_byte g l n w hl h.c0 h.c1 h.fr c hn hc').mono fun _ _ ⟨he, q, hw⟩ => by
    subst hw
    exact ⟨he, h.set q (by omega), Only.set w g q _⟩

theorem curC_byte_short {w : World} {g : Nat} {l : List UInt8} {n : Nat} (h : Cur w g l n) (hg : Laid w) (hl : l.length ≤ maxLen) (hn : n ≤ l.length) (hc : l[n]? = none) :
    Calls Tryz.prog 129 #[.pointer (some ⟨g, 0, none⟩)] w fun e w' => e = .returned (.tuple #[.int .u8 0, .int .i64 4]) ∧ Ext w w' :=
  cur_byte_short g l n w hg hl h.c0 h.c1 (by have := List.getElem?_eq_none_iff.1 hc; omega)

theorem curC_take {w : World} {g : Nat} {l : List UInt8} {n : Nat} (h : Cur w g l n) (hl : l.length ≤ maxLen) (m : Nat) (hm : ¬ l.length < n + m) :
    Calls Tryz.prog 131 #[.pointer (some ⟨g, 0, none⟩), .int .i64 m] w fun e w' => e = .returned (.tuple #[S ((l.drop n).take m), .int .i64 0]) ∧ Cur w' g l (n + m) ∧ Only g w w' :=
  (cur_Take g l n m w hl h.c0 h.c1 h.fr (by omega) (by omega)).mono fun _ _ ⟨he, q, hw⟩ => by
    subst hw
    exact ⟨he, h.set q (by omega), Only.set w g q _⟩

theorem curC_take_short {w : World} {g : Nat} {l : List UInt8} {n : Nat} (h : Cur w g l n) (hg : Laid w) (hl : l.length ≤ maxLen) (m : Nat) (hm2 : m ≤ maxLen) (hn : n ≤ l.length) (hm : l.length < n + m) :
    Calls Tryz.prog 131 #[.pointer (some ⟨g, 0, none⟩), .int .i64 m] w fun e w' => e = .returned (.tuple #[S [], .int .i64 4]) ∧ Ext w w' :=
  cur_Take_short g l n m w hg hl hm2 h.c0 h.c1 hn hm

/-- The length in a slot. -/
def lenOf : Value → Nat | .slice _ n _ => n | _ => 0
end Go.Proofs.YthdlgmfeicikpaaGreatDoor
