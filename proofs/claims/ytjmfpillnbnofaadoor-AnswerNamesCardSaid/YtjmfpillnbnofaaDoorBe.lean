/- Contracts of functions and plain lemmas that the proofs of this seat share (joined texts). No condition. -/
import Derived.Test.YtjmfpillnbnofaaDoorBc
import Derived.Test.YtjmfpillnbnofaaDoorBa
import Derived.BigRegion
import Derived.Deep.RegionHeld3
import Derived.Deep.RegionWith
import Derived.Test.YtjmfpillnbnofaaDoorBd
namespace Go.Proofs.YtjmfpillnbnofaaDoor
set_option linter.unusedSimpArgs false
set_option linter.unusedVariables false
open Go.RowKit
set_option maxRecDepth 100000

theorem conv1 (W : World) (g : Nat) (hg : g = W.heap.size) (x : Int) (c : UInt8) (h : x = c.toNat) : (convert 63 9 (.slice (some ⟨g, 0, none⟩) 1 1)).run Tryd.prog (W.alloc (.cells #[.int .u8 x] 5)) = .ok (S [c]) (W.alloc (.cells #[.int .u8 x] 5)) := by
  subst hg h
  exact conv_str (lo := 0) 1 (l := [c]) (rd_new W _ rfl _ _ 1 1 rfl)

theorem app_mk (a b : List UInt8) : (ByteArray.mk a.toArray) ++ (ByteArray.mk b.toArray) = ByteArray.mk (a ++ b).toArray := by
  apply ByteArray.ext
  simp
attribute [go_sem] app_mk

/-! ### Labels -/
theorem parse_step (l : List UInt8) (k : Nat) (h : k < l.length) (b : UInt8) (hb : l[k] = b) (h0 : b.toNat ≠ 0) (h1 : b.toNat ≤ 63) :
    parse (l.drop k) = (parse (l.drop (k + 1 + b.toNat))).map ((l.drop (k + 1)).take b.toNat :: ·) := by
  rw [drop_cons l k h, hb, parse_cons, if_neg (fun e => h0 (by rw [e]; rfl)), if_neg (by omega), List.drop_drop]
theorem parse_none_of {l : List UInt8} {ls : List (List UInt8)} {X : Option (List (List UInt8))} (h : parse l = X.map (ls ++ ·)) (hx : X = none) : labelsOf l = none := by
  unfold labelsOf; split
  · rw [h, hx]; rfl
  · rfl

def LabPost (r : Option (List (List UInt8))) (w : World) (e : Ending) (w' : World) : Prop := ∃ v, e = .returned (.tuple #[v, .bool r.isSome]) ∧ OStrs w' w.heap.size v (r.getD []) ∧ Ext w w'

end Go.Proofs.YtjmfpillnbnofaaDoor
namespace Go.Proofs.YtjmfpillnbnofaaDoor
set_option linter.unusedSimpArgs false
set_option linter.unusedVariables false
open Go.RowKit
set_option maxRecDepth 100000

def labB (x : List UInt8) : List UInt8 := UInt8.ofNat x.length :: x
def bytesOf (ls : List (List UInt8)) : List UInt8 := ls.flatMap labB ++ [0]
theorem labs_snoc (ls : List (List UInt8)) (k : Nat) (h : k < ls.length) : (ls.take (k + 1)).flatMap labB = (ls.take k).flatMap labB ++ labB ls[k] := by
  rw [take_snoc ls k h, List.flatMap_append, List.flatMap_cons, List.flatMap_nil, List.append_nil]
theorem labs_len (ls : List (List UInt8)) (h : ∀ x ∈ ls, x.length ≤ 255) : (ls.flatMap labB).length ≤ ls.length * 256 := by
  induction ls with
  | nil => simp
  | cons x ls ih =>
    have h1 := h x (by simp)
    have h2 := ih (fun y hy => h y (by simp [hy]))
    rw [List.flatMap_cons, List.length_append, List.length_cons]
    simp only [labB, List.length_cons]
    rw [Nat.add_mul]; omega

/-! ### Plain: names and their labels -/
theorem parse_bytes : ∀ (n : Nat) (l : List UInt8) (ls : List (List UInt8)), l.length ≤ n → parse l = some ls → l = bytesOf ls ∧ ∀ x ∈ ls, 0 < x.length ∧ x.length ≤ 63 := by
  intro n
  induction n with
  | zero =>
    intro l ls hn h
    have : l = [] := List.eq_nil_of_length_eq_zero (by omega)
    subst this
    rw [parse_nil] at h; cases h
  | succ n ih =>
    intro l ls hn h
    rcases l with _ | ⟨b, r⟩
    · rw [parse_nil] at h; cases h
    · rw [parse_cons] at h
      split at h
      · rename_i hb
        split at h
        · rename_i hr
          injection h with h
          subst h hb hr
          exact ⟨rfl, by simp⟩
        · cases h
      · rename_i hb
        split at h
        · cases h
        · rename_i h63
          rw [Option.map_eq_some_iff] at h
          obtain ⟨ls', hp, rfl⟩ := h
          have hrl : b.toNat < r.length := by
            rcases Nat.lt_or_ge b.toNat r.length with h' | h'
            · exact h'
            · rw [List.drop_of_length_le h', parse_nil] at hp; cases hp
          have hb0 : 0 < b.toNat := Nat.pos_of_ne_zero (fun e => hb (UInt8.toNat_inj.1 (by simpa using e)))
          obtain ⟨h1, h2⟩ := ih _ _ (by simp at hn ⊢; omega) hp
          have htl : (r.take b.toNat).length = b.toNat := by simp; omega
          refine ⟨?_, fun x hx => ?_⟩
          · unfold bytesOf at h1 ⊢
            rw [List.flatMap_cons, List.append_assoc, ← h1]
            unfold labB
            rw [htl, UInt8.ofNat_toNat, List.cons_append, List.take_append_drop]
          · rcases List.mem_cons.1 hx with rfl | h
            · rw [htl]; omega
            · exact h2 x h
theorem labels_bytes {l : List UInt8} {ls : List (List UInt8)} (h : labelsOf l = some ls) : l.length ≤ 255 ∧ l = bytesOf ls ∧ ∀ x ∈ ls, 0 < x.length ∧ x.length ≤ 63 := by
  unfold labelsOf at h
  split at h
  · rename_i hl; exact ⟨hl, parse_bytes _ l ls (Nat.le_refl _) h⟩
  · cases h
theorem lowB_small {b : UInt8} (h : b.toNat ≤ 63) : lowB b = b := by unfold lowB; rw [if_neg (by omega)]
theorem low_bytes (ls : List (List UInt8)) (h : ∀ x ∈ ls, x.length ≤ 63) : low (bytesOf ls) = bytesOf (ls.map low) := by
  unfold bytesOf
  induction ls with
  | nil => rfl
  | cons x ls ih =>
    have h1 := h x (by simp)
    have h2 := ih (fun y hy => h y (by simp [hy]))
    rw [List.flatMap_cons, List.append_assoc, List.map_cons, List.flatMap_cons, List.append_assoc, ← h2]
    unfold low labB
    rw [List.map_append, List.map_cons, lowB_small (by simp; omega), List.length_map]
theorem labels_len {l : List UInt8} {ls : List (List UInt8)} (h : labelsOf l = some ls) : ls.length ≤ 255 := by
  obtain ⟨h1, h2, h3⟩ := labels_bytes h
  have : ls.length ≤ (ls.flatMap labB).length := by
    clear h h1 h2 h3
    induction ls with
    | nil => simp
    | cons x ls ih =>
      rw [List.flatMap_cons, List.length_append, List.length_cons]
      have : (labB x).length = x.length + 1 := rfl
      omega
  have h4 : (bytesOf ls).length ≤ 255 := by rw [← h2]; exact h1
  unfold bytesOf at h4
  rw [List.length_append] at h4
  omega
theorem fold_labels {l : List UInt8} {ls : List (List UInt8)} (h : labelsOf l = some ls) : fold l = bytesOf (ls.map low) := by
  obtain ⟨_, h2, h3⟩ := labels_bytes h
  unfold fold may
  rw [h, if_pos (by rfl)]
  conv => lhs; rw [h2]
  exact low_bytes ls (fun x hx => (h3 x hx).2)
theorem fold_none {l : List UInt8} (h : labelsOf l = none) : fold l = [] := by unfold fold may; rw [h]; rfl

end Go.Proofs.YtjmfpillnbnofaaDoor
namespace Go.Proofs.YtjmfpillnbnofaaDoor
set_option linter.unusedSimpArgs false
set_option linter.unusedVariables false
open Go.RowKit
set_option maxRecDepth 100000

abbrev bl (a b : List UInt8) : Bool := Op.bytesLess a b
/-- Labels compared, the last first (lists turned about). -/
def cmpRev : List (List UInt8) → List (List UInt8) → Int
  | [], [] => 0
  | [], _ :: _ => -1
  | _ :: _, [] => 1
  | a :: x, b :: y => if bl a b then -1 else if bl b a then 1 else cmpRev x y
/-- The order of two names. -/
def cmpN (a b : List UInt8) : Int :=
  match labelsOf a, labelsOf b with
  | some x, some y => cmpRev (x.map low).reverse (y.map low).reverse
  | _, _ => 0

theorem cmpRev_cons (a b : List UInt8) (x y : List (List UInt8)) : cmpRev (a :: x) (b :: y) = if bl a b then -1 else if bl b a then 1 else cmpRev x y := rfl
theorem bl_irr (a : List UInt8) : bl a a = false := by
  induction a with
  | nil => rfl
  | cons x a ih => simp only [bl, Op.bytesLess] at *; simp [ih]
theorem bl_asym (a b : List UInt8) (h : bl a b = true) : bl b a = false ∧ a ≠ b := by
  induction a generalizing b with
  | nil => cases b <;> simp_all [bl, Op.bytesLess]
  | cons x a ih =>
    cases b with
    | nil => simp [bl, Op.bytesLess] at h
    | cons y b =>
      simp only [bl, Op.bytesLess, Bool.or_eq_true, decide_eq_true_eq, Bool.and_eq_true, beq_iff_eq] at h
      rcases h with h | ⟨rfl, h⟩
      · have h1 : ¬ y < x := UInt8.lt_asymm h
        have h2 : y ≠ x := fun e => by subst e; exact (UInt8.lt_irrefl _) h
        refine ⟨?_, fun e => h2 (by injection e with e; exact e.symm)⟩
        simp [bl, Op.bytesLess, h1, h2]
      · obtain ⟨h1, h2⟩ := ih b h
        refine ⟨?_, fun e => h2 (by injection e)⟩
        simp [bl, Op.bytesLess] at h1 ⊢
        exact h1
theorem bl_total (a b : List UInt8) (h1 : bl a b = false) (h2 : bl b a = false) : a = b := by
  induction a generalizing b with
  | nil => cases b <;> simp_all [bl, Op.bytesLess]
  | cons x a ih =>
    cases b with
    | nil => simp [bl, Op.bytesLess] at h2
    | cons y b =>
      simp only [bl, Op.bytesLess, Bool.or_eq_false_iff, decide_eq_false_iff_not, Bool.and_eq_false_iff] at h1 h2
      have hxy : x = y := UInt8.le_antisymm (UInt8.not_lt.1 h2.1) (UInt8.not_lt.1 h1.1)
      subst hxy
      rw [ih b (by simpa using h1.2) (by simpa using h2.2)]

/-- What is left to compare, k labels from the end done. -/
theorem rev_drop (x : List (List UInt8)) (k : Nat) (h : k < x.length) : (x.map low).reverse.drop k = low (x[x.length - 1 - k]) :: (x.map low).reverse.drop (k + 1) := by
  rw [List.drop_eq_getElem_cons (by simp; exact h)]
  congr 1
  rw [List.getElem_reverse]
  simp

end Go.Proofs.YtjmfpillnbnofaaDoor
namespace Go.Proofs.YtjmfpillnbnofaaDoor
set_option linter.unusedSimpArgs false
set_option linter.unusedVariables false
open Go.RowKit
set_option maxRecDepth 100000

/-- The length of a string in a slot. -/
def strLenOf : Value → Nat | .string s => s.size | _ => 0
/-- The reference's 'next': -1 where no pointer was met. -/
def nxOf (o : Option Nat) : Int := match o with | some k => k | none => -1

structure RfInv (msg : List UInt8) (s0 s : RdSt) : Prop where
  pos : s.pos ≤ msg.length
  out : s.out.length ≤ 254
  lim : s.lim ≤ msg.length
  nxb : ∀ k, s.nx = some k → k ≤ msg.length
  eq : readS msg s0 = readS msg s

end Go.Proofs.YtjmfpillnbnofaaDoor
namespace Go.Proofs.YtjmfpillnbnofaaDoor
set_option linter.unusedSimpArgs false
set_option linter.unusedVariables false
open Go.RowKit
set_option maxRecDepth 100000

/-- A piece of the reference. -/
structure Pr where
  s : List UInt8
  nm : Bool
def Pr.cells (p : Pr) : List Value := [S p.s, .bool p.nm]
def layoutOf (k : Int) : Nat × Nat × Nat × Bool :=
  if k = 1 then (4, 0, 0, true) else if k = 28 then (16, 0, 0, true) else if k = 2 ∨ k = 5 ∨ k = 12 then (0, 1, 0, true)
  else if k = 15 then (2, 1, 0, true) else if k = 6 then (0, 2, 20, true) else if k = 33 then (6, 1, 0, true) else (0, 0, 0, false)
def refLoop (msg : List UInt8) (behind : Nat) : Nat → Nat → List Pr → List Pr × Nat
  | 0, pos, acc => if msg.length - pos < behind then ([], 4) else if behind < msg.length - pos then ([], 3) else (acc ++ [⟨msg.drop pos, false⟩], 0)
  | n + 1, pos, acc => if (readN msg pos).2.2 ≠ 0 then ([], (readN msg pos).2.2) else refLoop msg behind n (readN msg pos).2.1 (acc ++ [⟨(readN msg pos).1, true⟩])
def refPieces (msg : List UInt8) (pos : Nat) (k : Int) : List Pr × Nat :=
  if k = 41 then ([], 3)
  else if k = 16 then (if textsOk (msg.drop pos) then ([⟨msg.drop pos, false⟩], 0) else ([], 4))
  else if (layoutOf k).2.2.2 = false then ([⟨msg.drop pos, false⟩], 0)
  else if msg.length - pos < (layoutOf k).1 then ([], 4)
  else refLoop msg (layoutOf k).2.2.1 (layoutOf k).2.1 (pos + (layoutOf k).1) [⟨(msg.drop pos).take (layoutOf k).1, false⟩]

theorem pr_one (p : Pr) : ∀ u ∈ p.cells, u.oneCell' = true := by
  intro u hu
  simp [Pr.cells] at hu
  rcases hu with rfl | rfl <;> rfl

theorem layoutOf_bd (k : Int) : (layoutOf k).1 ≤ 16 ∧ (layoutOf k).2.1 ≤ 2 ∧ (layoutOf k).2.2.1 ≤ 20 := by
  unfold layoutOf
  repeat' split
  all_goals simp

end Go.Proofs.YtjmfpillnbnofaaDoor
namespace Go.Proofs.YtjmfpillnbnofaaDoor
set_option linter.unusedSimpArgs false
set_option linter.unusedVariables false
set_option maxRecDepth 100000

def joinR (l : List Pr) : List UInt8 := l.flatMap Pr.s
def foldR (l : List Pr) : List UInt8 := l.flatMap fun p => if p.nm then fold p.s else p.s
def foldP (l : List Pc) : List UInt8 := l.flatMap fun p => if p.nm then fold p.text else p.text
def wholeR (k : Int) (d : List UInt8) : Option (List Pr) := if (refPieces d 0 k).2 = 0 ∧ joinR (refPieces d 0 k).1 = d then some (refPieces d 0 k).1 else none

def SameP (A : List Pc × Nat) (B : List Pr × Nat) : Prop := (A.2 = 0 ↔ B.2 = 0) ∧ (A.2 = 0 → textOf A.1 = joinR B.1 ∧ foldP A.1 = foldR B.1)

theorem same_bad {e f : Nat} (he : e ≠ 0) (hf : f ≠ 0) : SameP ([], e) ([], f) := ⟨by simp [he, hf], by simp [he]⟩
theorem same_ok {a : List Pc} {b : List Pr} (h1 : textOf a = joinR b) (h2 : foldP a = foldR b) : SameP (a, 0) (b, 0) := ⟨by simp, fun _ => ⟨h1, h2⟩⟩

theorem splitL_cons_bad {c : Chk} {cs : List Chk} {msg : List UInt8} {pos : Nat} (h : (runChk c msg pos).2 ≠ 0) : splitL (c :: cs) msg pos = ([], (runChk c msg pos).2) := by simp only [splitL, if_pos h]
theorem splitL_cons_ok {c : Chk} {cs : List Chk} {msg : List UInt8} {pos : Nat} (h : (runChk c msg pos).2 = 0) (h2 : (splitL cs msg (runChk c msg pos).1.next).2 = 0) : splitL (c :: cs) msg pos = ((runChk c msg pos).1 :: (splitL cs msg (runChk c msg pos).1.next).1, 0) := by
  simp only [splitL]; rw [if_neg (by simp [h]), if_neg (by simp [h2])]
theorem splitL_cons_bad2 {c : Chk} {cs : List Chk} {msg : List UInt8} {pos : Nat} (h : (runChk c msg pos).2 = 0) (h2 : (splitL cs msg (runChk c msg pos).1.next).2 ≠ 0) : splitL (c :: cs) msg pos = ([], (splitL cs msg (runChk c msg pos).1.next).2) := by
  simp only [splitL]; rw [if_neg (by simp [h]), if_pos h2]

/-- The reference's list with a piece more ahead. -/
theorem refLoop_acc (msg : List UInt8) (behind : Nat) : ∀ (n pos : Nat) (acc more : List Pr), refLoop msg behind n pos (acc ++ more) = if (refLoop msg behind n pos more).2 = 0 then (acc ++ (refLoop msg behind n pos more).1, 0) else refLoop msg behind n pos more
  | 0, pos, acc, more => by
    simp only [refLoop]
    split
    · simp
    · split
      · simp
      · simp
  | n + 1, pos, acc, more => by
    simp only [refLoop]
    split
    · rename_i h; simp [h]
    · rw [List.append_assoc]; exact refLoop_acc msg behind n _ acc (more ++ [⟨(readN msg pos).1, true⟩])
theorem refLoop_fst {msg : List UInt8} {behind n pos : Nat} {acc : List Pr} (h : (refLoop msg behind n pos acc).2 ≠ 0) : (refLoop msg behind n pos acc).1 = [] := by
  induction n generalizing pos acc with
  | zero =>
    simp only [refLoop] at h ⊢
    split
    · rfl
    · split
      · rfl
      · rename_i h1 h2; rw [if_neg h1, if_neg h2] at h; exact absurd rfl h
  | succ n ih =>
    simp only [refLoop] at h ⊢
    split
    · rfl
    · rename_i h1; rw [if_neg h1] at h; exact ih h

/-- The tail: 'behind' bytes. -/
def tailC (behind : Nat) : List Chk := if behind = 0 then [] else [⟨0, behind⟩]
theorem same_tail (msg : List UInt8) (behind pos : Nat) (hp : pos ≤ msg.length) : SameP (splitL (tailC behind) msg pos) (refLoop msg behind 0 pos []) := by
  unfold tailC
  simp only [refLoop]
  by_cases hb : behind = 0
  · subst hb
    rw [if_pos rfl, if_neg (by omega)]
    simp only [splitL]
    by_cases h : pos < msg.length
    · rw [if_pos h, if_pos (by omega)]; exact same_bad (by decide) (by decide)
    · rw [if_neg h, if_neg (by omega), List.drop_of_length_le (by omega)]; exact same_ok rfl rfl
  · rw [if_neg hb]
    by_cases h : msg.length - pos < behind
    · rw [if_pos h, splitL_cons_bad (by simp [runChk, h])]
      simp only [runChk, h, if_true]
      exact same_bad (by decide) (by decide)
    · rw [if_neg h]
      have hr : runChk ⟨0, behind⟩ msg pos = (⟨(msg.drop pos).take behind, false, pos + behind⟩, 0) := by simp [runChk, h]
      by_cases h2 : behind < msg.length - pos
      · rw [if_pos h2, splitL_cons_bad2 (by rw [hr]) (by rw [hr]; simp only [splitL]; rw [if_pos (by omega)]; decide), hr]
        simp only [splitL]
        rw [if_pos (by omega)]
        exact same_bad (by decide) (by decide)
      · rw [if_neg h2, splitL_cons_ok (by rw [hr]) (by rw [hr]; simp only [splitL]; rw [if_neg (by omega)]), hr]
        simp only [splitL]
        rw [if_neg (by omega)]
        have e : (msg.drop pos).take behind = msg.drop pos := List.take_of_length_le (by simp; omega)
        rw [e]
        exact same_ok (by simp [textOf, joinR]) (by simp [foldP, foldR])
theorem same_cons {p : Pc} {q : Pr} {A : List Pc × Nat} {B : List Pr × Nat} (h : SameP A B) (hA : A.2 = 0) (h1 : p.text = q.s) (h2 : p.nm = q.nm) : SameP (p :: A.1, 0) (q :: B.1, 0) := by
  obtain ⟨h3, h4⟩ := h.2 hA
  refine same_ok ?_ ?_
  · unfold textOf joinR at *; rw [List.flatMap_cons, List.flatMap_cons, h1, h3]
  · unfold foldP foldR at *; rw [List.flatMap_cons, List.flatMap_cons, h1, h2, h4]
/-- Names ahead of the tail. -/
theorem same_names (msg : List UInt8) (behind : Nat) : ∀ (n pos : Nat), pos ≤ msg.length → SameP (splitL (List.replicate n ⟨1, 0⟩ ++ tailC behind) msg pos) (refLoop msg behind n pos [])
  | 0, pos, hp => by simpa using same_tail msg behind pos hp
  | n + 1, pos, hp => by
    rw [List.replicate_succ, List.cons_append]
    simp only [refLoop]
    by_cases h : (readN msg pos).2.2 = 0
    · have hr : runChk ⟨1, 0⟩ msg pos = (⟨(readN msg pos).1, true, (readN msg pos).2.1⟩, 0) := by simp [runChk, h]
      have ih := same_names msg behind n (readN msg pos).2.1 (readN_bd msg pos).1
      rw [if_neg (by simp [h])]
      have ha := refLoop_acc msg behind n (readN msg pos).2.1 [⟨(readN msg pos).1, true⟩] []
      rw [List.append_nil] at ha
      rw [List.nil_append, ha]
      by_cases h2 : (splitL (List.replicate n ⟨1, 0⟩ ++ tailC behind) msg (readN msg pos).2.1).2 = 0
      · rw [splitL_cons_ok (by rw [hr]) (by rw [hr]; exact h2), hr, if_pos (ih.1.1 h2)]
        exact same_cons ih h2 rfl rfl
      · have h3 : (refLoop msg behind n (readN msg pos).2.1 []).2 ≠ 0 := fun e => h2 (ih.1.2 e)
        rw [splitL_cons_bad2 (by rw [hr]) (by rw [hr]; exact h2), hr, if_neg h3]
        have := refLoop_fst h3
        have e : refLoop msg behind n (readN msg pos).2.1 [] = ([], (refLoop msg behind n (readN msg pos).2.1 []).2) := Prod.ext this rfl
        rw [e]
        exact same_bad h2 h3
    · rw [if_pos h]
      have hr : runChk ⟨1, 0⟩ msg pos = (Pc.zero, (readN msg pos).2.2) := by simp [runChk, h]
      rw [splitL_cons_bad (by rw [hr]; exact h), hr]
      exact same_bad h h
/-- Bytes ahead, then names, then the tail. -/
theorem same_all (msg : List UInt8) (ahead names behind pos : Nat) (hp : pos ≤ msg.length) :
    SameP (splitL (tailC ahead ++ (List.replicate names ⟨1, 0⟩ ++ tailC behind)) msg pos) (if msg.length - pos < ahead then ([], 4) else refLoop msg behind names (pos + ahead) [⟨(msg.drop pos).take ahead, false⟩]) := by
  have ha := fun q => refLoop_acc msg behind names q [⟨(msg.drop pos).take ahead, false⟩] []
  simp only [List.append_nil] at ha
  by_cases h0 : ahead = 0
  · subst h0
    rw [if_neg (by omega), ha]
    have h1 : tailC 0 = [] := rfl
    rw [h1, List.nil_append]
    have ih := same_names msg behind names pos hp
    have e0 : pos + 0 = pos := rfl
    rw [e0]
    by_cases h2 : (refLoop msg behind names pos []).2 = 0
    · rw [if_pos h2]
      have h3 := ih.1.2 h2
      obtain ⟨h4, h5⟩ := ih.2 h3
      refine ⟨by simp [h3], fun _ => ⟨?_, ?_⟩⟩
      · rw [h4]; simp [joinR]
      · rw [h5]; simp [foldR]
    · rw [if_neg h2]; exact ih
  · have h1 : tailC ahead = [⟨0, ahead⟩] := by unfold tailC; rw [if_neg h0]
    rw [h1, List.cons_append, List.nil_append]
    by_cases h : msg.length - pos < ahead
    · have hr : runChk ⟨0, ahead⟩ msg pos = (Pc.zero, 4) := by simp [runChk, h]
      rw [if_pos h, splitL_cons_bad (by rw [hr]; decide), hr]
      exact same_bad (by decide) (by decide)
    · have hr : runChk ⟨0, ahead⟩ msg pos = (⟨(msg.drop pos).take ahead, false, pos + ahead⟩, 0) := by simp [runChk, h]
      rw [if_neg h, ha]
      have ih := same_names msg behind names (pos + ahead) (by omega)
      by_cases h2 : (splitL (List.replicate names ⟨1, 0⟩ ++ tailC behind) msg (pos + ahead)).2 = 0
      · rw [splitL_cons_ok (by rw [hr]) (by rw [hr]; exact h2), hr, if_pos (ih.1.1 h2)]
        exact same_cons ih h2 rfl rfl
      · have h3 : (refLoop msg behind names (pos + ahead) []).2 ≠ 0 := fun e => h2 (ih.1.2 e)
        rw [splitL_cons_bad2 (by rw [hr]) (by rw [hr]; exact h2), hr, if_neg h3]
        have := refLoop_fst h3
        have e : refLoop msg behind names (pos + ahead) [] = ([], (refLoop msg behind names (pos + ahead) []).2) := Prod.ext this rfl
        rw [e]
        exact same_bad h2 h3

theorem same_split (msg : List UInt8) (pos : Nat) (k : Int) (hp : pos ≤ msg.length) : SameP (splitOf msg pos k) (refPieces msg pos k) := by
  unfold splitOf refPieces
  by_cases h41 : k = 41
  · rw [if_pos h41, if_pos h41]; exact same_bad (by decide) (by decide)
  rw [if_neg h41, if_neg h41]
  by_cases h16 : k = 16
  · subst h16
    rw [if_pos rfl]
    have hc : checksOf 16 = [⟨2, 0⟩] := rfl
    rw [hc]
    by_cases h : textsOk (msg.drop pos) = true
    · have hr : runChk ⟨2, 0⟩ msg pos = (⟨msg.drop pos, false, msg.length⟩, 0) := by simp [runChk, h]
      rw [if_pos h, splitL_cons_ok (by rw [hr]) (by rw [hr]; simp [splitL]), hr]
      simp only [splitL, Nat.lt_irrefl, if_false]
      exact same_ok (by simp [textOf, joinR]) (by simp [foldP, foldR])
    · have hr : runChk ⟨2, 0⟩ msg pos = (Pc.zero, 4) := by simp [runChk, h]
      rw [if_neg h, splitL_cons_bad (by rw [hr]; decide), hr]
      exact same_bad (by decide) (by decide)
  rw [if_neg h16]
  have key : ∀ (a n b : Nat), layoutOf k = (a, n, b, true) → checksOf k = tailC a ++ (List.replicate n ⟨1, 0⟩ ++ tailC b) →
      SameP (splitL (checksOf k) msg pos) (if (layoutOf k).2.2.2 = false then ([⟨msg.drop pos, false⟩], 0) else if msg.length - pos < (layoutOf k).1 then ([], 4) else refLoop msg (layoutOf k).2.2.1 (layoutOf k).2.1 (pos + (layoutOf k).1) [⟨(msg.drop pos).take (layoutOf k).1, false⟩]) := by
    intro a n b h1 h2
    rw [h1, h2, if_neg (by simp)]
    exact same_all msg a n b pos hp
  by_cases h1 : k = 1
  · subst h1; exact key 4 0 0 rfl rfl
  by_cases h28 : k = 28
  · subst h28; exact key 16 0 0 rfl rfl
  by_cases h2 : k = 2
  · subst h2; exact key 0 1 0 rfl rfl
  by_cases h5 : k = 5
  · subst h5; exact key 0 1 0 rfl rfl
  by_cases h12 : k = 12
  · subst h12; exact key 0 1 0 rfl rfl
  by_cases h15 : k = 15
  · subst h15; exact key 2 1 0 rfl rfl
  by_cases h6 : k = 6
  · subst h6; exact key 0 2 20 rfl rfl
  by_cases h33 : k = 33
  · subst h33; exact key 6 1 0 rfl rfl
  have hL : layoutOf k = (0, 0, 0, false) := by simp [layoutOf, h1, h28, h2, h5, h12, h15, h6, h33]
  have hC : checksOf k = [⟨3, 0⟩] := by simp [checksOf, h1, h28, h2, h5, h12, h15, h6, h33, h16]
  rw [hL, hC, if_pos rfl]
  have hr : runChk ⟨3, 0⟩ msg pos = (⟨msg.drop pos, false, msg.length⟩, 0) := rfl
  rw [splitL_cons_ok (by rw [hr]) (by rw [hr]; simp [splitL]), hr]
  simp only [splitL, Nat.lt_irrefl, if_false]
  exact same_ok (by simp [textOf, joinR]) (by simp [foldP, foldR])

theorem wholeR_may (k : Int) (d : List UInt8) : (wholeR k d).isSome = rmay k d := by
  have h := same_split d 0 k (Nat.zero_le _)
  unfold wholeR rmay wholeOf
  by_cases h1 : (splitOf d 0 k).2 = 0
  · obtain ⟨h2, _⟩ := h.2 h1
    have h3 := h.1.1 h1
    by_cases h4 : textOf (splitOf d 0 k).1 = d
    · rw [if_pos ⟨h3, h2 ▸ h4⟩, if_pos ⟨h1, h4⟩]; rfl
    · rw [if_neg (fun e => h4 (h2.trans e.2)), if_neg (fun e => h4 e.2)]; rfl
  · have h3 : ¬ (refPieces d 0 k).2 = 0 := fun e => h1 (h.1.2 e)
    rw [if_neg (fun e => h3 e.1), if_neg (fun e => h1 e.1)]; rfl
theorem wholeR_fold (k : Int) (d : List UInt8) : foldR ((wholeR k d).getD []) = rfold k d := by
  have h := same_split d 0 k (Nat.zero_le _)
  unfold wholeR rfold partsOf wholeOf
  by_cases h1 : (splitOf d 0 k).2 = 0
  · obtain ⟨h2, h5⟩ := h.2 h1
    have h3 := h.1.1 h1
    by_cases h4 : textOf (splitOf d 0 k).1 = d
    · rw [if_pos ⟨h3, h2 ▸ h4⟩, if_pos ⟨h1, h4⟩]; exact h5.symm
    · rw [if_neg (fun e => h4 (h2.trans e.2)), if_neg (fun e => h4 e.2)]; rfl
  · have h3 : ¬ (refPieces d 0 k).2 = 0 := fun e => h1 (h.1.2 e)
    rw [if_neg (fun e => h3 e.1), if_neg (fun e => h1 e.1)]; rfl
end Go.Proofs.YtjmfpillnbnofaaDoor
namespace Go.Proofs.YtjmfpillnbnofaaDoor
set_option linter.unusedSimpArgs false
set_option linter.unusedVariables false
open Go.RowKit
set_option maxRecDepth 100000

theorem prs_cells {w : World} {b off : Nat} {l : List Pr} (hc : ∀ j u, (l.flatMap Pr.cells)[j]? = some u → w.cell? ⟨b, off + j, none⟩ = some u) (k : Nat) (p : Pr) (hp : l[k]? = some p) :
    w.cell? ⟨b, off + k * 2, none⟩ = some (S p.s) ∧ w.cell? ⟨b, off + k * 2 + 1, none⟩ = some (.bool p.nm) := by
  refine ⟨?_, ?_⟩
  · exact hc (k * 2 + 0) _ (flat_get Pr.cells 2 (fun _ => rfl) l k 0 p hp (by omega))
  · rw [Nat.add_assoc]; exact hc (k * 2 + 1) _ (flat_get Pr.cells 2 (fun _ => rfl) l k 1 p hp (by omega))
theorem joinR_snoc (l : List Pr) (k : Nat) (h : k < l.length) : joinR (l.take (k + 1)) = joinR (l.take k) ++ l[k].s := by
  rw [take_snoc l k h]
  unfold joinR
  rw [List.flatMap_append, List.flatMap_cons, List.flatMap_nil, List.append_nil]
theorem foldR_snoc (l : List Pr) (k : Nat) (h : k < l.length) : foldR (l.take (k + 1)) = foldR (l.take k) ++ (if l[k].nm then fold l[k].s else l[k].s) := by
  rw [take_snoc l k h]
  unfold foldR
  rw [List.flatMap_append, List.flatMap_cons, List.flatMap_nil, List.append_nil]
theorem join_le (l : List Pr) (n : Nat) (h : ∀ p ∈ l, p.s.length ≤ n) : (joinR l).length ≤ l.length * n := by
  induction l with
  | nil => simp [joinR]
  | cons p l ih =>
    have h1 := h p (by simp)
    have h2 := ih (fun q hq => h q (by simp [hq]))
    unfold joinR at *
    rw [List.flatMap_cons, List.length_append, List.length_cons, Nat.add_mul]; omega
theorem fold_len_le (n : List UInt8) : (fold n).length ≤ n.length + 255 := Nat.le_trans (fold_le n) (by omega)
theorem foldR_le (l : List Pr) (n : Nat) (h : ∀ p ∈ l, p.s.length ≤ n) : (foldR l).length ≤ l.length * (n + 255) := by
  induction l with
  | nil => simp [foldR]
  | cons p l ih =>
    have h1 := h p (by simp)
    have h2 := ih (fun q hq => h q (by simp [hq]))
    have h3 : (if p.nm then fold p.s else p.s).length ≤ n + 255 := by
      split
      · have := fold_len_le p.s; omega
      · omega
    unfold foldR at *
    rw [List.flatMap_cons, List.length_append, List.length_cons, Nat.add_mul]; omega
theorem refLoop_bd (msg : List UInt8) (behind : Nat) : ∀ (n pos : Nat) (acc : List Pr), (∀ p ∈ acc, p.s.length ≤ msg.length + 255) → (refLoop msg behind n pos acc).1.length ≤ acc.length + n + 1 ∧ ∀ p ∈ (refLoop msg behind n pos acc).1, p.s.length ≤ msg.length + 255
  | 0, pos, acc, h => by
    simp only [refLoop]
    split
    · simp
    · split
      · simp
      · refine ⟨by simp, fun p hp => ?_⟩
        rcases List.mem_append.1 hp with h1 | h1
        · exact h p h1
        · rw [List.mem_singleton] at h1; subst h1; simp; omega
  | n + 1, pos, acc, h => by
    simp only [refLoop]
    split
    · simp
    · have hb := readN_bd msg pos
      have := refLoop_bd msg behind n (readN msg pos).2.1 (acc ++ [⟨(readN msg pos).1, true⟩]) (fun p hp => by
        rcases List.mem_append.1 hp with h1 | h1
        · exact h p h1
        · rw [List.mem_singleton] at h1; subst h1; have := hb.2; dsimp only; omega)
      refine ⟨?_, this.2⟩
      have h3 := this.1
      simp at h3; omega
theorem refPieces_bd (msg : List UInt8) (pos : Nat) (k : Int) : (refPieces msg pos k).1.length ≤ 4 ∧ ∀ p ∈ (refPieces msg pos k).1, p.s.length ≤ msg.length + 255 := by
  unfold refPieces
  have hb := layoutOf_bd k
  split
  · simp
  · split
    · split
      · refine ⟨by simp, fun p hp => ?_⟩
        rw [List.mem_singleton] at hp; subst hp; simp; omega
      · simp
    · split
      · refine ⟨by simp, fun p hp => ?_⟩
        rw [List.mem_singleton] at hp; subst hp; simp; omega
      · split
        · simp
        · have := refLoop_bd msg (layoutOf k).2.2.1 (layoutOf k).2.1 (pos + (layoutOf k).1) [⟨(msg.drop pos).take (layoutOf k).1, false⟩] (fun p hp => by
            rw [List.mem_singleton] at hp; subst hp; simp; omega)
          refine ⟨?_, this.2⟩
          have h3 := this.1
          simp at h3; omega

theorem wholeR_bad {kind : Int} {d : List UInt8} (h : ¬ ((refPieces d 0 kind).2 = 0 ∧ joinR (refPieces d 0 kind).1 = d)) : wholeR kind d = none := by unfold wholeR; rw [if_neg h]
theorem wholeR_good {kind : Int} {d : List UInt8} (h : (refPieces d 0 kind).2 = 0 ∧ joinR (refPieces d 0 kind).1 = d) : wholeR kind d = some (refPieces d 0 kind).1 := by unfold wholeR; rw [if_pos h]

theorem wholeR_bd (kind : Int) (d : List UInt8) : ((wholeR kind d).getD []).length ≤ 4 ∧ ∀ p ∈ (wholeR kind d).getD [], p.s.length ≤ d.length + 255 := by
  have h := refPieces_bd d 0 kind
  unfold wholeR
  split
  · exact h
  · simp

end Go.Proofs.YtjmfpillnbnofaaDoor
