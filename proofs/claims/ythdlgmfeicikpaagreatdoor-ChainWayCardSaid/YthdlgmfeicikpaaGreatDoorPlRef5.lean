/- Plain: the reference's pieces of data say what the program's parts say. -/
import Derived.Test.YthdlgmfeicikpaaGreatDoorRef5
namespace Go.Proofs.YthdlgmfeicikpaaGreatDoor
set_option linter.unusedSimpArgs false
set_option linter.unusedVariables false
set_option maxRecDepth 100000

def joinR (l : List Pr) : List UInt8 := l.flatMap Pr.s
def foldR (l : List Pr) : List UInt8 := l.flatMap fun p => if p.nm then fold p.s else p.s
def foldP (l : List Pc) : List UInt8 := l.flatMap fun p => if p.nm then fold p.text else p.text
def wholeR (k : Int) (d : List UInt8) : Option (List Pr) := if (refPieces d 0 k).2 = 0 ∧ joinR (refPieces d 0 k).1 = d then some (refPieces d 0 k).1 else none

def SameP (A : List Pc × Nat) (B : List Pr × Nat) : Prop := (A.2 = 0 ↔ B.2 = 0) ∧ (A.2 = 0 → textOf A.1 = joinR B.1 ∧ foldP A.1 = foldR B.1)

theorem same_bad {e f : Nat} (he : e ≠ 0) (hf : f ≠ 0) : SameP ([], e) ([], f) := ⟨by simp [he, hf], by simp [he]⟩
theorem same_ok {a : List Pc} {b : List Pr} (h1 : textOf a = joinR b) (h2 : foldP a = foldR b) : SameP (a, 0) (b, 0) := ⟨by simp, fun _ => ⟨h1, h2⟩⟩

theorem splitL_cons_bad {c : Chk} {cs : List Chk} {msg : List UInt8} {pos : Nat} (h : (runChk c msg pos).2 ≠ 0) : splitL (c :: cs) msg pos = ([], (runChk c msg pos).2) := by simp only [splitL, if_pos h]
theorem splitL_cons_ok {c : Chk} {cs : List Chk} {msg : List UInt8} {pos : Nat} (h : (runChk c msg pos).2 = 0) (h2 : (splitL cs msg (runChk c msg pos).1.next).2 = 0) : splitL (c :: cs) msg pos = ((runChk c msg pos).1 :: (splitL cs msg (runChk c msg pos).1.next).1, 0) := by
  simp only [splitL]; rw [if_neg (by simp [h]), if_neg (by simp [h2])]
theorem splitL_cons_bad2 {c : Chk} {cs : List Chk} {msg : List UInt8} {pos : Nat} (h : (runChk c msg pos).2 = 0) (h2 : (splitL cs msg (runChk c msg pos).1.next).2 ≠ 0) : splitL (c :: cs) msg pos = ([], (splitL cs msg (runChk c msg pos).1.next).2) := by
  simp only [splitL]; rw [if_neg (by simp [h]), if_pos h2]

/-- The reference's list with a piece more ahead. -/
theorem refLoop_acc (msg : List UInt8) (behind : Nat) : ∀ (n pos : Nat) (acc more : List Pr), refLoop msg behind n pos (acc ++ more) = if (refLoop msg behind n pos more).2 = 0 then (acc ++ (refLoop msg behind n pos more).1, 0) else refLoop msg behind n pos more
  | 0, pos, acc, more => by
    simp only [refLoop]
    split
    · simp
    · split
      · simp
      · simp
  | n + 1, pos, acc, more => by
    simp only [refLoop]
    split
    · rename_i h; simp [h]
    · rw [List.append_assoc]; exact refLoop_acc msg behind n _ acc (more ++ [⟨(readN msg pos).1, true⟩])
theorem refLoop_fst {msg : List UInt8} {behind n pos : Nat} {acc : List Pr} (h : (refLoop msg behind n pos acc).2 ≠ 0) : (refLoop msg behind n pos acc).1 = [] := by
  induction n generalizing pos acc with
  | zero =>
    simp only [refLoop] at h ⊢
    split
    · rfl
    · split
      · rfl
      · rename_i h1 h2; rw [if_neg h1, if_neg h2] at h; exact absurd rfl h
  | succ n ih =>
    simp only [refLoop] at h ⊢
    split
    · rfl
    · rename_i h1; rw [if_neg h1] at h; exact ih h

/-- The tail: 'behind' bytes. -/
def tailC (behind : Nat) : List Chk := if behind = 0 then [] else [⟨0, behind⟩]
theorem same_tail (msg : List UInt8) (behind pos : Nat) (hp : pos ≤ msg.length) : SameP (splitL (tailC behind) msg pos) (refLoop msg behind 0 pos []) := by
  unfold tailC
  simp only [refLoop]
  by_cases hb : behind = 0
  · subst hb
    rw [if_pos rfl, if_neg (by omega)]
    simp only [splitL]
    by_cases h : pos < msg.length
    · rw [if_pos h, if_pos (by omega)]; exact same_bad (by decide) (by decide)
    · rw [if_neg h, if_neg (by omega), List.drop_of_length_le (by omega)]; exact same_ok rfl rfl
  · rw [if_neg hb]
    by_cases h : msg.length - pos < behind
    · rw [if_pos h, splitL_cons_bad (by simp [runChk, h])]
      simp only [runChk, h, if_true]
      exact same_bad (by decide) (by decide)
    · rw [if_neg h]
      have hr : runChk ⟨0, behind⟩ msg pos = (⟨(msg.drop pos).take behind, false, pos + behind⟩, 0) := by simp [runChk, h]
      by_cases h2 : behind < msg.length - pos
      · rw [if_pos h2, splitL_cons_bad2 (by rw [hr]) (by rw [hr]; simp only [splitL]; rw [if_pos (by omega)]; decide), hr]
        simp only [splitL]
        rw [if_pos (by omega)]
        exact same_bad (by decide) (by decide)
      · rw [if_neg h2, splitL_cons_ok (by rw [hr]) (by rw [hr]; simp only [splitL]; rw [if_neg (by omega)]), hr]
        simp only [splitL]
        rw [if_neg (by omega)]
        have e : (msg.drop pos).take behind = msg.drop pos := List.take_of_length_le (by simp; omega)
        rw [e]
        exact same_ok (by simp [textOf, joinR]) (by simp [foldP, foldR])
theorem same_cons {p : Pc} {q : Pr} {A : List Pc × Nat} {B : List Pr × Nat} (h : SameP A B) (hA : A.2 = 0) (h1 : p.text = q.s) (h2 : p.nm = q.nm) : SameP (p :: A.1, 0) (q :: B.1, 0) := by
  obtain ⟨h3, h4⟩ := h.2 hA
  refine same_ok ?_ ?_
  · unfold textOf joinR at *; rw [List.flatMap_cons, List.flatMap_cons, h1, h3]
  · unfold foldP foldR at *; rw [List.flatMap_cons, List.flatMap_cons, h1, h2, h4]
/-- Names ahead of the tail. -/
theorem same_names (msg : List UInt8) (behind : Nat) : ∀ (n pos : Nat), pos ≤ msg.length → SameP (splitL (List.replicate n ⟨1, 0⟩ ++ tailC behind) msg pos) (refLoop msg behind n pos [])
  | 0, pos, hp => by simpa using same_tail msg behind pos hp
  | n + 1, pos, hp => by
    rw [List.replicate_succ, List.cons_append]
    simp only [refLoop]
    by_cases h : (readN msg pos).2.2 = 0
    · have hr : runChk ⟨1, 0⟩ msg pos = (⟨(readN msg pos).1, true, (readN msg pos).2.1⟩, 0) := by simp [runChk, h]
      have ih := same_names msg behind n (readN msg pos).2.1 (readN_bd msg pos).1
      rw [if_neg (by simp [h])]
      have ha := refLoop_acc msg behind n (readN msg pos).2.1 [⟨(readN msg pos).1, true⟩] []
      rw [List.append_nil] at ha
      rw [List.nil_append, ha]
      by_cases h2 : (splitL (List.replicate n ⟨1, 0⟩ ++ tailC behind) msg (readN msg pos).2.1).2 = 0
      · rw [splitL_cons_ok (by rw [hr]) (by rw [hr]; exact h2), hr, if_pos (ih.1.1 h2)]
        exact same_cons ih h2 rfl rfl
      · have h3 : (refLoop msg behind n (readN msg pos).2.1 []).2 ≠ 0 := fun e => h2 (ih.1.2 e)
        rw [splitL_cons_bad2 (by rw [hr]) (by rw [hr]; exact h2), hr, if_neg h3]
        have := refLoop_fst h3
        have e : refLoop msg behind n (readN msg pos).2.1 [] = ([], (refLoop msg behind n (readN msg pos).2.1 []).2) := Prod.ext this rfl
        rw [e]
        exact same_bad h2 h3
    · rw [if_pos h]
      have hr : runChk ⟨1, 0⟩ msg pos = (Pc.zero, (readN msg pos).2.2) := by simp [runChk, h]
      rw [splitL_cons_bad (by rw [hr]; exact h), hr]
      exact same_bad h h
/-- Bytes ahead, then names, then the tail. -/
theorem same_all (msg : List UInt8) (ahead names behind pos : Nat) (hp : pos ≤ msg.length) :
    SameP (splitL (tailC ahead ++ (List.replicate names ⟨1, 0⟩ ++ tailC behind)) msg pos) (if msg.length - pos < ahead then ([], 4) else refLoop msg behind names (pos + ahead) [⟨(msg.drop pos).take ahead, false⟩]) := by
  have ha := fun q => refLoop_acc msg behind names q [⟨(msg.drop pos).take ahead, false⟩] []
  simp only [List.append_nil] at ha
  by_cases h0 : ahead = 0
  · subst h0
    rw [if_neg (by omega), ha]
    have h1 : tailC 0 = [] := rfl
    rw [h1, List.nil_append]
    have ih := same_names msg behind names pos hp
    have e0 : pos + 0 = pos := rfl
    rw [e0]
    by_cases h2 : (refLoop msg behind names pos []).2 = 0
    · rw [if_pos h2]
      have h3 := ih.1.2 h2
      obtain ⟨h4, h5⟩ := ih.2 h3
      refine ⟨by simp [h3], fun _ => ⟨?_, ?_⟩⟩
      · rw [h4]; simp [joinR]
      · rw [h5]; simp [foldR]
    · rw [if_neg h2]; exact ih
  · have h1 : tailC ahead = [⟨0, ahead⟩] := by unfold tailC; rw [if_neg h0]
    rw [h1, List.cons_append, List.nil_append]
    by_cases h : msg.length - pos < ahead
    · have hr : runChk ⟨0, ahead⟩ msg pos = (Pc.zero, 4) := by simp [runChk, h]
      rw [if_pos h, splitL_cons_bad (by rw [hr]; decide), hr]
      exact same_bad (by decide) (by decide)
    · have hr : runChk ⟨0, ahead⟩ msg pos = (⟨(msg.drop pos).take ahead, false, pos + ahead⟩, 0) := by simp [runChk, h]
      rw [if_neg h, ha]
      have ih := same_names msg behind names (pos + ahead) (by omega)
      by_cases h2 : (splitL (List.replicate names ⟨1, 0⟩ ++ tailC behind) msg (pos + ahead)).2 = 0
      · rw [splitL_cons_ok (by rw [hr]) (by rw [hr]; exact h2), hr, if_pos (ih.1.1 h2)]
        exact same_cons ih h2 rfl rfl
      · have h3 : (refLoop msg behind names (pos + ahead) []).2 ≠ 0 := fun e => h2 (ih.1.2 e)
        rw [splitL_cons_bad2 (by rw [hr]) (by rw [hr]; exact h2), hr, if_neg h3]
        have := refLoop_fst h3
        have e : refLoop msg behind names (pos + ahead) [] = ([], (refLoop msg behind names (pos + ahead) []).2) := Prod.ext this rfl
        rw [e]
        exact same_bad h2 h3

theorem same_split (msg : List UInt8) (pos : Nat) (k : Int) (hp : pos ≤ msg.length) : SameP (splitOf msg pos k) (refPieces msg pos k) := by
  unfold splitOf refPieces
  by_cases h41 : k = 41
  · rw [if_pos h41, if_pos h41]; exact same_bad (by decide) (by decide)
  rw [if_neg h41, if_neg h41]
  by_cases h16 : k = 16
  · subst h16
    rw [if_pos rfl]
    have hc : checksOf 16 = [⟨2, 0⟩] := rfl
    rw [hc]
    by_cases h : textsOk (msg.drop pos) = true
    · have hr : runChk ⟨2, 0⟩ msg pos = (⟨msg.drop pos, false, msg.length⟩, 0) := by simp [runChk, h]
      rw [if_pos h, splitL_cons_ok (by rw [hr]) (by rw [hr]; simp [splitL]), hr]
      simp only [splitL, Nat.lt_irrefl, if_false]
      exact same_ok (by simp [textOf, joinR]) (by simp [foldP, foldR])
    · have hr : runChk ⟨2, 0⟩ msg pos = (Pc.zero, 4) := by simp [runChk, h]
      rw [if_neg h, splitL_cons_bad (by rw [hr]; decide), hr]
      exact same_bad (by decide) (by decide)
  rw [if_neg h16]
  have key : ∀ (a n b : Nat), layoutOf k = (a, n, b, true) → checksOf k = tailC a ++ (List.replicate n ⟨1, 0⟩ ++ tailC b) →
      SameP (splitL (checksOf k) msg pos) (if (layoutOf k).2.2.2 = false then ([⟨msg.drop pos, false⟩], 0) else if msg.length - pos < (layoutOf k).1 then ([], 4) else refLoop msg (layoutOf k).2.2.1 (layoutOf k).2.1 (pos + (layoutOf k).1) [⟨(msg.drop pos).take (layoutOf k).1, false⟩]) := by
    intro a n b h1 h2
    rw [h1, h2, if_neg (by simp)]
    exact same_all msg a n b pos hp
  by_cases h1 : k = 1
  · subst h1; exact key 4 0 0 rfl rfl
  by_cases h28 : k = 28
  · subst h28; exact key 16 0 0 rfl rfl
  by_cases h2 : k = 2
  · subst h2; exact key 0 1 0 rfl rfl
  by_cases h5 : k = 5
  · subst h5; exact key 0 1 0 rfl rfl
  by_cases h12 : k = 12
  · subst h12; exact key 0 1 0 rfl rfl
  by_cases h15 : k = 15
  · subst h15; exact key 2 1 0 rfl rfl
  by_cases h6 : k = 6
  · subst h6; exact key 0 2 20 rfl rfl
  by_cases h33 : k = 33
  · subst h33; exact key 6 1 0 rfl rfl
  have hL : layoutOf k = (0, 0, 0, false) := by simp [layoutOf, h1, h28, h2, h5, h12, h15, h6, h33]
  have hC : checksOf k = [⟨3, 0⟩] := by simp [checksOf, h1, h28, h2, h5, h12, h15, h6, h33, h16]
  rw [hL, hC, if_pos rfl]
  have hr : runChk ⟨3, 0⟩ msg pos = (⟨msg.drop pos, false, msg.length⟩, 0) := rfl
  rw [splitL_cons_ok (by rw [hr]) (by rw [hr]; simp [splitL]), hr]
  simp only [splitL, Nat.lt_irrefl, if_false]
  exact same_ok (by simp [textOf, joinR]) (by simp [foldP, foldR])

theorem wholeR_may (k : Int) (d : List UInt8) : (wholeR k d).isSome = rmay k d := by
  have h := same_split d 0 k (Nat.zero_le _)
  unfold wholeR rmay wholeOf
  by_cases h1 : (splitOf d 0 k).2 = 0
  · obtain ⟨h2, _⟩ := h.2 h1
    have h3 := h.1.1 h1
    by_cases h4 : textOf (splitOf d 0 k).1 = d
    · rw [if_pos ⟨h3, h2 ▸ h4⟩, if_pos ⟨h1, h4⟩]; rfl
    · rw [if_neg (fun e => h4 (h2.trans e.2)), if_neg (fun e => h4 e.2)]; rfl
  · have h3 : ¬ (refPieces d 0 k).2 = 0 := fun e => h1 (h.1.2 e)
    rw [if_neg (fun e => h3 e.1), if_neg (fun e => h1 e.1)]; rfl
theorem wholeR_fold (k : Int) (d : List UInt8) : foldR ((wholeR k d).getD []) = rfold k d := by
  have h := same_split d 0 k (Nat.zero_le _)
  unfold wholeR rfold partsOf wholeOf
  by_cases h1 : (splitOf d 0 k).2 = 0
  · obtain ⟨h2, h5⟩ := h.2 h1
    have h3 := h.1.1 h1
    by_cases h4 : textOf (splitOf d 0 k).1 = d
    · rw [if_pos ⟨h3, h2 ▸ h4⟩, if_pos ⟨h1, h4⟩]; exact h5.symm
    · rw [if_neg (fun e => h4 (h2.trans e.2)), if_neg (fun e => h4 e.2)]; rfl
  · have h3 : ¬ (refPieces d 0 k).2 = 0 := fun e => h1 (h.1.2 e)
    rw [if_neg (fun e => h3 e.1), if_neg (fun e => h1 e.1)]; rfl
end Go.Proofs.YthdlgmfeicikpaaGreatDoor
