/- Contracts of functions and plain lemmas that the proofs of this seat share (joined texts). No condition. -/
import Derived.Test.YtjmfpillnbnofaaDoorBwp
import Derived.Test.YtjmfpillnbnofaaDoorBwx
import Derived.Test.YtjmfpillnbnofaaDoorBb
import Derived.Test.YtjmfpillnbnofaaDoorBc
import Derived.Great.Walk
import Derived.Great.BuildSlice
import Derived.Test.YtjmfpillnbnofaaDoorBwy
import Derived.Test.YtjmfpillnbnofaaDoorBht
import Derived.Defers
import Derived.Recover
namespace Go.Proofs.YtjmfpillnbnofaaDoor
set_option linter.unusedSimpArgs false
set_option linter.unusedVariables false

theorem numR_ok {k : Nat} {d : List UInt8} {p v p' : Nat} (h : numR k d p = .ok (v, p')) : p' = p + k ∧ p + k ≤ d.length ∧ v = be ((d.drop p).take k) := by
  unfold numR at h
  split at h
  · cases h
  · injection h with h; injection h with h1 h2; exact ⟨h2.symm, by omega, h1.symm⟩
theorem numR_no {k : Nat} {d : List UInt8} {p x : Nat} (h : numR k d p = .error x) : x = 4 ∧ d.length < p + k := by
  unfold numR at h
  split at h
  · injection h with h; exact ⟨h.symm, by omega⟩
  · cases h
theorem numR_at {k p : Nat} {d : List UInt8} (h : p + k ≤ d.length) : numR k d p = .ok (be ((d.drop p).take k), p + k) := by unfold numR; rw [if_neg (by omega)]
theorem numR_lt {k p : Nat} {d : List UInt8} (h : d.length < p + k) : numR k d p = .error 4 := by unfold numR; rw [if_pos h]
def joinO (l : List OpD) : Except Nat (List OpD) → Except Nat (List OpD)
  | .error e => .error e
  | .ok m => .ok (l ++ m)
theorem joinO_nil (x : Except Nat (List OpD)) : joinO [] x = x := by cases x <;> rfl
theorem opt_step {d : List UInt8} {p f : Nat} (hp : p < d.length) (hf : (d.drop p).length < f) :
    (d.length < p + 4 ∧ optF f (d.drop p) = .error 4) ∨
    (p + 4 ≤ d.length ∧ d.length < p + 4 + n16 d (p + 2) ∧ optF f (d.drop p) = .error 4) ∨
    (p + 4 + n16 d (p + 2) ≤ d.length ∧ ∃ f', (d.drop (p + 4 + n16 d (p + 2))).length < f' ∧ ∀ l, joinO l (optF f (d.drop p)) = joinO (l ++ [⟨n16 d p, (d.drop (p + 4)).take (n16 d (p + 2))⟩]) (optF f' (d.drop (p + 4 + n16 d (p + 2))))) := by
  obtain ⟨D, hD⟩ : ∃ D, D = d.drop p := ⟨_, rfl⟩
  have hl : D.length = d.length - p := by rw [hD, List.length_drop]
  have h2 : d.drop (p + 2) = D.drop 2 := by rw [hD, List.drop_drop]
  have h4 : d.drop (p + 4) = D.drop 4 := by rw [hD, List.drop_drop]
  have hn : n16 d (p + 2) = be ((D.drop 2).take 2) := by unfold n16; rw [h2]
  have hn0 : n16 d p = be (D.take 2) := by unfold n16; rw [← hD]
  have h5 : d.drop (p + 4 + n16 d (p + 2)) = D.drop (4 + n16 d (p + 2)) := by rw [hD, List.drop_drop, Nat.add_assoc]
  rw [← hD] at hf ⊢
  have hne : ¬ D = [] := fun e => by rw [e] at hl; simp at hl; omega
  obtain ⟨f', rfl⟩ : ∃ f', f = f' + 1 := ⟨f - 1, by omega⟩
  have hu : optF (f' + 1) D = (if D = [] then .ok [] else if D.length < 4 then .error 4 else if D.length < 4 + be ((D.drop 2).take 2) then .error 4
    else match optF f' (D.drop (4 + be ((D.drop 2).take 2))) with
      | .error e => .error e
      | .ok l => .ok (⟨be (D.take 2), (D.drop 4).take (be ((D.drop 2).take 2))⟩ :: l)) := rfl
  rw [if_neg hne] at hu
  by_cases c1 : D.length < 4
  · rw [if_pos c1] at hu
    exact .inl ⟨by omega, hu⟩
  · rw [if_neg c1, ← hn, ← hn0] at hu
    by_cases c2 : D.length < 4 + n16 d (p + 2)
    · rw [if_pos c2] at hu
      exact .inr (.inl ⟨by omega, by omega, hu⟩)
    · rw [if_neg c2] at hu
      refine .inr (.inr ⟨by omega, f', by rw [h5, List.length_drop]; omega, fun l => ?_⟩)
      rw [hu, h5, h4]
      cases optF f' (D.drop (4 + n16 d (p + 2))) with
      | error e => rfl
      | ok m => simp [joinO]
theorem opt_end (f : Nat) (hf : 0 < f) : optF f [] = .ok [] := by
  obtain ⟨f', rfl⟩ : ∃ f', f = f' + 1 := ⟨f - 1, by omega⟩
  rfl
def joinQ (l : List QD) : Except Nat (List QD × Nat) → Except Nat (List QD × Nat)
  | .error e => .error e
  | .ok (m, p) => .ok (l ++ m, p)
theorem joinQ_nil (x : Except Nat (List QD × Nat)) : joinQ [] x = x := by rcases x with _ | ⟨_, _⟩ <;> rfl
theorem qus_step {d : List UInt8} {k p p' : Nat} {q : QD} (l : List QD) (h : quR d p = .ok (q, p')) : joinQ l (qusR d (k + 1) p) = joinQ (l ++ [q]) (qusR d k p') := by
  show joinQ l (match quR d p with
    | .error e => .error e
    | .ok (q, p) => match qusR d k p with
      | .error e => .error e
      | .ok (l, p) => .ok (q :: l, p)) = _
  rw [h]
  dsimp only
  rcases qusR d k p' with e | ⟨m, p2⟩
  · rfl
  · simp [joinQ]
theorem qus_bad {d : List UInt8} {k p x : Nat} (l : List QD) (h : quR d p = .error x) : joinQ l (qusR d (k + 1) p) = .error x := by
  show joinQ l (match quR d p with
    | .error e => .error e
    | .ok (q, p) => match qusR d k p with
      | .error e => .error e
      | .ok (l, p) => .ok (q :: l, p)) = _
  rw [h]; rfl
def joinRc (l : List RecD) : Except Nat (List RecD × Option EdD × Nat) → Except Nat (List RecD × Option EdD × Nat)
  | .error e => .error e
  | .ok (m, x, p) => .ok (l ++ m, x, p)
theorem joinRc_nil (x : Except Nat (List RecD × Option EdD × Nat)) : joinRc [] x = x := by rcases x with _ | ⟨_, _, _⟩ <;> rfl
theorem recs_step {d : List UInt8} {more : Bool} {k p p' : Nat} {ed ed' : Option EdD} {r : Option RecD} (l : List RecD) (h : recR d more ed p = .ok (r, ed', p')) : joinRc l (recsR d more (k + 1) ed p) = joinRc (l ++ r.toList) (recsR d more k ed' p') := by
  show joinRc l (match recR d more ed p with
    | .error e => .error e
    | .ok (r, ed, p) => match recsR d more k ed p with
      | .error e => .error e
      | .ok (l, ed, p) => .ok (r.toList ++ l, ed, p)) = _
  rw [h]
  dsimp only
  rcases recsR d more k ed' p' with e | ⟨m, x2, p2⟩
  · rfl
  · simp [joinRc]
theorem recs_bad {d : List UInt8} {more : Bool} {k p x : Nat} {ed : Option EdD} (l : List RecD) (h : recR d more ed p = .error x) : joinRc l (recsR d more (k + 1) ed p) = .error x := by
  show joinRc l (match recR d more ed p with
    | .error e => .error e
    | .ok (r, ed, p) => match recsR d more k ed p with
      | .error e => .error e
      | .ok (l, ed, p) => .ok (r.toList ++ l, ed, p)) = _
  rw [h]; rfl
theorem nameR_ok {d n : List UInt8} {p p' : Nat} (h : nameR d p = .ok (n, p')) : readN d p = (n, p', 0) := by
  unfold nameR at h
  split at h
  · rename_i h0
    injection h with h; injection h with h1 h2
    rw [← h1, ← h2, ← h0]
  · cases h
theorem nameR_no {d : List UInt8} {p x : Nat} (h : nameR d p = .error x) : x ≠ 0 ∧ (readN d p).2.2 = x := by
  unfold nameR at h
  split at h
  · cases h
  · rename_i h0
    injection h with h
    exact ⟨by rw [← h]; exact h0, h⟩
theorem optF_err : ∀ (f : Nat) (d : List UInt8) (k : Nat), optF f d = .error k → k = 4
  | 0, d, k, h => by cases h
  | f + 1, d, k, h => by
    have hu : optF (f + 1) d = (if d = [] then .ok [] else if d.length < 4 then .error 4 else if d.length < 4 + be ((d.drop 2).take 2) then .error 4
      else match optF f (d.drop (4 + be ((d.drop 2).take 2))) with
        | .error e => .error e
        | .ok l => .ok (⟨be (d.take 2), (d.drop 4).take (be ((d.drop 2).take 2))⟩ :: l)) := rfl
    rw [hu] at h
    split at h
    · cases h
    · split at h
      · injection h with h; exact h.symm
      · split at h
        · injection h with h; exact h.symm
        · rcases h2 : optF f (d.drop (4 + be ((d.drop 2).take 2))) with e | l
          · rw [h2] at h
            injection h with h
            subst h
            exact optF_err f _ _ h2
          · rw [h2] at h
            cases h
theorem edR_err {cls ttl k : Nat} {d : List UInt8} (h : edR cls ttl d = .error k) : k = 4 := by
  unfold edR at h
  rcases h2 : optR d with e | l
  · rw [h2] at h
    injection h with h
    subst h
    exact optF_err _ _ _ h2
  · rw [h2] at h
    cases h
section
variable {d n : List UInt8} {more : Bool} {ed : Option EdD} {p p1 p2 p3 p4 p5 ty cl tt sz x : Nat} {y : EdD}
theorem rec_no1 (h : nameR d p = .error x) : recR d more ed p = .error x := by unfold recR; rw [h]
theorem rec_no2 (h : nameR d p = .ok (n, p1)) (h1 : numR 2 d p1 = .error x) : recR d more ed p = .error x := by unfold recR; rw [h]; dsimp only; rw [h1]
theorem rec_no3 (h : nameR d p = .ok (n, p1)) (h1 : numR 2 d p1 = .ok (ty, p2)) (h2 : numR 2 d p2 = .error x) : recR d more ed p = .error x := by unfold recR; rw [h]; dsimp only; rw [h1]; dsimp only; rw [h2]
theorem rec_no4 (h : nameR d p = .ok (n, p1)) (h1 : numR 2 d p1 = .ok (ty, p2)) (h2 : numR 2 d p2 = .ok (cl, p3)) (h3 : numR 4 d p3 = .error x) : recR d more ed p = .error x := by
  unfold recR; rw [h]; dsimp only; rw [h1]; dsimp only; rw [h2]; dsimp only; rw [h3]
theorem rec_no5 (h : nameR d p = .ok (n, p1)) (h1 : numR 2 d p1 = .ok (ty, p2)) (h2 : numR 2 d p2 = .ok (cl, p3)) (h3 : numR 4 d p3 = .ok (tt, p4)) (h4 : numR 2 d p4 = .error x) : recR d more ed p = .error x := by
  unfold recR; rw [h]; dsimp only; rw [h1]; dsimp only; rw [h2]; dsimp only; rw [h3]; dsimp only; rw [h4]
theorem rec_all (h : nameR d p = .ok (n, p1)) (h1 : numR 2 d p1 = .ok (ty, p2)) (h2 : numR 2 d p2 = .ok (cl, p3)) (h3 : numR 4 d p3 = .ok (tt, p4)) (h4 : numR 2 d p4 = .ok (sz, p5)) :
    recR d more ed p = if d.length < p5 + sz then .error 4
      else if ty = 41 then
        (if more = false ∨ ed.isSome = true ∨ n ≠ [0] then .error 3
         else match edR cl tt ((d.drop p5).take sz) with
          | .error e => .error e
          | .ok x => .ok (none, some x, p5 + sz))
      else if (splitOf (d.take (p5 + sz)) p5 ty).2 = 0 then .ok (some ⟨n, ty, cl, tt, textOf (splitOf (d.take (p5 + sz)) p5 ty).1⟩, ed, p5 + sz)
      else .error (splitOf (d.take (p5 + sz)) p5 ty).2 := by
  unfold recR; rw [h]; dsimp only; rw [h1]; dsimp only; rw [h2]; dsimp only; rw [h3]; dsimp only; rw [h4]; dsimp only <;> rfl
end
theorem qusR_bd {msg : List UInt8} : ∀ {k pos p : Nat} {l : List QD}, qusR msg k pos = .ok (l, p) → ∀ q ∈ l, q.name.length ≤ 255
  | 0, pos, p, l, h => by
    have h' : (Except.ok ([], pos) : Except Nat (List QD × Nat)) = .ok (l, p) := h
    injection h' with h'; injection h' with h1 h2
    rw [← h1]; intro q hq; cases hq
  | k + 1, pos, p, l, h => by
    have hu : qusR msg (k + 1) pos = (match quR msg pos with
      | .error e => .error e
      | .ok (q, p) => match qusR msg k p with
        | .error e => .error e
        | .ok (l, p) => .ok (q :: l, p)) := rfl
    rw [hu] at h
    rcases h1 : quR msg pos with e | ⟨q, p1⟩
    · rw [h1] at h; cases h
    rw [h1] at h
    dsimp only at h
    rcases h2 : qusR msg k p1 with e | ⟨l2, p2⟩
    · rw [h2] at h; cases h
    rw [h2] at h
    dsimp only at h
    injection h with h; injection h with h3 h4
    rw [← h3]
    intro q' hq'
    rcases List.mem_cons.1 hq' with rfl | hq'
    · unfold quR at h1
      rcases h5 : nameR msg pos with e | ⟨n, p5⟩
      · rw [h5] at h1; cases h1
      rw [h5] at h1
      dsimp only at h1
      rcases h6 : numR 2 msg p5 with e | ⟨t, p6⟩
      · rw [h6] at h1; cases h1
      rw [h6] at h1
      dsimp only at h1
      rcases h7 : numR 2 msg p6 with e | ⟨c, p7⟩
      · rw [h7] at h1; cases h1
      rw [h7] at h1
      dsimp only at h1
      injection h1 with h1; injection h1 with h8 h9
      have := (readN_bd msg pos).2
      rw [nameR_ok h5] at this
      rw [← h8]; exact this
    · exact qusR_bd h2 q' hq'
theorem textOf_len (l : List Pc) (b : Nat) (h : ∀ p ∈ l, p.text.length ≤ b) : (textOf l).length ≤ l.length * b := by
  induction l with
  | nil => simp [textOf]
  | cons x l ih =>
    have h1 := h x (by simp)
    have h2 := ih (fun p hp => h p (by simp [hp]))
    simp only [textOf, List.flatMap_cons, List.length_append, List.length_cons, Nat.succ_mul] at h2 ⊢
    omega
theorem recR_bd {msg : List UInt8} (hm : msg.length ≤ 65535) {more : Bool} {ed ed' : Option EdD} {pos p : Nat} {r : RecD} (h : recR msg more ed pos = .ok (some r, ed', p)) : r.name.length ≤ 255 ∧ r.data.length ≤ 262144 := by
  rcases h1 : nameR msg pos with e | ⟨n, p1⟩
  · rw [rec_no1 h1] at h; cases h
  rcases h2 : numR 2 msg p1 with e | ⟨ty, p2⟩
  · rw [rec_no2 h1 h2] at h; cases h
  rcases h3 : numR 2 msg p2 with e | ⟨cl, p3⟩
  · rw [rec_no3 h1 h2 h3] at h; cases h
  rcases h4 : numR 4 msg p3 with e | ⟨tt, p4⟩
  · rw [rec_no4 h1 h2 h3 h4] at h; cases h
  rcases h5 : numR 2 msg p4 with e | ⟨sz, p5⟩
  · rw [rec_no5 h1 h2 h3 h4 h5] at h; cases h
  rw [rec_all h1 h2 h3 h4 h5] at h
  split at h
  · cases h
  · split at h
    · split at h
      · cases h
      · rcases h6 : edR cl tt ((msg.drop p5).take sz) with e | y
        · rw [h6] at h; cases h
        · rw [h6] at h
          dsimp only at h
          injection h with h; injection h with h _; cases h
    · split at h
      · injection h with h; injection h with h h'
        injection h with h
        rw [← h]
        have hn := (readN_bd msg pos).2
        rw [nameR_ok h1] at hn
        refine ⟨hn, ?_⟩
        have hl : (msg.take (p5 + sz)).length ≤ 65535 := by rw [List.length_take]; omega
        have hp5 : p5 ≤ (msg.take (p5 + sz)).length := by have := (numR_ok h5).2.1; have := (numR_ok h5).1; rw [List.length_take]; omega
        have hb := splitOf_bd (msg.take (p5 + sz)) p5 ty hp5
        have := textOf_len _ _ hb.2
        have h3 : (splitOf (msg.take (p5 + sz)) p5 ty).1.length * ((msg.take (p5 + sz)).length + 255) ≤ 3 * (65535 + 255) := Nat.mul_le_mul hb.1 (by omega)
        dsimp only
        omega
      · cases h
theorem recsR_bd {msg : List UInt8} (hm : msg.length ≤ 65535) {more : Bool} : ∀ {k : Nat} {ed ed' : Option EdD} {pos p : Nat} {l : List RecD}, recsR msg more k ed pos = .ok (l, ed', p) → l.length ≤ k ∧ ∀ r ∈ l, r.name.length ≤ 255 ∧ r.data.length ≤ 262144
  | 0, ed, ed', pos, p, l, h => by
    have h' : (Except.ok ([], ed, pos) : Except Nat (List RecD × Option EdD × Nat)) = .ok (l, ed', p) := h
    injection h' with h'; injection h' with h1 h2
    rw [← h1]; exact ⟨Nat.le_refl _, fun r hr => by cases hr⟩
  | k + 1, ed, ed', pos, p, l, h => by
    have hu : recsR msg more (k + 1) ed pos = (match recR msg more ed pos with
      | .error e => .error e
      | .ok (r, ed, p) => match recsR msg more k ed p with
        | .error e => .error e
        | .ok (l, ed, p) => .ok (r.toList ++ l, ed, p)) := rfl
    rw [hu] at h
    rcases h1 : recR msg more ed pos with e | ⟨r, ed1, p1⟩
    · rw [h1] at h; cases h
    rw [h1] at h
    dsimp only at h
    rcases h2 : recsR msg more k ed1 p1 with e | ⟨l2, ed2, p2⟩
    · rw [h2] at h; cases h
    rw [h2] at h
    dsimp only at h
    injection h with h; injection h with h3 h4
    have ih := recsR_bd hm h2
    rw [← h3]
    rcases r with _ | r
    · exact ⟨by simp only [Option.toList_none, List.nil_append]; omega, by simpa using ih.2⟩
    · refine ⟨by simp only [Option.toList_some, List.cons_append, List.nil_append, List.length_cons]; omega, fun r' hr => ?_⟩
      simp only [Option.toList_some, List.cons_append, List.nil_append, List.mem_cons] at hr
      rcases hr with rfl | hr
      · exact recR_bd hm h1
      · exact ih.2 r' hr
section
variable {msg : List UInt8} {qs : List QD} {a u xs : List RecD} {e1 e2 e3 : Option EdD} {p p1 p2 p3 x : Nat} {m : MsgD}
theorem body_no1 (h : qusR msg (n16 msg 4) 12 = .error x) : bodyR msg = .error x := by unfold bodyR; rw [h]
theorem body_no2 (h : qusR msg (n16 msg 4) 12 = .ok (qs, p)) (h1 : recsR msg false (n16 msg 6) none p = .error x) : bodyR msg = .error x := by unfold bodyR; rw [h]; dsimp only; rw [h1]
theorem body_no3 (h : qusR msg (n16 msg 4) 12 = .ok (qs, p)) (h1 : recsR msg false (n16 msg 6) none p = .ok (a, e1, p1)) (h2 : recsR msg false (n16 msg 8) e1 p1 = .error x) : bodyR msg = .error x := by
  unfold bodyR; rw [h]; dsimp only; rw [h1]; dsimp only; rw [h2]
theorem body_no4 (h : qusR msg (n16 msg 4) 12 = .ok (qs, p)) (h1 : recsR msg false (n16 msg 6) none p = .ok (a, e1, p1)) (h2 : recsR msg false (n16 msg 8) e1 p1 = .ok (u, e2, p2)) (h3 : recsR msg true (n16 msg 10) e2 p2 = .error x) : bodyR msg = .error x := by
  unfold bodyR; rw [h]; dsimp only; rw [h1]; dsimp only; rw [h2]; dsimp only; rw [h3]
theorem body_yes (h : qusR msg (n16 msg 4) 12 = .ok (qs, p)) (h1 : recsR msg false (n16 msg 6) none p = .ok (a, e1, p1)) (h2 : recsR msg false (n16 msg 8) e1 p1 = .ok (u, e2, p2)) (h3 : recsR msg true (n16 msg 10) e2 p2 = .ok (xs, e3, p3)) :
    bodyR msg = .ok (⟨fromN (n16 msg 0) (n16 msg 2), qs, a, u, xs, e3.isSome, e3.getD edNone⟩, p3) := by
  unfold bodyR; rw [h]; dsimp only; rw [h1]; dsimp only; rw [h2]; dsimp only; rw [h3]
theorem dec_no (h1 : ¬ 65535 < msg.length) (h2 : ¬ msg.length < 12) (h : bodyR msg = .error x) : decR msg = .error x := by
  unfold decR; rw [if_neg h1, if_neg h2, h]
theorem dec_yes (h1 : ¬ 65535 < msg.length) (h2 : ¬ msg.length < 12) (h : bodyR msg = .ok (m, p)) : decR msg = if p < msg.length then .error 5 else if encErr m = 0 then .ok m else .error (encErr m) := by
  unfold decR; rw [if_neg h1, if_neg h2, h]
theorem qu_no1 (h : nameR msg p = .error x) : quR msg p = .error x := by unfold quR; rw [h]
theorem qu_no2 {n : List UInt8} (h : nameR msg p = .ok (n, p1)) (h1 : numR 2 msg p1 = .error x) : quR msg p = .error x := by unfold quR; rw [h]; dsimp only; rw [h1]
theorem qu_no3 {n : List UInt8} {t : Nat} (h : nameR msg p = .ok (n, p1)) (h1 : numR 2 msg p1 = .ok (t, p2)) (h2 : numR 2 msg p2 = .error x) : quR msg p = .error x := by unfold quR; rw [h]; dsimp only; rw [h1]; dsimp only; rw [h2]
theorem qu_yes {n : List UInt8} {t c : Nat} (h : nameR msg p = .ok (n, p1)) (h1 : numR 2 msg p1 = .ok (t, p2)) (h2 : numR 2 msg p2 = .ok (c, p3)) : quR msg p = .ok (⟨n, t, c⟩, p3) := by unfold quR; rw [h]; dsimp only; rw [h1]; dsimp only; rw [h2]
end
end Go.Proofs.YtjmfpillnbnofaaDoor
namespace Go.Proofs.YtjmfpillnbnofaaDoor
set_option linter.unusedSimpArgs false
set_option linter.unusedVariables false
open Go.RowKit
set_option maxRecDepth 100000

section
variable {P : Program}
theorem results_row2 {fn : Func} {p q u : Tmp} {ty ty2 : TypeId} (h : fn.results = #[.cell p ty, .cell q ty2, .tmp u]) (tmps : Array Value) (w : World) (g g2 : Nat) (t t2 : TypeId) (cs cs2 : Array Value) (fr fr2 : Nat × Nat) (d d2 : TypeDesc)
    (hp : tmps.getD p undef = .pointer (some ⟨g, 0, none⟩)) (hg : w.heap[g]? = some (.cells cs t fr))
    (hu : P.underlying ty = some d) (hd : (match d with | .struct _ | .array _ _ => true | _ => false) = true) (hi : (P.info? ty).map (·.size) = some cs.size)
    (hq : tmps.getD q undef = .pointer (some ⟨g2, 0, none⟩)) (hg2 : w.heap[g2]? = some (.cells cs2 t2 fr2))
    (hu2 : P.underlying ty2 = some d2) (hd2 : (match d2 with | .struct _ | .array _ _ => true | _ => false) = true) (hi2 : (P.info? ty2).map (·.size) = some cs2.size) :
    (results fn tmps).run P w = .ok (.tuple #[.agg cs, .agg cs2, tmps.getD u undef]) w := by
  have hp' : tmps[p]?.getD undef = .pointer (some ⟨g, 0, none⟩) := by simpa using hp
  have hq' : tmps[q]?.getD undef = .pointer (some ⟨g2, 0, none⟩) := by simpa using hq
  simp [results, h, hp', hq', asAddr, run_loadVar_row w g t ty cs fr d hg hu hd hi, run_loadVar_row w g2 t2 ty2 cs2 fr2 d2 hg2 hu2 hd2 hi2]
theorem results_row1 {fn : Func} {p u : Tmp} {ty : TypeId} (h : fn.results = #[.cell p ty, .tmp u]) (tmps : Array Value) (w : World) (g : Nat) (t : TypeId) (cs : Array Value) (fr : Nat × Nat) (d : TypeDesc)
    (hp : tmps.getD p undef = .pointer (some ⟨g, 0, none⟩)) (hg : w.heap[g]? = some (.cells cs t fr))
    (hu : P.underlying ty = some d) (hd : (match d with | .struct _ | .array _ _ => true | _ => false) = true) (hi : (P.info? ty).map (·.size) = some cs.size) :
    (results fn tmps).run P w = .ok (.tuple #[.agg cs, tmps.getD u undef]) w := by
  have hp' : tmps[p]?.getD undef = .pointer (some ⟨g, 0, none⟩) := by simpa using hp
  simp [results, h, hp', asAddr, run_loadVar_row w g t ty cs fr d hg hu hd hi]
end
/-- A cursor's row. -/
abbrev cuRow (d : List UInt8) (p : Nat) : Array Value := #[S d, .int .i64 (p : Int)]
/-- All blocks stay, but the two told. -/
def KeptB (g cp : Nat) (w w' : World) : Prop := w.heap.size ≤ w'.heap.size ∧ ∀ b, b < w.heap.size → b ≠ g → b ≠ cp → w'.heap[b]? = w.heap[b]?
theorem KeptB.refl (g cp : Nat) (w : World) : KeptB g cp w w := ⟨Nat.le_refl _, fun _ _ _ _ => rfl⟩
theorem KeptB.trans {g cp : Nat} {a b c : World} (h : KeptB g cp a b) (k : KeptB g cp b c) : KeptB g cp a c := ⟨Nat.le_trans h.1 k.1, fun x hx h1 h2 => (k.2 x (Nat.lt_of_lt_of_le hx h.1) h1 h2).trans (h.2 x hx h1 h2)⟩
theorem KeptB.ext {g cp : Nat} {w w' : World} (h : Ext w w') : KeptB g cp w w' := ⟨h.size, fun b hb _ _ => h.block b hb⟩
theorem KeptB.two {g cp : Nat} {w w' : World} (h : KeptB cp cp w w') : KeptB g cp w w' := ⟨h.1, fun b hb _ h2 => h.2 b hb h2 h2⟩
theorem KeptB.set {g cp : Nat} (w : World) (j : Nat) (u : Value) : KeptB g cp w (w.setCell ⟨cp, j, none⟩ u) := ⟨by simp, fun b _ _ h2 => Below.heap_setCell w ⟨cp, j, none⟩ u b h2⟩
theorem KeptB.setg {g cp : Nat} (w : World) (j : Nat) (u : Value) : KeptB g cp w (w.setCell ⟨g, j, none⟩ u) := ⟨by simp, fun b _ h1 _ => Below.heap_setCell w ⟨g, j, none⟩ u b h1⟩
theorem KeptB.row {g cp b : Nat} {w w' : World} {o : Obj} (h : KeptB g cp w w') (hb : w.heap[b]? = some o) (h1 : b ≠ g) (h2 : b ≠ cp) : w'.heap[b]? = some o := (h.2 b (Array.getElem?_eq_some_iff.1 hb).1 h1 h2).trans hb
theorem KeptB.grown {g cp : Nat} {W w w' : World} {lo n c sz : Nat} {e : TypeId} {A : Option Addr} {xs : List Value} (hk : KeptB g cp W w) (ho : Own w lo e sz A n c xs) (hlo : W.heap.size ≤ lo) (hg : w.grownBy w' (Value.slice A n c).ownBlock) : KeptB g cp W w' := by
  refine ⟨Nat.le_trans hk.1 hg.size, fun b hb h1 h2 => ?_⟩
  refine (hg.block b (Nat.lt_of_lt_of_le hb hk.1) (fun e => ?_)).trans (hk.2 b hb h1 h2)
  have := (ho.blk b e.symm).1
  omega
theorem Rd.keptB {g cp : Nat} {w w' : World} {lo sz n : Nat} {A : Option Addr} {xs : List Value} (h : Rd w lo sz A n xs) (hk : KeptB g cp w w') (h1 : g < lo) (h2 : cp < lo) : Rd w' lo sz A n xs :=
  h.keep hk.1 fun b o hb hlo => by
    have := hk.2 b hb (by omega) (by omega)
    simp only [World.cell?, this]
theorem Own.keptB {g cp : Nat} {w w' : World} {lo sz n c : Nat} {e : TypeId} {A : Option Addr} {xs : List Value} (h : Own w lo e sz A n c xs) (hk : KeptB g cp w w') (h1 : g < lo) (h2 : cp < lo) : Own w' lo e sz A n c xs := by
  refine ⟨h.1, ?_⟩
  rcases h.2 with h3 | ⟨b, cap, cur, h3, hb, hh, h4⟩
  · exact .inl h3
  · exact .inr ⟨b, cap, cur, h3, hb, hk.row hh (by omega) (by omega), h4⟩
/-- A call has moved the cursor in block cp to p; all other blocks stay. -/
structure StX (cp : Nat) (d : List UInt8) (p : Nat) (w w' : World) : Prop where
  row : w'.heap[cp]? = some (.cells (cuRow d p) 111)
  kept : KeptB cp cp w w'
  below : Below cp w w'
theorem cur_row {w : World} {cp p : Nat} {d : List UInt8} (h : w.heap[cp]? = some (.cells (cuRow d p) 111)) : w.cell? ⟨cp, 0, none⟩ = some (S d) ∧ w.cell? ⟨cp, 1, none⟩ = some (.int .i64 (p : Int)) ∧ w.frozen? ⟨cp, 1, none⟩ = false := by
  refine ⟨?_, ?_, ?_⟩ <;> simp [World.cell?, World.frozen?, h]
theorem StX.set {w : World} {cp p : Nat} {d : List UInt8} (h : w.heap[cp]? = some (.cells (cuRow d p) 111)) (q : Nat) {m : Int} {k : Nat} (e : m = (k : Int)) : StX cp d k w ((w.drewN q).setCell ⟨cp, 1, none⟩ (.int .i64 m)) := by
  subst e
  have h' : (w.drewN q).heap[cp]? = some (.cells (cuRow d p) 111) := h
  exact ⟨row_set h' 1 _, KeptB.set (w.drewN q) 1 _, Below.setCell (⟨rfl, rfl, rfl, Nat.le_refl _, fun _ _ => rfl⟩ : Below cp w (w.drewN q)) (Nat.le_refl _) _⟩
set_option maxHeartbeats 1000000 in
theorem cx_two {w : World} {cp p v p' : Nat} {d : List UInt8} (h : w.heap[cp]? = some (.cells (cuRow d p) 111)) (hd : d.length ≤ maxLen) (hn : numR 2 d p = .ok (v, p')) :
    Calls Tryd.prog 27 #[.pointer (some ⟨cp, 0, none⟩)] w fun e w' => e = .returned (.tuple #[.int .u16 (v : Int), .int .i64 0]) ∧ StX cp d p' w w' := by
  have hv := numR2_ok hn
  obtain ⟨h1, h2, h3⟩ := numR_ok hn
  obtain ⟨c0, c1, cf⟩ := cur_row h
  have HV := Lib.hid (cur_value cp d p 2 w hd c0 c1 cf (by omega) h2 (by omega))
  rw [← h3] at HV
  have hvb : (v : Int) ≤ 65535 := by omega
  have HS := Lib.hid (fun q => StX.set h q (m := (p : Int) + 2) (k := p') (by omega))
  clear h hd hn hv h1 h2 h3 c0 c1 cf
  go_enter Tryd.func27, Tryd.ntmps27
  go_wp2_with (go_at_call 42; refine HV.out.mono ?_; rintro e w' ⟨rfl, q, rfl⟩)
  go_ret2
  exact ⟨rfl, HS.out q⟩
set_option maxHeartbeats 1000000 in
theorem cx_two_no {w : World} {cp p x : Nat} {d : List UInt8} (h : w.heap[cp]? = some (.cells (cuRow d p) 111)) (hg : Laid w) (hd : d.length ≤ maxLen) (hp : p ≤ d.length) (hn : numR 2 d p = .error x) :
    Calls Tryd.prog 27 #[.pointer (some ⟨cp, 0, none⟩)] w fun e w' => e = .returned (.tuple #[.int .u16 0, .int .i64 4]) ∧ Ext w w' := by
  obtain ⟨h1, h2⟩ := numR_no hn
  obtain ⟨c0, c1, cf⟩ := cur_row h
  have HV := Lib.hid (cur_value_short cp d p 2 w hg hd c0 c1 hp h2 (by omega))
  clear h hd hn h1 h2 c0 c1 cf hp
  go_enter Tryd.func27, Tryd.ntmps27
  go_wp2_with (go_at_call 42; refine HV.out.mono ?_; rintro e w' ⟨rfl, hE⟩)
  go_ret2
  exact ⟨rfl, hE⟩
set_option maxHeartbeats 1000000 in
theorem cx_four {w : World} {cp p v p' : Nat} {d : List UInt8} (h : w.heap[cp]? = some (.cells (cuRow d p) 111)) (hd : d.length ≤ maxLen) (hn : numR 4 d p = .ok (v, p')) :
    Calls Tryd.prog 59 #[.pointer (some ⟨cp, 0, none⟩)] w fun e w' => e = .returned (.tuple #[.int .u32 (v : Int), .int .i64 0]) ∧ StX cp d p' w w' := by
  have hv := numR4_ok hn
  obtain ⟨h1, h2, h3⟩ := numR_ok hn
  obtain ⟨c0, c1, cf⟩ := cur_row h
  have HV := Lib.hid (cur_value cp d p 4 w hd c0 c1 cf (by omega) h2 (by omega))
  rw [← h3] at HV
  have HS := Lib.hid (fun q => StX.set h q (m := (p : Int) + 4) (k := p') (by omega))
  clear h hd hn hv h1 h2 h3 c0 c1 cf
  go_enter Tryd.func59, Tryd.ntmps59
  go_wp2_with (go_at_call 42; refine HV.out.mono ?_; rintro e w' ⟨rfl, q, rfl⟩)
  go_ret2
  exact ⟨rfl, HS.out q⟩
set_option maxHeartbeats 1000000 in
theorem cx_four_no {w : World} {cp p x : Nat} {d : List UInt8} (h : w.heap[cp]? = some (.cells (cuRow d p) 111)) (hg : Laid w) (hd : d.length ≤ maxLen) (hp : p ≤ d.length) (hn : numR 4 d p = .error x) :
    Calls Tryd.prog 59 #[.pointer (some ⟨cp, 0, none⟩)] w fun e w' => e = .returned (.tuple #[.int .u32 0, .int .i64 4]) ∧ Ext w w' := by
  obtain ⟨h1, h2⟩ := numR_no hn
  obtain ⟨c0, c1, cf⟩ := cur_row h
  have HV := Lib.hid (cur_value_short cp d p 4 w hg hd c0 c1 hp h2 (by omega))
  clear h hd hn h1 h2 c0 c1 cf hp
  go_enter Tryd.func59, Tryd.ntmps59
  go_wp2_with (go_at_call 42; refine HV.out.mono ?_; rintro e w' ⟨rfl, hE⟩)
  go_ret2
  exact ⟨rfl, hE⟩
theorem cx_left {w : World} {cp p : Nat} {d : List UInt8} (h : w.heap[cp]? = some (.cells (cuRow d p) 111)) (hd : d.length ≤ maxLen) (hp : p ≤ d.length) :
    Calls Tryd.prog 47 #[.pointer (some ⟨cp, 0, none⟩)] w fun e w' => e = .returned (.int .i64 ((d.length - p : Nat) : Int)) ∧ Ext w w' := by
  obtain ⟨c0, c1, cf⟩ := cur_row h
  unfold maxLen at hd
  have hs : IntKind.i64.wrap ((d.length : Int) - p) = (d.length : Int) - p := IntWalk.i64_in _ (by omega)
  have e1 : ((d.length - p : Nat) : Int) = (d.length : Int) - p := by omega
  rw [e1]
  clear h e1
  go_enter Tryd.func47, Tryd.ntmps47
  go_wp2
  go_quiet (fail)
  go_wp2
  go_ret
  exact ⟨rfl, by (repeat (first | with_reducible exact Ext.refl _ | with_reducible assumption | with_reducible refine Ext.alloc ?_ _ | with_reducible refine Ext.drewN ?_ _ | with_reducible refine Ext.drew ?_ | (with_reducible refine Ext.setCell ?_ ?hp _; case hp => (simp <;> omega))))⟩
theorem cx_take {w : World} {cp p : Nat} {d : List UInt8} (m : Nat) (h : w.heap[cp]? = some (.cells (cuRow d p) 111)) (hd : d.length ≤ maxLen) (hm : p + m ≤ d.length) :
    Calls Tryd.prog 43 #[.pointer (some ⟨cp, 0, none⟩), .int .i64 m] w fun e w' => e = .returned (.tuple #[S ((d.drop p).take m), .int .i64 0]) ∧ StX cp d (p + m) w w' := by
  obtain ⟨c0, c1, cf⟩ := cur_row h
  exact (cur_Take cp d p m w hd c0 c1 cf (by omega) hm).mono fun _ _ ⟨he, q, hw⟩ => by
    subst hw
    exact ⟨he, StX.set h q (by omega)⟩
theorem cx_take_no {w : World} {cp p : Nat} {d : List UInt8} (m : Nat) (h : w.heap[cp]? = some (.cells (cuRow d p) 111)) (hg : Laid w) (hd : d.length ≤ maxLen) (hm2 : m ≤ maxLen) (hp : p ≤ d.length) (hm : d.length < p + m) :
    Calls Tryd.prog 43 #[.pointer (some ⟨cp, 0, none⟩), .int .i64 m] w fun e w' => e = .returned (.tuple #[S [], .int .i64 4]) ∧ Ext w w' := by
  obtain ⟨c0, c1, cf⟩ := cur_row h
  exact cur_Take_short cp d p m w hg hd hm2 c0 c1 hp hm
theorem cx_at {w : World} {cp p : Nat} {d : List UInt8} (h : w.heap[cp]? = some (.cells (cuRow d p) 111)) :
    Calls Tryd.prog 57 #[.pointer (some ⟨cp, 0, none⟩)] w fun e w' => e = .returned (.int .i64 p) ∧ w = w' := cur_at cp p w (cur_row h).2.1
theorem cx_seek {w : World} {cp p : Nat} {d : List UInt8} (m : Nat) (h : w.heap[cp]? = some (.cells (cuRow d p) 111)) (hd : d.length ≤ maxLen) (hm : m ≤ d.length) :
    Calls Tryd.prog 58 #[.pointer (some ⟨cp, 0, none⟩), .int .i64 m] w fun e w' => e = .returned (.int .i64 0) ∧ StX cp d m w w' := by
  obtain ⟨c0, c1, cf⟩ := cur_row h
  exact (cur_seek cp d p m w hd c0 c1 cf (by omega) (by omega)).mono fun _ _ ⟨he, hw⟩ => by
    subst hw
    exact ⟨he, StX.set h 0 rfl⟩
theorem cx_new (d : List UInt8) (w : World) :
    Calls Tryd.prog 26 #[S d] w fun e w' => e = .returned (.pointer (some ⟨w.heap.size, 0, none⟩)) ∧ w'.heap[w.heap.size]? = some (.cells (cuRow d 0) 111) ∧ Ext w w' ∧ w'.heap.size = w.heap.size + 1 :=
  (cur_new d w).mono fun _ _ ⟨he, hw⟩ => by
    subst hw
    exact ⟨he, heap_alloc_new _ _, (Ext.refl _).alloc _, by simp⟩
end Go.Proofs.YtjmfpillnbnofaaDoor
namespace Go.Proofs.YtjmfpillnbnofaaDoor
set_option linter.unusedSimpArgs false
set_option linter.unusedVariables false
open Go.RowKit
set_option maxRecDepth 100000

/-- What rdata.Read answers of the parts R. -/
def RdrPost (R : List Pc × Nat) (w : World) (e : Ending) (w' : World) : Prop := e = .returned (.tuple #[S (if R.2 = 0 then textOf R.1 else []), .int .i64 (R.2 : Nat)]) ∧ Ext w w'
set_option maxHeartbeats 1000000 in
theorem rdata_read (msg : List UInt8) (at_ n : Nat) (kind : Int) (w : World) (hg : Laid w) (hl : msg.length ≤ 1048576) (hn : at_ + n ≤ msg.length) :
    Calls Tryd.prog 61 #[S msg, .int .i64 at_, .int .i64 n, .int .u16 kind] w (RdrPost (splitOf (msg.take (at_ + n)) at_ kind) w) := by
  have hlt : (msg.take (at_ + n)).length = at_ + n := by rw [List.length_take]; omega
  have Hs := Lib.hid (rdata_split (msg.take (at_ + n)) at_ kind w hg (by omega) (by omega))
  have hbd := splitOf_bd (msg.take (at_ + n)) at_ kind (by omega)
  generalize splitOf (msg.take (at_ + n)) at_ kind = R at *
  obtain ⟨l, er⟩ := R
  dsimp only at *
  rw [hlt] at hbd
  have h1 : (0 : Int) ≤ (at_ : Int) := by omega
  have h2 : (0 : Int) ≤ (n : Int) := by omega
  have hs : IntKind.i64.wrap ((msg.length : Int) - at_) = (msg.length : Int) - at_ := IntWalk.i64_in _ (by omega)
  have hs2 : IntKind.i64.wrap ((at_ : Int) + n) = (at_ : Int) + n := IntWalk.i64_in _ (by omega)
  have h3 : ¬ ((msg.length : Int) - at_ < n) := by omega
  have e2 : ((at_ : Int) + n).toNat = at_ + n := by omega
  have e3 : (0 : Int) ≤ (at_ : Int) + n := by omega
  have e4 : (at_ : Int) + n ≤ msg.length := by omega
  have Hb := Lib.hid (show l.length ≤ 3 ∧ ∀ p ∈ l, p.text.length ≤ 2097152 from ⟨hbd.1, fun p hp => Nat.le_trans (hbd.2 p hp) (by omega)⟩)
  clear hbd hlt hl hn
  by_cases her : er = 0
  · subst her
    go_enter Tryd.func61, Tryd.ntmps61
    go_wp2_with fail
    refine Hs.out.mono ?_; rintro e w1 ⟨v, rfl, hP, hE1⟩
    go_wp2_with fail
    refine (rdata_text _ v l w1 hP Hb.out.1 Hb.out.2).mono ?_; rintro e w2 ⟨rfl, hE2⟩
    go_wp2_with fail
    go_ret2
    exact ⟨rfl, hE1.trans hE2⟩
  · have f1 : ((er : Int) == 0) = false := len_ne her
    have Her := Lib.hid her
    clear her
    go_enter Tryd.func61, Tryd.ntmps61
    go_wp2_with fail
    refine Hs.out.mono ?_; rintro e w1 ⟨v, rfl, hP, hE1⟩
    go_wp2_with fail
    go_ret2
    exact ⟨by dsimp only; rw [if_neg Her.out]; rfl, hE1⟩
theorem info_opt : (Tryd.prog.info? 95).map (fun i => (i.zero, i.size, i.bytes)) = some (some (.agg #[.int .u16 0, .string ⟨#[]⟩]), 2, 24) := by kernel_rfl
theorem op_one (o : OpD) : ∀ u ∈ opCells o, u.oneCell' = true := by
  intro u hu
  simp only [opCells, List.mem_cons, List.not_mem_nil, or_false] at hu
  rcases hu with rfl | rfl <;> rfl
/-- EDNS as a value. -/
abbrev edV7 (e : EdD) (o : Value) : Value := .agg #[.int .u16 e.size, .int .u8 e.ext, .int .u8 e.ver, .int .u16 e.flags, o]
/-- A []api.Option of which the blocks' type is known. -/
def OptsT (w : World) (lo : Nat) (v : Value) (l : List OpD) : Prop := ∃ A c, v = .slice A l.length c ∧ l.length ≤ c ∧ c ≤ maxLen ∧ Rd w lo 2 A l.length (l.flatMap opCells) ∧ ∀ k, v.ownBlock = some k → lo ≤ k ∧ ∃ cur m, w.heap[k]? = some (.cells cur 95 m)
theorem OptsT.nil (w : World) (lo : Nat) : OptsT w lo (.slice none 0 0) [] := ⟨none, 0, rfl, Nat.le_refl _, Nat.zero_le _, ⟨rfl, fun h => absurd h (Nat.lt_irrefl _)⟩, fun k h => by cases h⟩
theorem OptsT.opts {w : World} {lo : Nat} {v : Value} {l : List OpD} (h : OptsT w lo v l) : Opts w lo v l := by
  obtain ⟨A, c, e, h3, h4, h5, _⟩ := h; exact ⟨A, c, e, h3, h4, h5⟩
theorem OptsT.by_ {w w' : World} {lo : Nat} {v : Value} {l : List OpD} (h : OptsT w lo v l) (hk : ∀ k, v.ownBlock = some k → w'.heap[k]? = w.heap[k]?) : OptsT w' lo v l := by
  obtain ⟨A, c, rfl, h3, h4, h5, h6⟩ := h
  refine ⟨A, c, rfl, h3, h4, ⟨h5.1, fun hn => ?_⟩, fun k hkk => ?_⟩
  · obtain ⟨b, off, rfl, e1, e2, e3⟩ := h5.2 hn
    have h7 := hk b rfl
    obtain ⟨_, cur, m, h8⟩ := h6 b rfl
    refine ⟨b, off, rfl, e1, (Array.getElem?_eq_some_iff.1 (h7.trans h8)).1, fun j u hu => ?_⟩
    have := e3 j u hu
    simp only [World.cell?, h7] at this ⊢
    exact this
  · obtain ⟨h7, cur, m, h8⟩ := h6 k hkk
    exact ⟨h7, cur, m, (hk k hkk).trans h8⟩
theorem OptsT.lt {w : World} {lo : Nat} {v : Value} {l : List OpD} (h : OptsT w lo v l) : ∀ k, v.ownBlock = some k → lo ≤ k ∧ k < w.heap.size := by
  obtain ⟨A, c, rfl, h3, h4, h5, h6⟩ := h
  intro k hk
  obtain ⟨h7, cur, m, h8⟩ := h6 k hk
  exact ⟨h7, (Array.getElem?_eq_some_iff.1 h8).1⟩
theorem OptsT.ext {w w' : World} {lo : Nat} {v : Value} {l : List OpD} (h : OptsT w lo v l) (hE : Ext w w') : OptsT w' lo v l := h.by_ fun k hk => hE.block k (h.lt k hk).2
theorem OptsT.keptB {g cp : Nat} {w w' : World} {lo : Nat} {v : Value} {l : List OpD} (h : OptsT w lo v l) (hk : KeptB g cp w w') (h1 : g < lo) (h2 : cp < lo) : OptsT w' lo v l :=
  h.by_ fun k hkk => by
    have := h.lt k hkk
    exact hk.2 k this.2 (by omega) (by omega)
theorem OptsT.lower {w : World} {lo lo' : Nat} {v : Value} {l : List OpD} (h : OptsT w lo v l) (hl : lo' ≤ lo) : OptsT w lo' v l := by
  obtain ⟨A, c, e, h3, h4, h5, h6⟩ := h
  exact ⟨A, c, e, h3, h4, h5.lower hl, fun k hk => ⟨Nat.le_trans hl (h6 k hk).1, (h6 k hk).2⟩⟩
theorem OptsT.grown {w w' : World} {lo lo2 n c sz : Nat} {e : TypeId} {A : Option Addr} {xs : List Value} {v : Value} {l : List OpD} (h : OptsT w lo v l) (ho : Own w lo2 e sz A n c xs) (he : e ≠ 95) (hg : w.grownBy w' (Value.slice A n c).ownBlock) : OptsT w' lo v l :=
  h.by_ fun k hk => hg.block k (h.lt k hk).2 fun hke => by
    obtain ⟨_, _, rfl, _, _, _, h6⟩ := h
    obtain ⟨_, cur, m, h8⟩ := h6 k hk
    obtain ⟨cur2, h9⟩ := ho.row k hke.symm
    rw [h8] at h9
    injection h9 with h9
    injection h9 with _ h9 _
    exact he h9.symm
/-- What edns.Read answers. -/
def EdrPost (R : Except Nat EdD) (w : World) (e : Ending) (w' : World) : Prop :=
  ((∃ k, R = .error k ∧ e = .returned (.tuple #[edV7 edNone (.slice none 0 0), .int .i64 (k : Nat)])) ∨ (∃ x v, R = .ok x ∧ e = .returned (.tuple #[edV7 x v, .int .i64 0]) ∧ OptsT w' w.heap.size v x.opts)) ∧ Ext w w'
def edTo (cls ttl : Nat) : Except Nat (List OpD) → Except Nat EdD
  | .error e => .error e
  | .ok l => .ok ⟨cls, (ttl / 16777216 : Nat), (ttl / 65536 % 256 : Nat), (ttl % 65536 : Nat), l⟩
theorem edTo_eq (cls ttl : Nat) (d : List UInt8) : edR cls ttl d = edTo cls ttl (optR d) := by
  unfold edR
  cases optR d <;> rfl
structure EdInv (w : World) (cp : Nat) (d : List UInt8) (R : Except Nat (List OpD)) (p f : Nat) (l : List OpD) (A : Option Addr) (c : Nat) (wr : World) : Prop where
  pd : p ≤ d.length
  lp : l.length ≤ p
  row : wr.heap[cp]? = some (.cells (cuRow d p) 111)
  own : Own wr (cp + 1) 95 2 A l.length c (l.flatMap opCells)
  ext : Ext w wr
  fu : (d.drop p).length < f
  eq : R = joinO l (optF f (d.drop p))
set_option maxHeartbeats 4000000 in
theorem edns_read (cls ttl : Nat) (d : List UInt8) (w : World) (hg : Laid w) (hd : d.length ≤ 1048576) (hc : cls ≤ 65535) (ht : ttl ≤ 4294967295) :
    Calls Tryd.prog 68 #[.int .u16 (cls : Int), .int .u32 (ttl : Int), S d] w (EdrPost (edR cls ttl d) w) := by
  have hd' : d.length ≤ maxLen := by unfold maxLen; omega
  obtain ⟨R, hR⟩ : ∃ R, R = optR d := ⟨_, rfl⟩
  have HRe := Lib.hid (show edR cls ttl d = edTo cls ttl R by rw [hR, edTo_eq])
  have HR := Lib.hid hR
  clear hR
  obtain ⟨i0, hi0, hz0, hz1, hz2⟩ := info_parts info_opt
  obtain ⟨W, hW⟩ : ∃ W, W = w.alloc (.cells #[.int .u16 0, .int .u8 0, .int .u8 0, .int .u16 0, .slice none 0 0] 53) := ⟨_, rfl⟩
  have hwW : Ext w W := by rw [hW]; exact (Ext.refl _).alloc _
  have r0 : W.heap[w.heap.size]? = some (.cells #[.int .u16 0, .int .u8 0, .int .u8 0, .int .u16 0, .slice none 0 0] 53) := by rw [hW]; exact heap_alloc_new _ _
  go_enter Tryd.func68, Tryd.ntmps68
  go_upto_region 1 with fail
  rw [← hW]
  clear hW
  go_wp2_with fail
  refine (cx_new d W).mono ?_; rintro e w1 ⟨rfl, hrow, hE1, hsz1⟩
  obtain ⟨cp, hcp⟩ : ∃ cp, cp = W.heap.size := ⟨_, rfl⟩
  rw [← hcp] at hrow hsz1 ⊢
  have hw1 : Ext w w1 := hwW.trans hE1
  have hwc : w.heap.size < cp := by rw [hcp]; exact Nat.lt_of_lt_of_le (Nat.lt_succ_self _) (by have := (Array.getElem?_eq_some_iff.1 r0).1; omega)
  have hcW : W.heap.size ≤ cp := by omega
  clear hcp
  go_wp2_with fail
  go_loopw [9] (fun s wr => ∃ (p f : Nat) (l : List OpD) (A : Option Addr) (c : Nat), s = .slice A l.length c ∧ EdInv W cp d R p f l A c wr) (fun s _ => d.length + 1 - lenOf s)
  case atStart => exact ⟨0, d.length + 1, [], none, 0, rfl, ⟨Nat.zero_le _, by simp, hrow, Own.nil _ _ _ _, hE1, by rw [List.drop_zero]; omega, by rw [HR.out, joinO_nil, List.drop_zero]; rfl⟩⟩
  case round =>
    obtain ⟨p, f, l, A, c, rfl, hI⟩ := hrel
    obtain ⟨wo, rfl⟩ : ∃ wo : World, wo = wr := ⟨_, rfl⟩
    have hlp := hI.lp
    have hpd := hI.pd
    have HL := Lib.hid (cx_left hI.row hd' hpd)
    by_cases hlt : p < d.length
    · have hgt : (0 : Int) < ((d.length - p : Nat) : Int) := by omega
      have HST := Lib.hid (opt_step hlt hI.fu)
      go_wp2_with fail
      refine HL.out.mono ?_; rintro e w2 ⟨rfl, hE2⟩
      have hrow2 := (hE2.block cp (Array.getElem?_eq_some_iff.1 hI.row).1).trans hI.row
      have hWo : Ext W w2 := hI.ext.trans hE2
      have hw2 : Ext w w2 := hwW.trans hWo
      have hown2 := hI.own.ext hE2
      have R0 := Lib.hid (fun V (hV : Ext W V) => (hV.block _ (Array.getElem?_eq_some_iff.1 r0).1).trans r0)
      rcases h1 : numR 2 d p with x | ⟨v1, p1⟩
      · obtain ⟨rfl, hsh⟩ := numR_no h1
        have HT := Lib.hid (cx_two_no hrow2 (hg.ext hw2) hd' hpd h1)
        have HF := Lib.hid (show R = .error 4 by
          rw [hI.eq]
          rcases HST.out with ⟨_, h⟩ | ⟨h, _⟩ | ⟨h, _⟩
          · rw [h]; rfl
          · omega
          · omega)
        clear h1
        go_wp2_with fail
        refine HT.out.mono ?_; rintro e w3 ⟨rfl, hE3⟩
        go_upto_region 6 with fail
        refine wp_region_lit ?_
        repeat (first
          | (refine Go.wpList_store_rowTo rfl 53 (.tmp 6) (.tmp 26) rfl rfl w.heap.size #[.int .u16 0, .int .u8 0, .int .u8 0, .int .u16 0, .slice none 0 0] rfl rfl 53 _ (R0.out _ (hWo.trans hE3)) (by kernel_rfl) rfl (by kernel_rfl) ?_)
          | go_step)
        (try simp only [Exit.inBlock, Exit.then])
        refine bodyPost_ret (results_row1 rfl _ _ w.heap.size _ _ _ _ rfl (setRow_heap w3 w.heap.size _ _ _ _ (R0.out _ (hWo.trans hE3))) Tryd.underlying53 rfl (by kernel_rfl)) rfl ?_
        exact ⟨.inl ⟨4, by rw [HRe.out, HF.out]; rfl, rfl⟩, Below.grown (hw2.trans hE3) (grown_row w3 _ _) (hw2.trans hE3).size (fun k hk => by injection hk with hk; omega)⟩
      · obtain ⟨e1, hle1, hv1⟩ := numR_ok h1
        have hb1 := numR2_ok h1
        have HT := Lib.hid (cx_two hrow2 hd' h1)
        have Hv1 := Lib.hid (show v1 = n16 d p from hv1)
        subst e1
        clear h1 hv1
        go_wp2_with fail
        refine HT.out.mono ?_; rintro e w3 ⟨rfl, hst3⟩
        have hrow3 := hst3.row
        have hW3 : Ext W w3 := hWo.then hst3.below (by omega)
        have hw3 : Ext w w3 := hwW.trans hW3
        have hown3 := hown2.keptB hst3.kept (by omega) (by omega)
        clear hst3
        rcases h2 : numR 2 d (p + 2) with x | ⟨v2, p2⟩
        · obtain ⟨rfl, hsh⟩ := numR_no h2
          have HT2 := Lib.hid (cx_two_no hrow3 (hg.ext hw3) hd' hle1 h2)
          have HF := Lib.hid (show R = .error 4 by
            rw [hI.eq]
            rcases HST.out with ⟨_, h⟩ | ⟨h, _⟩ | ⟨h, _⟩
            · rw [h]; rfl
            · omega
            · omega)
          clear h2
          go_wp2_with fail
          refine HT2.out.mono ?_; rintro e w4 ⟨rfl, hE4⟩
          go_upto_region 9 with fail
          refine wp_region_lit ?_
          repeat (first
            | (refine Go.wpList_store_rowTo rfl 53 (.tmp 6) (.tmp 35) rfl rfl w.heap.size #[.int .u16 0, .int .u8 0, .int .u8 0, .int .u16 0, .slice none 0 0] rfl rfl 53 _ (R0.out _ (hW3.trans hE4)) (by kernel_rfl) rfl (by kernel_rfl) ?_)
            | go_step)
          (try simp only [Exit.inBlock, Exit.then])
          refine bodyPost_ret (results_row1 rfl _ _ w.heap.size _ _ _ _ rfl (setRow_heap w4 w.heap.size _ _ _ _ (R0.out _ (hW3.trans hE4))) Tryd.underlying53 rfl (by kernel_rfl)) rfl ?_
          exact ⟨.inl ⟨4, by rw [HRe.out, HF.out]; rfl, rfl⟩, Below.grown (hw3.trans hE4) (grown_row w4 _ _) (hw3.trans hE4).size (fun k hk => by injection hk with hk; omega)⟩
        · obtain ⟨e2, hle2, hv2⟩ := numR_ok h2
          have hb2 := numR2_ok h2
          have HT2 := Lib.hid (cx_two hrow3 hd' h2)
          have Hv2 := Lib.hid (show v2 = n16 d (p + 2) from hv2)
          subst e2
          clear h2 hv2
          rw [← Hv2.out] at HST
          go_wp2_with fail
          refine HT2.out.mono ?_; rintro e w4 ⟨rfl, hst4⟩
          have hrow4 := hst4.row
          have hW4 : Ext W w4 := hW3.then hst4.below (by omega)
          have hw4 : Ext w w4 := hwW.trans hW4
          have hown4 := hown3.keptB hst4.kept (by omega) (by omega)
          clear hst4
          by_cases h3 : d.length < p + 2 + 2 + v2
          · have HT3 := Lib.hid (cx_take_no v2 hrow4 (hg.ext hw4) hd' (by unfold maxLen; omega) hle2 h3)
            have HF := Lib.hid (show R = .error 4 by
              rw [hI.eq]
              rcases HST.out with ⟨h, _⟩ | ⟨_, _, h⟩ | ⟨h, _⟩
              · omega
              · rw [h]; rfl
              · omega)
            clear h3
            go_wp2_with fail
            refine HT3.out.mono ?_; rintro e w5 ⟨rfl, hE5⟩
            go_upto_region 12 with fail
            refine wp_region_lit ?_
            repeat (first
              | (refine Go.wpList_store_rowTo rfl 53 (.tmp 6) (.tmp 46) rfl rfl w.heap.size #[.int .u16 0, .int .u8 0, .int .u8 0, .int .u16 0, .slice none 0 0] rfl rfl 53 _ (R0.out _ (hW4.trans hE5)) (by kernel_rfl) rfl (by kernel_rfl) ?_)
              | go_step)
            (try simp only [Exit.inBlock, Exit.then])
            refine bodyPost_ret (results_row1 rfl _ _ w.heap.size _ _ _ _ rfl (setRow_heap w5 w.heap.size _ _ _ _ (R0.out _ (hW4.trans hE5))) Tryd.underlying53 rfl (by kernel_rfl)) rfl ?_
            exact ⟨.inl ⟨4, by rw [HRe.out, HF.out]; rfl, rfl⟩, Below.grown (hw4.trans hE5) (grown_row w5 _ _) (hw4.trans hE5).size (fun k hk => by injection hk with hk; omega)⟩
          · have HT3 := Lib.hid (cx_take v2 hrow4 hd' (by omega))
            obtain ⟨f', hf', hstep⟩ : ∃ f', (d.drop (p + 4 + v2)).length < f' ∧ ∀ l, joinO l (optF f (d.drop p)) = joinO (l ++ [⟨n16 d p, (d.drop (p + 4)).take v2⟩]) (optF f' (d.drop (p + 4 + v2))) := by
              rcases HST.out with ⟨h, _⟩ | ⟨_, h, _⟩ | ⟨_, h⟩
              · omega
              · omega
              · exact h
            have HF := Lib.hid (hI.eq.trans (hstep l))
            rw [← Hv1.out] at HF
            have hp4 : p + 2 + 2 = p + 4 := by omega
            rw [hp4] at HT3
            clear hp4 hstep HST
            go_wp2_with fail
            refine HT3.out.mono ?_; rintro e w5 ⟨rfl, hst5⟩
            have hrow5 := hst5.row
            have hW5 : Ext W w5 := hW4.then hst5.below (by omega)
            have hown5 := hown4.keptB hst5.kept (by omega) (by omega)
            have hlt5 := (Array.getElem?_eq_some_iff.1 hrow5).1
            clear hst5
            generalize (d.drop (p + 4)).take v2 = od at *
            go_wp2_with (first
              | (at_builtin
                 refine wpList_app _ rfl (.tmp 48) (.tmp 52) _ rfl (cp + 1) 95 i0 _ 2 24 Tryd.underlying51 hi0 hz0 hz1 hz2 rfl (by omega) A l.length c (l.flatMap opCells) rfl (hown5.ext ((Ext.refl _).alloc _)) 0 _ 1 1 (opCells ⟨v1, od⟩) rfl (rd_new _ _ (by simp) _ _ 1 2 rfl) (op_one _) (by omega) (by omega) (by simp; omega) ?_
                 intro A6 c6 w6 hown6 hg6 hb6 hat6)
              | fail)
            have hrow6 : w6.heap[cp]? = some (.cells (cuRow d (p + 4 + v2)) 111) := (hb6.block cp (by omega)).trans ((heap_alloc_old _ _ hlt5).trans hrow5)
            have hW6 : Ext W w6 := (hW5.alloc _).then hb6 (by omega)
            go_roundw
            case rel =>
              refine ⟨p + 4 + v2, f', l ++ [⟨v1, od⟩], A6, c6, by simp, ⟨by omega, by simp; omega, hrow6, ?_, hW6, hf', HF.out⟩⟩
              simpa using hown6
            case measure => simp [lenOf]; omega
    · have hz : ((d.length - p : Nat) : Int) = 0 := by omega
      rw [hz] at HL
      have HF := Lib.hid (show R = .ok l by
        have hd0 : d.drop p = [] := List.drop_of_length_le (by omega)
        have hfu := hI.fu
        rw [hI.eq, hd0, opt_end f (by omega)]
        simp [joinO])
      have R0 := Lib.hid (fun V (hV : Ext W V) => (hV.block _ (Array.getElem?_eq_some_iff.1 r0).1).trans r0)
      have hcap := hI.own.cap
      go_wp2_with fail
      refine HL.out.mono ?_; rintro e w2 ⟨rfl, hE2⟩
      have hW2 : Ext W w2 := hI.ext.trans hE2
      have hown2 := hI.own.ext hE2
      have hcl : (l.length : Int) ≤ (c : Int) := by omega
      go_upto_region 14 with fail
      refine wp_region_lit ?_
      repeat (first
        | (refine Go.wpList_store_rowTo rfl 53 (.tmp 6) (.tmp 69) rfl rfl w.heap.size _ rfl rfl 53 _ (R0.out _ hW2) (by kernel_rfl) rfl (by kernel_rfl) ?_)
        | go_step)
      (try simp only [Exit.inBlock, Exit.then])
      refine bodyPost_ret (results_row1 rfl _ _ w.heap.size _ _ _ _ rfl (setRow_heap w2 w.heap.size _ _ _ _ (R0.out _ hW2)) Tryd.underlying53 rfl (by kernel_rfl)) rfl ?_
      have hw2 := hwW.trans hW2
      have hk : Own (w2.setRow w.heap.size #[.int .u16 (cls : Int), .int .u8 ((ttl : Int) / 16777216), .int .u8 ((ttl : Int) / 65536 % 256), .int .u16 (IntKind.u16.wrap (ttl : Int)), .slice A l.length l.length]) (cp + 1) 95 2 A l.length c (l.flatMap opCells) :=
        hown2.kept (grown_row w2 _ _) (.inr fun he => by have := (hown2.blk _ he).1; omega)
      refine ⟨.inr ⟨⟨cls, (ttl / 16777216 : Nat), (ttl / 65536 % 256 : Nat), (ttl % 65536 : Nat), l⟩, .slice A l.length l.length, by rw [HRe.out, HF.out]; rfl, ?_, ⟨A, l.length, rfl, Nat.le_refl _, Nat.le_trans hcap.1 hcap.2, hk.rd.lower (by omega), fun k hkk => ?_⟩⟩, Below.grown hw2 (grown_row w2 _ _) hw2.size (fun k hk => by injection hk with hk; omega)⟩
      have e1 : (ttl : Int) / 16777216 = ((ttl / 16777216 : Nat) : Int) := by omega
      have e2 : (ttl : Int) / 65536 % 256 = ((ttl / 65536 % 256 : Nat) : Int) := by omega
      have e3 : IntKind.u16.wrap (ttl : Int) = ((ttl % 65536 : Nat) : Int) := by show (ttl : Int) % 65536 = _; omega
      · rw [e1, e2, e3]
        rfl
      · have hkk' : (Value.slice A l.length c).ownBlock = some k := by rw [← hkk]; cases A <;> rfl
        obtain ⟨cur, hc⟩ := hk.row k hkk'
        exact ⟨by have := (hk.blk k hkk').1; omega, cur, _, hc⟩
end Go.Proofs.YtjmfpillnbnofaaDoor
namespace Go.Proofs.YtjmfpillnbnofaaDoor
open Go.RowKit
set_option maxRecDepth 100000
set_option linter.unusedSimpArgs false
set_option linter.unusedVariables false

theorem and_bit (n k : Nat) : (n &&& 2 ^ k = 0) ↔ ¬ n / 2 ^ k % 2 = 1 := by
  have h1 : n.testBit k = decide (n / 2 ^ k % 2 = 1) := Nat.testBit_eq_decide_div_mod_eq
  constructor
  · intro h hb
    have h2 : (n &&& 2 ^ k).testBit k = true := by
      rw [Nat.testBit_and, h1, decide_eq_true hb, Nat.testBit_two_pow_self]; rfl
    rw [h] at h2
    simp at h2
  · intro hb
    apply Nat.eq_of_testBit_eq
    intro i
    rw [Nat.testBit_and, Nat.zero_testBit, Nat.testBit_two_pow]
    by_cases hk : k = i
    · subst hk
      rw [h1, decide_eq_false hb]; rfl
    · simp [hk]
theorem and_low (n : Nat) : n &&& 15 = n % 16 := by
  have := Nat.and_two_pow_sub_one_eq_mod n 4
  simpa using this
def bRow (n : Nat) : Nat → Array Value
  | 0 => #[.bool false, .bool false, .bool false, .bool false, .bool false, .bool false, .bool false, .bool false]
  | 1 => #[.bool (decide (n / 32768 % 2 = 1)), .bool false, .bool false, .bool false, .bool false, .bool false, .bool false, .bool false]
  | 2 => #[.bool (decide (n / 32768 % 2 = 1)), .bool (decide (n / 1024 % 2 = 1)), .bool false, .bool false, .bool false, .bool false, .bool false, .bool false]
  | 3 => #[.bool (decide (n / 32768 % 2 = 1)), .bool (decide (n / 1024 % 2 = 1)), .bool (decide (n / 512 % 2 = 1)), .bool false, .bool false, .bool false, .bool false, .bool false]
  | 4 => #[.bool (decide (n / 32768 % 2 = 1)), .bool (decide (n / 1024 % 2 = 1)), .bool (decide (n / 512 % 2 = 1)), .bool (decide (n / 256 % 2 = 1)), .bool false, .bool false, .bool false, .bool false]
  | 5 => #[.bool (decide (n / 32768 % 2 = 1)), .bool (decide (n / 1024 % 2 = 1)), .bool (decide (n / 512 % 2 = 1)), .bool (decide (n / 256 % 2 = 1)), .bool (decide (n / 128 % 2 = 1)), .bool false, .bool false, .bool false]
  | 6 => #[.bool (decide (n / 32768 % 2 = 1)), .bool (decide (n / 1024 % 2 = 1)), .bool (decide (n / 512 % 2 = 1)), .bool (decide (n / 256 % 2 = 1)), .bool (decide (n / 128 % 2 = 1)), .bool (decide (n / 64 % 2 = 1)), .bool false, .bool false]
  | 7 => #[.bool (decide (n / 32768 % 2 = 1)), .bool (decide (n / 1024 % 2 = 1)), .bool (decide (n / 512 % 2 = 1)), .bool (decide (n / 256 % 2 = 1)), .bool (decide (n / 128 % 2 = 1)), .bool (decide (n / 64 % 2 = 1)), .bool (decide (n / 32 % 2 = 1)), .bool false]
  | _ => #[.bool (decide (n / 32768 % 2 = 1)), .bool (decide (n / 1024 % 2 = 1)), .bool (decide (n / 512 % 2 = 1)), .bool (decide (n / 256 % 2 = 1)), .bool (decide (n / 128 % 2 = 1)), .bool (decide (n / 64 % 2 = 1)), .bool (decide (n / 32 % 2 = 1)), .bool (decide (n / 16 % 2 = 1))]
set_option maxHeartbeats 4000000 in
theorem head_from (n : Nat) (w : World) (hb : BitsAt w) (hn : n ≤ 65535) :
    Calls Tryd.prog 28 #[.int .u16 (n : Int)] w fun e w' => e = .returned (hdV (fromN 0 n)) ∧ Ext w w' := by
  go_enter Tryd.func28, Tryd.ntmps28
  go_upto_region 2 with fail
  obtain ⟨W, hW⟩ : ∃ W, W = (w.alloc (.cells #[.int .u16 0, .bool false, .int .u8 0, .bool false, .bool false, .bool false, .bool false, .bool false, .bool false, .bool false, .int .u8 0] 25)).alloc (.cells #[.bool false, .bool false, .bool false, .bool false, .bool false, .bool false, .bool false, .bool false] 91) := ⟨_, rfl⟩
  have hwW : Ext w W := by rw [hW]; exact ((Ext.refl _).alloc _).alloc _
  have hrow : W.heap[w.heap.size + 1]? = some (.cells (bRow n 0) 91) := by rw [hW]; exact heap_alloc2_new w _ _
  have hrow0 : W.heap[w.heap.size]? = some (.cells #[.int .u16 0, .bool false, .int .u8 0, .bool false, .bool false, .bool false, .bool false, .bool false, .bool false, .bool false, .int .u8 0] 25) := by
    rw [hW]
    have h1 := heap_alloc_new w (.cells #[.int .u16 0, .bool false, .int .u8 0, .bool false, .bool false, .bool false, .bool false, .bool false, .bool false, .bool false, .int .u8 0] 25)
    rw [heap_alloc_old _ _ (Array.getElem?_eq_some_iff.1 h1).1]; exact h1
  rw [← hW]
  clear hW
  obtain ⟨b0, b1, b2, b3, b4, b5, b6, b7⟩ := hb.ext hwW
  go_wp2_with fail
  clear b0 b1 b2 b3 b4 b5 b6 b7
  go_loopw [4, 5, 7] (fun _ _ s7 wr => ∃ k : Nat, k ≤ 8 ∧ s7 = .int .i64 k ∧ wr.heap[w.heap.size + 1]? = some (.cells (bRow n k) 91) ∧ wr.heap[w.heap.size]? = some (.cells #[.int .u16 0, .bool false, .int .u8 0, .bool false, .bool false, .bool false, .bool false, .bool false, .bool false, .bool false, .int .u8 0] 25) ∧ Ext w wr) (fun _ _ s7 _ => 8 - (intOf s7).toNat)
  case atStart => exact ⟨0, by omega, rfl, hrow, hrow0, hwW⟩
  case round =>
    obtain ⟨k, hk, rfl, h1, h0, hE⟩ := hrel
    obtain ⟨wo, rfl⟩ : ∃ wo : World, wo = wr := ⟨_, rfl⟩
    clear hrow hrow0
    rcases Nat.lt_or_ge k 8 with hk8 | hk8
    · rcases (by omega : k = 0 ∨ k = 1 ∨ k = 2 ∨ k = 3 ∨ k = 4 ∨ k = 5 ∨ k = 6 ∨ k = 7) with rfl | rfl | rfl | rfl | rfl | rfl | rfl | rfl
      · have hc : ((0 : Nat) : Int) = 0 := rfl
        have hix : ∀ V : World, (Instr.index 92 (.agg #[.int .u16 32768, .int .u16 1024, .int .u16 512, .int .u16 256, .int .u16 128, .int .u16 64, .int .u16 32, .int .u16 16]) (.int .i64 0)).run Tryd.prog V = .ok (.int .u16 32768) V := fun _ => by kernel_rfl
        have ha : (bits .and .u16 (n : Int) 32768 == 0) = !decide (n / 32768 % 2 = 1) := by
          rw [show (32768 : Int) = ((32768 : Nat) : Int) from rfl, u16_and_nat n 32768 (by omega) (by omega)]
          have := and_bit n 15
          rw [show 2 ^ 15 = 32768 from rfl] at this
          by_cases hbb : n / 32768 % 2 = 1
          · have h3 : n &&& 32768 ≠ 0 := fun h => (this.1 h) hbb
            rw [decide_eq_true hbb]; simpa using h3
          · rw [decide_eq_false hbb, this.2 hbb]; rfl
        have c1 : wo.cell? ⟨w.heap.size + 1, 0, none⟩ = some (.bool false) := cell_of_row wo _ 0 _ _ _ h1
        have f1 : wo.frozen? ⟨w.heap.size + 1, 0, none⟩ = false := by simp [World.frozen?, h1]
        have hv : (bits .and .u16 (n : Int) 32768 != 0) = decide (n / 32768 % 2 = 1) := by
          show (!(bits .and .u16 (n : Int) 32768 == 0)) = _
          rw [ha, Bool.not_not]
        have Hv := Lib.hid hv
        clear ha hv
        clear hc
        go_wp2_with fail
        rw [Hv.out]
        refine ⟨⟨1, by omega, rfl, (row_set h1 0 _).trans rfl, (Below.heap_setCell _ _ _ _ (by dsimp only; omega)).trans h0, Ext.setCell hE (by dsimp only; omega) _⟩, by simp [intOf]⟩
      · have hc : ((1 : Nat) : Int) = 1 := rfl
        have hix : ∀ V : World, (Instr.index 92 (.agg #[.int .u16 32768, .int .u16 1024, .int .u16 512, .int .u16 256, .int .u16 128, .int .u16 64, .int .u16 32, .int .u16 16]) (.int .i64 1)).run Tryd.prog V = .ok (.int .u16 1024) V := fun _ => by kernel_rfl
        have ha : (bits .and .u16 (n : Int) 1024 == 0) = !decide (n / 1024 % 2 = 1) := by
          rw [show (1024 : Int) = ((1024 : Nat) : Int) from rfl, u16_and_nat n 1024 (by omega) (by omega)]
          have := and_bit n 10
          rw [show 2 ^ 10 = 1024 from rfl] at this
          by_cases hbb : n / 1024 % 2 = 1
          · have h3 : n &&& 1024 ≠ 0 := fun h => (this.1 h) hbb
            rw [decide_eq_true hbb]; simpa using h3
          · rw [decide_eq_false hbb, this.2 hbb]; rfl
        have c1 : wo.cell? ⟨w.heap.size + 1, 1, none⟩ = some (.bool false) := cell_of_row wo _ 1 _ _ _ h1
        have f1 : wo.frozen? ⟨w.heap.size + 1, 1, none⟩ = false := by simp [World.frozen?, h1]
        have hv : (bits .and .u16 (n : Int) 1024 != 0) = decide (n / 1024 % 2 = 1) := by
          show (!(bits .and .u16 (n : Int) 1024 == 0)) = _
          rw [ha, Bool.not_not]
        have Hv := Lib.hid hv
        clear ha hv
        clear hc
        go_wp2_with fail
        rw [Hv.out]
        refine ⟨⟨2, by omega, rfl, (row_set h1 1 _).trans rfl, (Below.heap_setCell _ _ _ _ (by dsimp only; omega)).trans h0, Ext.setCell hE (by dsimp only; omega) _⟩, by simp [intOf]⟩
      · have hc : ((2 : Nat) : Int) = 2 := rfl
        have hix : ∀ V : World, (Instr.index 92 (.agg #[.int .u16 32768, .int .u16 1024, .int .u16 512, .int .u16 256, .int .u16 128, .int .u16 64, .int .u16 32, .int .u16 16]) (.int .i64 2)).run Tryd.prog V = .ok (.int .u16 512) V := fun _ => by kernel_rfl
        have ha : (bits .and .u16 (n : Int) 512 == 0) = !decide (n / 512 % 2 = 1) := by
          rw [show (512 : Int) = ((512 : Nat) : Int) from rfl, u16_and_nat n 512 (by omega) (by omega)]
          have := and_bit n 9
          rw [show 2 ^ 9 = 512 from rfl] at this
          by_cases hbb : n / 512 % 2 = 1
          · have h3 : n &&& 512 ≠ 0 := fun h => (this.1 h) hbb
            rw [decide_eq_true hbb]; simpa using h3
          · rw [decide_eq_false hbb, this.2 hbb]; rfl
        have c1 : wo.cell? ⟨w.heap.size + 1, 2, none⟩ = some (.bool false) := cell_of_row wo _ 2 _ _ _ h1
        have f1 : wo.frozen? ⟨w.heap.size + 1, 2, none⟩ = false := by simp [World.frozen?, h1]
        have hv : (bits .and .u16 (n : Int) 512 != 0) = decide (n / 512 % 2 = 1) := by
          show (!(bits .and .u16 (n : Int) 512 == 0)) = _
          rw [ha, Bool.not_not]
        have Hv := Lib.hid hv
        clear ha hv
        clear hc
        go_wp2_with fail
        rw [Hv.out]
        refine ⟨⟨3, by omega, rfl, (row_set h1 2 _).trans rfl, (Below.heap_setCell _ _ _ _ (by dsimp only; omega)).trans h0, Ext.setCell hE (by dsimp only; omega) _⟩, by simp [intOf]⟩
      · have hc : ((3 : Nat) : Int) = 3 := rfl
        have hix : ∀ V : World, (Instr.index 92 (.agg #[.int .u16 32768, .int .u16 1024, .int .u16 512, .int .u16 256, .int .u16 128, .int .u16 64, .int .u16 32, .int .u16 16]) (.int .i64 3)).run Tryd.prog V = .ok (.int .u16 256) V := fun _ => by kernel_rfl
        have ha : (bits .and .u16 (n : Int) 256 == 0) = !decide (n / 256 % 2 = 1) := by
          rw [show (256 : Int) = ((256 : Nat) : Int) from rfl, u16_and_nat n 256 (by omega) (by omega)]
          have := and_bit n 8
          rw [show 2 ^ 8 = 256 from rfl] at this
          by_cases hbb : n / 256 % 2 = 1
          · have h3 : n &&& 256 ≠ 0 := fun h => (this.1 h) hbb
            rw [decide_eq_true hbb]; simpa using h3
          · rw [decide_eq_false hbb, this.2 hbb]; rfl
        have c1 : wo.cell? ⟨w.heap.size + 1, 3, none⟩ = some (.bool false) := cell_of_row wo _ 3 _ _ _ h1
        have f1 : wo.frozen? ⟨w.heap.size + 1, 3, none⟩ = false := by simp [World.frozen?, h1]
        have hv : (bits .and .u16 (n : Int) 256 != 0) = decide (n / 256 % 2 = 1) := by
          show (!(bits .and .u16 (n : Int) 256 == 0)) = _
          rw [ha, Bool.not_not]
        have Hv := Lib.hid hv
        clear ha hv
        clear hc
        go_wp2_with fail
        rw [Hv.out]
        refine ⟨⟨4, by omega, rfl, (row_set h1 3 _).trans rfl, (Below.heap_setCell _ _ _ _ (by dsimp only; omega)).trans h0, Ext.setCell hE (by dsimp only; omega) _⟩, by simp [intOf]⟩
      · have hc : ((4 : Nat) : Int) = 4 := rfl
        have hix : ∀ V : World, (Instr.index 92 (.agg #[.int .u16 32768, .int .u16 1024, .int .u16 512, .int .u16 256, .int .u16 128, .int .u16 64, .int .u16 32, .int .u16 16]) (.int .i64 4)).run Tryd.prog V = .ok (.int .u16 128) V := fun _ => by kernel_rfl
        have ha : (bits .and .u16 (n : Int) 128 == 0) = !decide (n / 128 % 2 = 1) := by
          rw [show (128 : Int) = ((128 : Nat) : Int) from rfl, u16_and_nat n 128 (by omega) (by omega)]
          have := and_bit n 7
          rw [show 2 ^ 7 = 128 from rfl] at this
          by_cases hbb : n / 128 % 2 = 1
          · have h3 : n &&& 128 ≠ 0 := fun h => (this.1 h) hbb
            rw [decide_eq_true hbb]; simpa using h3
          · rw [decide_eq_false hbb, this.2 hbb]; rfl
        have c1 : wo.cell? ⟨w.heap.size + 1, 4, none⟩ = some (.bool false) := cell_of_row wo _ 4 _ _ _ h1
        have f1 : wo.frozen? ⟨w.heap.size + 1, 4, none⟩ = false := by simp [World.frozen?, h1]
        have hv : (bits .and .u16 (n : Int) 128 != 0) = decide (n / 128 % 2 = 1) := by
          show (!(bits .and .u16 (n : Int) 128 == 0)) = _
          rw [ha, Bool.not_not]
        have Hv := Lib.hid hv
        clear ha hv
        clear hc
        go_wp2_with fail
        rw [Hv.out]
        refine ⟨⟨5, by omega, rfl, (row_set h1 4 _).trans rfl, (Below.heap_setCell _ _ _ _ (by dsimp only; omega)).trans h0, Ext.setCell hE (by dsimp only; omega) _⟩, by simp [intOf]⟩
      · have hc : ((5 : Nat) : Int) = 5 := rfl
        have hix : ∀ V : World, (Instr.index 92 (.agg #[.int .u16 32768, .int .u16 1024, .int .u16 512, .int .u16 256, .int .u16 128, .int .u16 64, .int .u16 32, .int .u16 16]) (.int .i64 5)).run Tryd.prog V = .ok (.int .u16 64) V := fun _ => by kernel_rfl
        have ha : (bits .and .u16 (n : Int) 64 == 0) = !decide (n / 64 % 2 = 1) := by
          rw [show (64 : Int) = ((64 : Nat) : Int) from rfl, u16_and_nat n 64 (by omega) (by omega)]
          have := and_bit n 6
          rw [show 2 ^ 6 = 64 from rfl] at this
          by_cases hbb : n / 64 % 2 = 1
          · have h3 : n &&& 64 ≠ 0 := fun h => (this.1 h) hbb
            rw [decide_eq_true hbb]; simpa using h3
          · rw [decide_eq_false hbb, this.2 hbb]; rfl
        have c1 : wo.cell? ⟨w.heap.size + 1, 5, none⟩ = some (.bool false) := cell_of_row wo _ 5 _ _ _ h1
        have f1 : wo.frozen? ⟨w.heap.size + 1, 5, none⟩ = false := by simp [World.frozen?, h1]
        have hv : (bits .and .u16 (n : Int) 64 != 0) = decide (n / 64 % 2 = 1) := by
          show (!(bits .and .u16 (n : Int) 64 == 0)) = _
          rw [ha, Bool.not_not]
        have Hv := Lib.hid hv
        clear ha hv
        clear hc
        go_wp2_with fail
        rw [Hv.out]
        refine ⟨⟨6, by omega, rfl, (row_set h1 5 _).trans rfl, (Below.heap_setCell _ _ _ _ (by dsimp only; omega)).trans h0, Ext.setCell hE (by dsimp only; omega) _⟩, by simp [intOf]⟩
      · have hc : ((6 : Nat) : Int) = 6 := rfl
        have hix : ∀ V : World, (Instr.index 92 (.agg #[.int .u16 32768, .int .u16 1024, .int .u16 512, .int .u16 256, .int .u16 128, .int .u16 64, .int .u16 32, .int .u16 16]) (.int .i64 6)).run Tryd.prog V = .ok (.int .u16 32) V := fun _ => by kernel_rfl
        have ha : (bits .and .u16 (n : Int) 32 == 0) = !decide (n / 32 % 2 = 1) := by
          rw [show (32 : Int) = ((32 : Nat) : Int) from rfl, u16_and_nat n 32 (by omega) (by omega)]
          have := and_bit n 5
          rw [show 2 ^ 5 = 32 from rfl] at this
          by_cases hbb : n / 32 % 2 = 1
          · have h3 : n &&& 32 ≠ 0 := fun h => (this.1 h) hbb
            rw [decide_eq_true hbb]; simpa using h3
          · rw [decide_eq_false hbb, this.2 hbb]; rfl
        have c1 : wo.cell? ⟨w.heap.size + 1, 6, none⟩ = some (.bool false) := cell_of_row wo _ 6 _ _ _ h1
        have f1 : wo.frozen? ⟨w.heap.size + 1, 6, none⟩ = false := by simp [World.frozen?, h1]
        have hv : (bits .and .u16 (n : Int) 32 != 0) = decide (n / 32 % 2 = 1) := by
          show (!(bits .and .u16 (n : Int) 32 == 0)) = _
          rw [ha, Bool.not_not]
        have Hv := Lib.hid hv
        clear ha hv
        clear hc
        go_wp2_with fail
        rw [Hv.out]
        refine ⟨⟨7, by omega, rfl, (row_set h1 6 _).trans rfl, (Below.heap_setCell _ _ _ _ (by dsimp only; omega)).trans h0, Ext.setCell hE (by dsimp only; omega) _⟩, by simp [intOf]⟩
      · have hc : ((7 : Nat) : Int) = 7 := rfl
        have hix : ∀ V : World, (Instr.index 92 (.agg #[.int .u16 32768, .int .u16 1024, .int .u16 512, .int .u16 256, .int .u16 128, .int .u16 64, .int .u16 32, .int .u16 16]) (.int .i64 7)).run Tryd.prog V = .ok (.int .u16 16) V := fun _ => by kernel_rfl
        have ha : (bits .and .u16 (n : Int) 16 == 0) = !decide (n / 16 % 2 = 1) := by
          rw [show (16 : Int) = ((16 : Nat) : Int) from rfl, u16_and_nat n 16 (by omega) (by omega)]
          have := and_bit n 4
          rw [show 2 ^ 4 = 16 from rfl] at this
          by_cases hbb : n / 16 % 2 = 1
          · have h3 : n &&& 16 ≠ 0 := fun h => (this.1 h) hbb
            rw [decide_eq_true hbb]; simpa using h3
          · rw [decide_eq_false hbb, this.2 hbb]; rfl
        have c1 : wo.cell? ⟨w.heap.size + 1, 7, none⟩ = some (.bool false) := cell_of_row wo _ 7 _ _ _ h1
        have f1 : wo.frozen? ⟨w.heap.size + 1, 7, none⟩ = false := by simp [World.frozen?, h1]
        have hv : (bits .and .u16 (n : Int) 16 != 0) = decide (n / 16 % 2 = 1) := by
          show (!(bits .and .u16 (n : Int) 16 == 0)) = _
          rw [ha, Bool.not_not]
        have Hv := Lib.hid hv
        clear ha hv
        clear hc
        go_wp2_with fail
        rw [Hv.out]
        refine ⟨⟨8, by omega, rfl, (row_set h1 7 _).trans rfl, (Below.heap_setCell _ _ _ _ (by dsimp only; omega)).trans h0, Ext.setCell hE (by dsimp only; omega) _⟩, by simp [intOf]⟩
    · obtain rfl : k = 8 := by omega
      have hc : ((8 : Nat) : Int) = 8 := rfl
      have p0 : wo.cell? ⟨w.heap.size + 1, 0, none⟩ = some (.bool (decide (n / 32768 % 2 = 1))) := cell_of_row wo _ 0 _ _ _ h1
      have p1 : wo.cell? ⟨w.heap.size + 1, 1, none⟩ = some (.bool (decide (n / 1024 % 2 = 1))) := cell_of_row wo _ 1 _ _ _ h1
      have p2 : wo.cell? ⟨w.heap.size + 1, 2, none⟩ = some (.bool (decide (n / 512 % 2 = 1))) := cell_of_row wo _ 2 _ _ _ h1
      have p3 : wo.cell? ⟨w.heap.size + 1, 3, none⟩ = some (.bool (decide (n / 256 % 2 = 1))) := cell_of_row wo _ 3 _ _ _ h1
      have p4 : wo.cell? ⟨w.heap.size + 1, 4, none⟩ = some (.bool (decide (n / 128 % 2 = 1))) := cell_of_row wo _ 4 _ _ _ h1
      have p5 : wo.cell? ⟨w.heap.size + 1, 5, none⟩ = some (.bool (decide (n / 64 % 2 = 1))) := cell_of_row wo _ 5 _ _ _ h1
      have p6 : wo.cell? ⟨w.heap.size + 1, 6, none⟩ = some (.bool (decide (n / 32 % 2 = 1))) := cell_of_row wo _ 6 _ _ _ h1
      have p7 : wo.cell? ⟨w.heap.size + 1, 7, none⟩ = some (.bool (decide (n / 16 % 2 = 1))) := cell_of_row wo _ 7 _ _ _ h1
      have ho1 : bits .and .u16 ((n : Int) / 2048) 15 % 256 = ((n / 2048 % 16 : Nat) : Int) := by
        rw [show ((n : Int) / 2048) = ((n / 2048 : Nat) : Int) by omega, show (15 : Int) = ((15 : Nat) : Int) from rfl, u16_and_nat _ _ (by omega) (by omega), and_low]; omega
      have ho2 : bits .and .u16 (n : Int) 15 % 256 = ((n % 16 : Nat) : Int) := by
        rw [show (15 : Int) = ((15 : Nat) : Int) from rfl, u16_and_nat _ _ (by omega) (by omega), and_low]; omega
      have H1 := Lib.hid ho1
      have H2 := Lib.hid ho2
      clear ho1 ho2
      go_upto_region 7 with fail
      refine wp_region_lit ?_
      repeat (first
        | (refine Go.wpList_store_rowTo rfl 25 (.tmp 2) (.tmp 41) rfl rfl w.heap.size #[.int .u16 0, .bool (decide (n / 32768 % 2 = 1)), .int .u8 (bits .and .u16 ((n : Int) / 2048) 15 % 256), .bool (decide (n / 1024 % 2 = 1)), .bool (decide (n / 512 % 2 = 1)), .bool (decide (n / 256 % 2 = 1)), .bool (decide (n / 128 % 2 = 1)), .bool (decide (n / 64 % 2 = 1)), .bool (decide (n / 32 % 2 = 1)), .bool (decide (n / 16 % 2 = 1)), .int .u8 (bits .and .u16 (n : Int) 15 % 256)] rfl rfl 25 _ h0 (by kernel_rfl) rfl (by kernel_rfl) ?_)
        | go_step)
      have h9 := setRow_heap wo w.heap.size _ #[.int .u16 0, .bool (decide (n / 32768 % 2 = 1)), .int .u8 (bits .and .u16 ((n : Int) / 2048) 15 % 256), .bool (decide (n / 1024 % 2 = 1)), .bool (decide (n / 512 % 2 = 1)), .bool (decide (n / 256 % 2 = 1)), .bool (decide (n / 128 % 2 = 1)), .bool (decide (n / 64 % 2 = 1)), .bool (decide (n / 32 % 2 = 1)), .bool (decide (n / 16 % 2 = 1)), .int .u8 (bits .and .u16 (n : Int) 15 % 256)] _ _ h0
      (try simp only [Exit.inBlock, Exit.then])
      refine bodyPost_ret (results_cell_row rfl _ _ w.heap.size _ _ _ _ rfl h9 Tryd.underlying25 rfl (by kernel_rfl)) rfl ?_
      refine ⟨?_, Below.grown hE (grown_row wo _ _) hE.size (fun k hk => by injection hk with hk; omega)⟩
      rw [H1.out, H2.out]
      have hq : decide (n / 32768 % 2 = 1) = decide (n / 32768 = 1) := by rw [Nat.mod_eq_of_lt (by omega)]
      rw [hq]
      rfl
end Go.Proofs.YtjmfpillnbnofaaDoor
namespace Go.Proofs.YtjmfpillnbnofaaDoor
open Go.RowKit
set_option maxRecDepth 100000
set_option linter.unusedSimpArgs false
set_option linter.unusedVariables false

def hdZ : HdD := ⟨0, false, 0, false, false, false, false, false, false, false, 0⟩
abbrev cnV (a b c d : Nat) : Value := .agg #[.int .i64 (a : Int), .int .i64 (b : Int), .int .i64 (c : Int), .int .i64 (d : Int)]
set_option maxHeartbeats 1000000 in
theorem head_read_no (s : List UInt8) (w : World) (hs : s.length < 12) :
    Calls Tryd.prog 16 #[S s] w fun e w' => e = .returned (.tuple #[hdV hdZ, cnV 0 0 0 0, .int .i64 4]) ∧ Ext w w' := by
  obtain ⟨W, hW⟩ : ∃ W, W = (w.alloc (.cells #[.int .u16 0, .bool false, .int .u8 0, .bool false, .bool false, .bool false, .bool false, .bool false, .bool false, .bool false, .int .u8 0] 25)).alloc (.cells #[.int .i64 0, .int .i64 0, .int .i64 0, .int .i64 0] 65) := ⟨_, rfl⟩
  have hwW : Ext w W := by rw [hW]; exact ((Ext.refl _).alloc _).alloc _
  have r1 : W.heap[w.heap.size + 1]? = some (.cells #[.int .i64 0, .int .i64 0, .int .i64 0, .int .i64 0] 65) := by rw [hW]; exact heap_alloc2_new w _ _
  have r0 : W.heap[w.heap.size]? = some (.cells #[.int .u16 0, .bool false, .int .u8 0, .bool false, .bool false, .bool false, .bool false, .bool false, .bool false, .bool false, .int .u8 0] 25) := by
    rw [hW]
    have h1 := heap_alloc_new w (.cells #[.int .u16 0, .bool false, .int .u8 0, .bool false, .bool false, .bool false, .bool false, .bool false, .bool false, .bool false, .int .u8 0] 25)
    rw [heap_alloc_old _ _ (Array.getElem?_eq_some_iff.1 h1).1]; exact h1
  have hlt : (s.length : Int) < 12 := by omega
  go_enter Tryd.func16, Tryd.ntmps16
  go_upto_region 1 with fail
  rw [← hW]
  clear hW
  have r1' : (W.setRow w.heap.size #[.int .u16 0, .bool false, .int .u8 0, .bool false, .bool false, .bool false, .bool false, .bool false, .bool false, .bool false, .int .u8 0]).heap[w.heap.size + 1]? = some (.cells #[.int .i64 0, .int .i64 0, .int .i64 0, .int .i64 0] 65) := ((grown_row W w.heap.size #[.int .u16 0, .bool false, .int .u8 0, .bool false, .bool false, .bool false, .bool false, .bool false, .bool false, .bool false, .int .u8 0]).block _ (Array.getElem?_eq_some_iff.1 r1).1 (by simp)).trans r1
  have r0' : (W.setRow w.heap.size #[.int .u16 0, .bool false, .int .u8 0, .bool false, .bool false, .bool false, .bool false, .bool false, .bool false, .bool false, .int .u8 0]).heap[w.heap.size]? = some (.cells #[.int .u16 0, .bool false, .int .u8 0, .bool false, .bool false, .bool false, .bool false, .bool false, .bool false, .bool false, .int .u8 0] 25) := setRow_heap W _ _ _ _ _ r0
  go_upto_region 2 with fail
  refine wp_region_lit ?_
  repeat (first
    | (refine Go.wpList_store_rowTo rfl 25 (.tmp 2) (.tmp 18) rfl rfl w.heap.size #[.int .u16 0, .bool false, .int .u8 0, .bool false, .bool false, .bool false, .bool false, .bool false, .bool false, .bool false, .int .u8 0] rfl rfl 25 _ r0 (by kernel_rfl) rfl (by kernel_rfl) ?_)
    | (refine Go.wpList_store_rowTo rfl 65 (.tmp 3) (.tmp 19) rfl rfl (w.heap.size + 1) #[.int .i64 0, .int .i64 0, .int .i64 0, .int .i64 0] rfl rfl 65 _ r1' (by kernel_rfl) rfl (by kernel_rfl) ?_)
    | go_step)
  (try simp only [Exit.inBlock, Exit.then])
  have q0 := ((grown_row (W.setRow w.heap.size #[.int .u16 0, .bool false, .int .u8 0, .bool false, .bool false, .bool false, .bool false, .bool false, .bool false, .bool false, .int .u8 0]) (w.heap.size + 1) #[.int .i64 0, .int .i64 0, .int .i64 0, .int .i64 0]).block _ (Array.getElem?_eq_some_iff.1 r0').1 (by simp)).trans r0'
  refine bodyPost_ret (results_row2 rfl _ _ w.heap.size (w.heap.size + 1) _ _ _ _ _ _ _ _ rfl q0 Tryd.underlying25 rfl (by kernel_rfl) rfl (setRow_heap (W.setRow w.heap.size #[.int .u16 0, .bool false, .int .u8 0, .bool false, .bool false, .bool false, .bool false, .bool false, .bool false, .bool false, .int .u8 0]) _ _ _ _ _ r1') Tryd.underlying65 rfl (by kernel_rfl)) rfl ?_
  refine ⟨rfl, Below.grown (Below.grown hwW (grown_row W _ _) hwW.size (fun k hk => by injection hk with hk; omega)) (grown_row _ _ _) ?_ (fun k hk => by injection hk with hk; omega)⟩
  have := hwW.size
  simpa [World.setRow] using this
theorem cnt_row {w : World} {g : Nat} {a b c d : Int} (h : w.heap[g]? = some (.cells #[.int .i64 a, .int .i64 b, .int .i64 c, .int .i64 d] 65)) :
    w.cell? ⟨g, 0, none⟩ = some (.int .i64 a) ∧ w.cell? ⟨g, 1, none⟩ = some (.int .i64 b) ∧ w.cell? ⟨g, 2, none⟩ = some (.int .i64 c) ∧ w.cell? ⟨g, 3, none⟩ = some (.int .i64 d) ∧ ∀ j, w.frozen? ⟨g, j, none⟩ = false := by
  refine ⟨?_, ?_, ?_, ?_, fun j => ?_⟩ <;> simp [World.cell?, World.frozen?, h]
theorem wrap_n16 (s : List UInt8) (k : Nat) : wrap64 (n16 s k : Int) = (n16 s k : Int) := by
  have := n16_lt s k
  unfold wrap64
  omega
def cRow (a b c d : Nat) : Nat → Array Value
  | 0 => #[.int .i64 0, .int .i64 0, .int .i64 0, .int .i64 0]
  | 1 => #[.int .i64 (a : Int), .int .i64 0, .int .i64 0, .int .i64 0]
  | 2 => #[.int .i64 (a : Int), .int .i64 (b : Int), .int .i64 0, .int .i64 0]
  | 3 => #[.int .i64 (a : Int), .int .i64 (b : Int), .int .i64 (c : Int), .int .i64 0]
  | _ => #[.int .i64 (a : Int), .int .i64 (b : Int), .int .i64 (c : Int), .int .i64 (d : Int)]
set_option maxHeartbeats 4000000 in
theorem head_read (s : List UInt8) (w : World) (hg : Laid w) (hb : BitsAt w) (hs : 12 ≤ s.length) (hs2 : s.length ≤ maxLen) :
    Calls Tryd.prog 16 #[S s] w fun e w' => e = .returned (.tuple #[hdV (fromN (n16 s 0) (n16 s 2)), cnV (n16 s 4) (n16 s 6) (n16 s 8) (n16 s 10), .int .i64 0]) ∧ Ext w w' := by
  obtain ⟨W, hW⟩ : ∃ W, W = (w.alloc (.cells #[.int .u16 0, .bool false, .int .u8 0, .bool false, .bool false, .bool false, .bool false, .bool false, .bool false, .bool false, .int .u8 0] 25)).alloc (.cells #[.int .i64 0, .int .i64 0, .int .i64 0, .int .i64 0] 65) := ⟨_, rfl⟩
  have hwW : Ext w W := by rw [hW]; exact ((Ext.refl _).alloc _).alloc _
  have r1 : W.heap[w.heap.size + 1]? = some (.cells #[.int .i64 0, .int .i64 0, .int .i64 0, .int .i64 0] 65) := by rw [hW]; exact heap_alloc2_new w _ _
  have r0 : W.heap[w.heap.size]? = some (.cells #[.int .u16 0, .bool false, .int .u8 0, .bool false, .bool false, .bool false, .bool false, .bool false, .bool false, .bool false, .int .u8 0] 25) := by
    rw [hW]
    have h1 := heap_alloc_new w (.cells #[.int .u16 0, .bool false, .int .u8 0, .bool false, .bool false, .bool false, .bool false, .bool false, .bool false, .bool false, .int .u8 0] 25)
    rw [heap_alloc_old _ _ (Array.getElem?_eq_some_iff.1 h1).1]; exact h1
  have hlt : ¬ ((s.length : Int) < 12) := by omega
  go_enter Tryd.func16, Tryd.ntmps16
  go_upto_region 1 with fail
  rw [← hW]
  clear hW
  go_wp2_with fail
  refine (cx_new s W).mono ?_; rintro e w1 ⟨rfl, hrow, hE1, hsz1⟩
  obtain ⟨cp, hcp⟩ : ∃ cp, cp = W.heap.size := ⟨_, rfl⟩
  rw [← hcp] at hrow hsz1 ⊢
  have hcW : W.heap.size ≤ cp := by omega
  have hwc : w.heap.size + 1 < cp := by have := (Array.getElem?_eq_some_iff.1 r1).1; omega
  clear hcp
  have n0 : numR 2 s 0 = .ok (n16 s 0, 2) := numR_at (by omega)
  have HT0 := Lib.hid (cx_two hrow hs2 n0)
  go_wp2_with fail
  refine HT0.out.mono ?_; rintro e w2 ⟨rfl, hst2⟩
  have hW2 : Ext W w2 := hE1.then hst2.below (by omega)
  have n1 : numR 2 s 2 = .ok (n16 s 2, 4) := numR_at (by omega)
  have HT1 := Lib.hid (cx_two hst2.row hs2 n1)
  clear n0 n1 hrow hst2
  go_wp2_with fail
  refine HT1.out.mono ?_; rintro e w3 ⟨rfl, hst3⟩
  have hW3 : Ext W w3 := hW2.then hst3.below (by omega)
  have hrow3 := hst3.row
  have HF := Lib.hid (head_from (n16 s 2) w3 (hb.ext (hwW.trans hW3)) (by have := n16_lt s 2; omega))
  clear hst3
  go_wp2_with fail
  refine HF.out.mono ?_; rintro e w4 ⟨rfl, hE4⟩
  go_upto_region 8 with fail
  obtain ⟨W5, hW5⟩ : ∃ W5, W5 = w4.alloc (.cells #[.int .u16 (n16 s 0 : Int), .bool (fromN 0 (n16 s 2)).qr, .int .u8 (fromN 0 (n16 s 2)).op, .bool (fromN 0 (n16 s 2)).aa, .bool (fromN 0 (n16 s 2)).tc, .bool (fromN 0 (n16 s 2)).rd, .bool (fromN 0 (n16 s 2)).ra, .bool (fromN 0 (n16 s 2)).z, .bool (fromN 0 (n16 s 2)).ad, .bool (fromN 0 (n16 s 2)).cd, .int .u8 (fromN 0 (n16 s 2)).code] 25) := ⟨_, rfl⟩
  have hh5 := heap_alloc_new w4 (.cells #[.int .u16 (n16 s 0 : Int), .bool (fromN 0 (n16 s 2)).qr, .int .u8 (fromN 0 (n16 s 2)).op, .bool (fromN 0 (n16 s 2)).aa, .bool (fromN 0 (n16 s 2)).tc, .bool (fromN 0 (n16 s 2)).rd, .bool (fromN 0 (n16 s 2)).ra, .bool (fromN 0 (n16 s 2)).z, .bool (fromN 0 (n16 s 2)).ad, .bool (fromN 0 (n16 s 2)).cd, .int .u8 (fromN 0 (n16 s 2)).code] 25)
  have hE5 : Ext w4 W5 := by rw [hW5]; exact (Ext.refl _).alloc _
  have hs5 : W5.heap.size = w4.heap.size + 1 := by rw [hW5]; simp
  rw [← hW5] at hh5 ⊢
  clear hW5
  obtain ⟨hb1, hhb⟩ : ∃ hb1, hb1 = w4.heap.size := ⟨_, rfl⟩
  have hcu4 := (hE4.block cp (Array.getElem?_eq_some_iff.1 hrow3).1).trans hrow3
  have hcp4 : cp < hb1 := by rw [hhb]; exact (Array.getElem?_eq_some_iff.1 hcu4).1
  have hcu5 := (hE5.block cp (by omega)).trans hcu4
  rw [← hhb] at hh5 hs5 ⊢
  have hW5 : Ext W W5 := (hW3.trans hE4).trans hE5
  clear hhb
  go_upto_region 9 with fail
  obtain ⟨W6, hW6⟩ : ∃ W6, W6 = W5.alloc (.cells #[.int .i64 0, .int .i64 0, .int .i64 0, .int .i64 0] 65) := ⟨_, rfl⟩
  have hc6 := heap_alloc_new W5 (.cells #[.int .i64 0, .int .i64 0, .int .i64 0, .int .i64 0] 65)
  have hE6 : Ext W5 W6 := by rw [hW6]; exact (Ext.refl _).alloc _
  rw [hs5, ← hW6] at hc6
  rw [← hW6]
  clear hW6
  have hcu6 := (hE6.block cp (by omega)).trans hcu5
  have hh6 := (hE6.block hb1 (by omega)).trans hh5
  have hw6 : Ext W W6 := hW5.trans hE6
  have hWhb : W.heap.size ≤ hb1 := by omega
  clear hs5 hcu4 hcu5 hE4 hE5 hE6 hrow3
  go_wp2_with fail
  go_loopw [12, 13, 14, 36] (fun _ _ _ s36 wr => ∃ k : Nat, k ≤ 4 ∧ s36 = .int .i64 k ∧ wr.heap[cp]? = some (.cells (cuRow s (4 + 2 * k)) 111) ∧ wr.heap[hb1 + 1]? = some (.cells (cRow (n16 s 4) (n16 s 6) (n16 s 8) (n16 s 10) k) 65) ∧ wr.heap[hb1]? = some (.cells #[.int .u16 (n16 s 0 : Int), .bool (fromN 0 (n16 s 2)).qr, .int .u8 (fromN 0 (n16 s 2)).op, .bool (fromN 0 (n16 s 2)).aa, .bool (fromN 0 (n16 s 2)).tc, .bool (fromN 0 (n16 s 2)).rd, .bool (fromN 0 (n16 s 2)).ra, .bool (fromN 0 (n16 s 2)).z, .bool (fromN 0 (n16 s 2)).ad, .bool (fromN 0 (n16 s 2)).cd, .int .u8 (fromN 0 (n16 s 2)).code] 25) ∧ Ext W wr) (fun _ _ _ s36 _ => 4 - (intOf s36).toNat)
  case atStart => exact ⟨0, by omega, rfl, hcu6, hc6, hh6, hw6⟩
  case round =>
    obtain ⟨k, hk, rfl, hrw, hct, hhd, hE⟩ := hrel
    obtain ⟨wo, rfl⟩ : ∃ wo : World, wo = wr := ⟨_, rfl⟩
    clear hcu6 hc6 hh6 hw6
    rcases Nat.lt_or_ge k 4 with hk8 | hk8
    · rcases (by omega : k = 0 ∨ k = 1 ∨ k = 2 ∨ k = 3) with rfl | rfl | rfl | rfl
      · have hc : ((0 : Nat) : Int) = 0 := rfl
        have nk : numR 2 s (4 + 2 * 0) = .ok (n16 s 4, 6) := numR_at (by omega)
        have HT := Lib.hid (cx_two hrw hs2 nk)
        clear hc nk
        go_wp2_with fail
        refine HT.out.mono ?_; rintro e wb ⟨rfl, hst⟩
        have hct2 := hst.kept.row hct (by omega) (by omega)
        have hhd2 := hst.kept.row hhd (by omega) (by omega)
        have hrb := hst.row
        have hEb : Ext W wb := hE.then hst.below (by omega)
        have hlc := (Array.getElem?_eq_some_iff.1 hct2).1
        obtain ⟨c0, c1, c2, c3, cf⟩ := cnt_row hct2
        have cfk := cf 0
        clear hst HT
        go_wp2_with fail
        refine ⟨⟨1, by omega, rfl, (Below.heap_setCell _ _ _ _ (by dsimp only; omega)).trans hrb, (row_set hct2 0 _).trans (by rw [wrap_n16]; rfl), (Below.heap_setCell _ _ _ _ (by dsimp only; omega)).trans hhd2, Ext.setCell hEb (by dsimp only; omega) _⟩, by simp [intOf]⟩
      · have hc : ((1 : Nat) : Int) = 1 := rfl
        have nk : numR 2 s (4 + 2 * 1) = .ok (n16 s 6, 8) := numR_at (by omega)
        have HT := Lib.hid (cx_two hrw hs2 nk)
        clear hc nk
        go_wp2_with fail
        refine HT.out.mono ?_; rintro e wb ⟨rfl, hst⟩
        have hct2 := hst.kept.row hct (by omega) (by omega)
        have hhd2 := hst.kept.row hhd (by omega) (by omega)
        have hrb := hst.row
        have hEb : Ext W wb := hE.then hst.below (by omega)
        have hlc := (Array.getElem?_eq_some_iff.1 hct2).1
        obtain ⟨c0, c1, c2, c3, cf⟩ := cnt_row hct2
        have cfk := cf 1
        clear hst HT
        go_wp2_with fail
        refine ⟨⟨2, by omega, rfl, (Below.heap_setCell _ _ _ _ (by dsimp only; omega)).trans hrb, (row_set hct2 1 _).trans (by rw [wrap_n16]; rfl), (Below.heap_setCell _ _ _ _ (by dsimp only; omega)).trans hhd2, Ext.setCell hEb (by dsimp only; omega) _⟩, by simp [intOf]⟩
      · have hc : ((2 : Nat) : Int) = 2 := rfl
        have nk : numR 2 s (4 + 2 * 2) = .ok (n16 s 8, 10) := numR_at (by omega)
        have HT := Lib.hid (cx_two hrw hs2 nk)
        clear hc nk
        go_wp2_with fail
        refine HT.out.mono ?_; rintro e wb ⟨rfl, hst⟩
        have hct2 := hst.kept.row hct (by omega) (by omega)
        have hhd2 := hst.kept.row hhd (by omega) (by omega)
        have hrb := hst.row
        have hEb : Ext W wb := hE.then hst.below (by omega)
        have hlc := (Array.getElem?_eq_some_iff.1 hct2).1
        obtain ⟨c0, c1, c2, c3, cf⟩ := cnt_row hct2
        have cfk := cf 2
        clear hst HT
        go_wp2_with fail
        refine ⟨⟨3, by omega, rfl, (Below.heap_setCell _ _ _ _ (by dsimp only; omega)).trans hrb, (row_set hct2 2 _).trans (by rw [wrap_n16]; rfl), (Below.heap_setCell _ _ _ _ (by dsimp only; omega)).trans hhd2, Ext.setCell hEb (by dsimp only; omega) _⟩, by simp [intOf]⟩
      · have hc : ((3 : Nat) : Int) = 3 := rfl
        have nk : numR 2 s (4 + 2 * 3) = .ok (n16 s 10, 12) := numR_at (by omega)
        have HT := Lib.hid (cx_two hrw hs2 nk)
        clear hc nk
        go_wp2_with fail
        refine HT.out.mono ?_; rintro e wb ⟨rfl, hst⟩
        have hct2 := hst.kept.row hct (by omega) (by omega)
        have hhd2 := hst.kept.row hhd (by omega) (by omega)
        have hrb := hst.row
        have hEb : Ext W wb := hE.then hst.below (by omega)
        have hlc := (Array.getElem?_eq_some_iff.1 hct2).1
        obtain ⟨c0, c1, c2, c3, cf⟩ := cnt_row hct2
        have cfk := cf 3
        clear hst HT
        go_wp2_with fail
        refine ⟨⟨4, by omega, rfl, (Below.heap_setCell _ _ _ _ (by dsimp only; omega)).trans hrb, (row_set hct2 3 _).trans (by rw [wrap_n16]; rfl), (Below.heap_setCell _ _ _ _ (by dsimp only; omega)).trans hhd2, Ext.setCell hEb (by dsimp only; omega) _⟩, by simp [intOf]⟩
    · obtain rfl : k = 4 := by omega
      have hc : ((4 : Nat) : Int) = 4 := rfl
      go_upto_region 15 with fail
      have hw : Ext w wo.drew := (hwW.trans hE).drew
      have a0 := (hE.block _ (Array.getElem?_eq_some_iff.1 r0).1).trans r0
      have a1 := (hE.block _ (Array.getElem?_eq_some_iff.1 r1).1).trans r1
      have b1 : (wo.drew.setRow w.heap.size #[.int .u16 (n16 s 0 : Int), .bool (fromN 0 (n16 s 2)).qr, .int .u8 (fromN 0 (n16 s 2)).op, .bool (fromN 0 (n16 s 2)).aa, .bool (fromN 0 (n16 s 2)).tc, .bool (fromN 0 (n16 s 2)).rd, .bool (fromN 0 (n16 s 2)).ra, .bool (fromN 0 (n16 s 2)).z, .bool (fromN 0 (n16 s 2)).ad, .bool (fromN 0 (n16 s 2)).cd, .int .u8 (fromN 0 (n16 s 2)).code]).heap[w.heap.size + 1]? = some (.cells #[.int .i64 0, .int .i64 0, .int .i64 0, .int .i64 0] 65) := ((grown_row wo.drew w.heap.size #[.int .u16 (n16 s 0 : Int), .bool (fromN 0 (n16 s 2)).qr, .int .u8 (fromN 0 (n16 s 2)).op, .bool (fromN 0 (n16 s 2)).aa, .bool (fromN 0 (n16 s 2)).tc, .bool (fromN 0 (n16 s 2)).rd, .bool (fromN 0 (n16 s 2)).ra, .bool (fromN 0 (n16 s 2)).z, .bool (fromN 0 (n16 s 2)).ad, .bool (fromN 0 (n16 s 2)).cd, .int .u8 (fromN 0 (n16 s 2)).code]).block _ (Array.getElem?_eq_some_iff.1 a1).1 (by simp)).trans a1
      have b0 : (wo.drew.setRow w.heap.size #[.int .u16 (n16 s 0 : Int), .bool (fromN 0 (n16 s 2)).qr, .int .u8 (fromN 0 (n16 s 2)).op, .bool (fromN 0 (n16 s 2)).aa, .bool (fromN 0 (n16 s 2)).tc, .bool (fromN 0 (n16 s 2)).rd, .bool (fromN 0 (n16 s 2)).ra, .bool (fromN 0 (n16 s 2)).z, .bool (fromN 0 (n16 s 2)).ad, .bool (fromN 0 (n16 s 2)).cd, .int .u8 (fromN 0 (n16 s 2)).code]).heap[w.heap.size]? = some (.cells #[.int .u16 (n16 s 0 : Int), .bool (fromN 0 (n16 s 2)).qr, .int .u8 (fromN 0 (n16 s 2)).op, .bool (fromN 0 (n16 s 2)).aa, .bool (fromN 0 (n16 s 2)).tc, .bool (fromN 0 (n16 s 2)).rd, .bool (fromN 0 (n16 s 2)).ra, .bool (fromN 0 (n16 s 2)).z, .bool (fromN 0 (n16 s 2)).ad, .bool (fromN 0 (n16 s 2)).cd, .int .u8 (fromN 0 (n16 s 2)).code] 25) := setRow_heap wo.drew _ _ _ _ _ a0
      refine wp_region_noPanic ?_
      refine wp_region_tree (S := fun V => V.heap[hb1]? = some (.cells #[.int .u16 (n16 s 0 : Int), .bool (fromN 0 (n16 s 2)).qr, .int .u8 (fromN 0 (n16 s 2)).op, .bool (fromN 0 (n16 s 2)).aa, .bool (fromN 0 (n16 s 2)).tc, .bool (fromN 0 (n16 s 2)).rd, .bool (fromN 0 (n16 s 2)).ra, .bool (fromN 0 (n16 s 2)).z, .bool (fromN 0 (n16 s 2)).ad, .bool (fromN 0 (n16 s 2)).cd, .int .u8 (fromN 0 (n16 s 2)).code] 25) ∧ V.heap[hb1 + 1]? = some (.cells #[.int .i64 (n16 s 4 : Int), .int .i64 (n16 s 6 : Int), .int .i64 (n16 s 8 : Int), .int .i64 (n16 s 10 : Int)] 65)) (.take 0 (.take 1 (.run 2 (.run 3 (.take 4 .done))))) (by kernel_rfl) (by kernel_rfl) (fun _ _ _ _ _ h => h) ⟨hhd, hct⟩ ?_
      refine treeTake (v := ?_) (by rfl) (by rfl) ?_ ?_
      rotate_left
      (focus (intro V hV; refine exec_load_part 25 (.tmp 10) ?_ hb1 0 ?_ _ (row_all hV.1) _ Tryd.underlying25 ?_ ?_; (focus rfl); (focus rfl); (focus rfl); (focus kernel_rfl)))
      (try simp only [Act.put, List.setIfInBounds_toArray, List.set_cons_zero, List.set_cons_succ])
      refine treeTake (v := ?_) (by rfl) (by rfl) ?_ ?_
      rotate_left
      (focus (intro V hV; refine exec_load_part 65 (.tmp 11) ?_ (hb1 + 1) 0 ?_ _ (row_all hV.2) _ Tryd.underlying65 ?_ ?_; (focus rfl); (focus rfl); (focus rfl); (focus kernel_rfl)))
      (try simp only [Act.put, List.setIfInBounds_toArray, List.set_cons_zero, List.set_cons_succ])
      refine treeRun (by rfl) (fun K hK => ?_)
      rw [if_pos (by rfl)]
      refine wp_store_row 25 (.tmp 2) (.tmp 49) rfl w.heap.size #[.int .u16 (n16 s 0 : Int), .bool (fromN 0 (n16 s 2)).qr, .int .u8 (fromN 0 (n16 s 2)).op, .bool (fromN 0 (n16 s 2)).aa, .bool (fromN 0 (n16 s 2)).tc, .bool (fromN 0 (n16 s 2)).rd, .bool (fromN 0 (n16 s 2)).ra, .bool (fromN 0 (n16 s 2)).z, .bool (fromN 0 (n16 s 2)).ad, .bool (fromN 0 (n16 s 2)).cd, .int .u8 (fromN 0 (n16 s 2)).code] rfl rfl 25 _ a0 (by kernel_rfl) rfl (by kernel_rfl) ?_
      refine hK.out _ _ ⟨((grown_row wo.drew w.heap.size #[.int .u16 (n16 s 0 : Int), .bool (fromN 0 (n16 s 2)).qr, .int .u8 (fromN 0 (n16 s 2)).op, .bool (fromN 0 (n16 s 2)).aa, .bool (fromN 0 (n16 s 2)).tc, .bool (fromN 0 (n16 s 2)).rd, .bool (fromN 0 (n16 s 2)).ra, .bool (fromN 0 (n16 s 2)).z, .bool (fromN 0 (n16 s 2)).ad, .bool (fromN 0 (n16 s 2)).cd, .int .u8 (fromN 0 (n16 s 2)).code]).block _ (Array.getElem?_eq_some_iff.1 hhd).1 (by simp; omega)).trans hhd, ((grown_row wo.drew w.heap.size #[.int .u16 (n16 s 0 : Int), .bool (fromN 0 (n16 s 2)).qr, .int .u8 (fromN 0 (n16 s 2)).op, .bool (fromN 0 (n16 s 2)).aa, .bool (fromN 0 (n16 s 2)).tc, .bool (fromN 0 (n16 s 2)).rd, .bool (fromN 0 (n16 s 2)).ra, .bool (fromN 0 (n16 s 2)).z, .bool (fromN 0 (n16 s 2)).ad, .bool (fromN 0 (n16 s 2)).cd, .int .u8 (fromN 0 (n16 s 2)).code]).block _ (Array.getElem?_eq_some_iff.1 hct).1 (by simp; omega)).trans hct⟩ ?_
      clear hK K
      (try simp only [Act.put, List.setIfInBounds_toArray, List.set_cons_zero, List.set_cons_succ])
      refine treeRun (by rfl) (fun K hK => ?_)
      rw [if_pos (by rfl)]
      refine wp_store_row 65 (.tmp 3) (.tmp 50) rfl (w.heap.size + 1) #[.int .i64 (n16 s 4 : Int), .int .i64 (n16 s 6 : Int), .int .i64 (n16 s 8 : Int), .int .i64 (n16 s 10 : Int)] rfl rfl 65 _ b1 (by kernel_rfl) rfl (by kernel_rfl) ?_
      have g1 := grown_row wo.drew w.heap.size #[.int .u16 (n16 s 0 : Int), .bool (fromN 0 (n16 s 2)).qr, .int .u8 (fromN 0 (n16 s 2)).op, .bool (fromN 0 (n16 s 2)).aa, .bool (fromN 0 (n16 s 2)).tc, .bool (fromN 0 (n16 s 2)).rd, .bool (fromN 0 (n16 s 2)).ra, .bool (fromN 0 (n16 s 2)).z, .bool (fromN 0 (n16 s 2)).ad, .bool (fromN 0 (n16 s 2)).cd, .int .u8 (fromN 0 (n16 s 2)).code]
      have g2 := grown_row (wo.drew.setRow w.heap.size #[.int .u16 (n16 s 0 : Int), .bool (fromN 0 (n16 s 2)).qr, .int .u8 (fromN 0 (n16 s 2)).op, .bool (fromN 0 (n16 s 2)).aa, .bool (fromN 0 (n16 s 2)).tc, .bool (fromN 0 (n16 s 2)).rd, .bool (fromN 0 (n16 s 2)).ra, .bool (fromN 0 (n16 s 2)).z, .bool (fromN 0 (n16 s 2)).ad, .bool (fromN 0 (n16 s 2)).cd, .int .u8 (fromN 0 (n16 s 2)).code]) (w.heap.size + 1) #[.int .i64 (n16 s 4 : Int), .int .i64 (n16 s 6 : Int), .int .i64 (n16 s 8 : Int), .int .i64 (n16 s 10 : Int)]
      have hs1 : (wo.drew.setRow w.heap.size #[.int .u16 (n16 s 0 : Int), .bool (fromN 0 (n16 s 2)).qr, .int .u8 (fromN 0 (n16 s 2)).op, .bool (fromN 0 (n16 s 2)).aa, .bool (fromN 0 (n16 s 2)).tc, .bool (fromN 0 (n16 s 2)).rd, .bool (fromN 0 (n16 s 2)).ra, .bool (fromN 0 (n16 s 2)).z, .bool (fromN 0 (n16 s 2)).ad, .bool (fromN 0 (n16 s 2)).cd, .int .u8 (fromN 0 (n16 s 2)).code]).heap.size = wo.heap.size := by simp [World.setRow]
      have k1 := (g1.block _ (Array.getElem?_eq_some_iff.1 hhd).1 (by simp; omega)).trans hhd
      have k2 := (g1.block _ (Array.getElem?_eq_some_iff.1 hct).1 (by simp; omega)).trans hct
      have m1 := (g2.block _ (Array.getElem?_eq_some_iff.1 k1).1 (by simp; omega)).trans k1
      have m2 := (g2.block _ (Array.getElem?_eq_some_iff.1 k2).1 (by simp; omega)).trans k2
      have q0 := (g2.block _ (Array.getElem?_eq_some_iff.1 b0).1 (by simp)).trans b0
      have q1 := setRow_heap (wo.drew.setRow w.heap.size #[.int .u16 (n16 s 0 : Int), .bool (fromN 0 (n16 s 2)).qr, .int .u8 (fromN 0 (n16 s 2)).op, .bool (fromN 0 (n16 s 2)).aa, .bool (fromN 0 (n16 s 2)).tc, .bool (fromN 0 (n16 s 2)).rd, .bool (fromN 0 (n16 s 2)).ra, .bool (fromN 0 (n16 s 2)).z, .bool (fromN 0 (n16 s 2)).ad, .bool (fromN 0 (n16 s 2)).cd, .int .u8 (fromN 0 (n16 s 2)).code]) _ _ #[.int .i64 (n16 s 4 : Int), .int .i64 (n16 s 6 : Int), .int .i64 (n16 s 8 : Int), .int .i64 (n16 s 10 : Int)] _ _ b1
      have hfin : Ext w ((wo.drew.setRow w.heap.size #[.int .u16 (n16 s 0 : Int), .bool (fromN 0 (n16 s 2)).qr, .int .u8 (fromN 0 (n16 s 2)).op, .bool (fromN 0 (n16 s 2)).aa, .bool (fromN 0 (n16 s 2)).tc, .bool (fromN 0 (n16 s 2)).rd, .bool (fromN 0 (n16 s 2)).ra, .bool (fromN 0 (n16 s 2)).z, .bool (fromN 0 (n16 s 2)).ad, .bool (fromN 0 (n16 s 2)).cd, .int .u8 (fromN 0 (n16 s 2)).code]).setRow (w.heap.size + 1) #[.int .i64 (n16 s 4 : Int), .int .i64 (n16 s 6 : Int), .int .i64 (n16 s 8 : Int), .int .i64 (n16 s 10 : Int)]) := by
        refine Below.grown (Below.grown hw g1 hw.size (fun k hk => by injection hk with hk; omega)) g2 ?_ (fun k hk => by injection hk with hk; omega)
        rw [hs1]; exact hw.size
      refine hK.out _ _ ⟨m1, m2⟩ ?_
      clear hK K m1 m2 k1 k2 b0 b1
      (try simp only [Act.put, List.setIfInBounds_toArray, List.set_cons_zero, List.set_cons_succ])
      refine treeTake (v := ?_) (by rfl) (by rfl) ?_ ?_
      rotate_left
      (focus (intro V hV; (try dsimp only at hV); (go_simp <;> with_reducible rfl)))
      (try simp only [Act.put, List.setIfInBounds_toArray, List.set_cons_zero, List.set_cons_succ])
      refine treeDone ?_
      refine NoPanic.normal ?_
      go_wp2_with fail
      (try simp only [Exit.inBlock, Exit.then])
      refine bodyPost_ret (results_row2 rfl _ _ w.heap.size (w.heap.size + 1) _ _ _ _ _ _ _ _ rfl q0 Tryd.underlying25 rfl (by kernel_rfl) rfl q1 Tryd.underlying65 rfl (by kernel_rfl)) rfl ?_
      exact ⟨rfl, hfin⟩
end Go.Proofs.YtjmfpillnbnofaaDoor
namespace Go.Proofs.YtjmfpillnbnofaaDoor
open Go.RowKit
set_option maxRecDepth 100000
set_option linter.unusedSimpArgs false
set_option linter.unusedVariables false

/-- A reader stands in box g, with the cells M; its cursor in box cp. -/
structure RdX (w : World) (g cp : Nat) (M : Array Value) (d : List UInt8) (p : Nat) : Prop where
  box : w.heap[g]? = some (.cells M 115)
  m0 : M[0]? = some (S d)
  m1 : M[1]? = some (.pointer (some ⟨cp, 0, none⟩))
  cur : w.heap[cp]? = some (.cells (cuRow d p) 111)
  ne : g ≠ cp
  pd : p ≤ d.length
theorem RdX.c0 {w : World} {g cp p : Nat} {M : Array Value} {d : List UInt8} (h : RdX w g cp M d p) : w.cell? ⟨g, 0, none⟩ = some (S d) := by
  have := h.m0; simp [World.cell?, h.box, this]
theorem RdX.c1 {w : World} {g cp p : Nat} {M : Array Value} {d : List UInt8} (h : RdX w g cp M d p) : w.cell? ⟨g, 1, none⟩ = some (.pointer (some ⟨cp, 0, none⟩)) := by
  have := h.m1; simp [World.cell?, h.box, this]
theorem RdX.ext {w w' : World} {g cp p : Nat} {M : Array Value} {d : List UInt8} (h : RdX w g cp M d p) (hE : Ext w w') : RdX w' g cp M d p :=
  ⟨(hE.block g (Array.getElem?_eq_some_iff.1 h.box).1).trans h.box, h.m0, h.m1, (hE.block cp (Array.getElem?_eq_some_iff.1 h.cur).1).trans h.cur, h.ne, h.pd⟩
theorem RdX.lt {w : World} {g cp p : Nat} {M : Array Value} {d : List UInt8} (h : RdX w g cp M d p) : g < w.heap.size ∧ cp < w.heap.size := ⟨(Array.getElem?_eq_some_iff.1 h.box).1, (Array.getElem?_eq_some_iff.1 h.cur).1⟩
/-- A call has read on, to p. -/
structure GoX (lo g cp : Nat) (M : Array Value) (d : List UInt8) (p : Nat) (w w' : World) : Prop where
  rd : RdX w' g cp M d p
  kept : KeptB g cp w w'
  below : Below lo w w'
theorem RdX.st {w w' : World} {lo g cp p p' : Nat} {M : Array Value} {d : List UInt8} (h : RdX w g cp M d p) (hs : StX cp d p' w w') (hlo : lo ≤ cp) (hp : p' ≤ d.length) : GoX lo g cp M d p' w w' :=
  ⟨⟨hs.kept.row h.box h.ne h.ne, h.m0, h.m1, hs.row, h.ne, hp⟩, hs.kept.two, hs.below.mono hlo⟩
theorem GoX.after {w w1 w' : World} {lo g cp p : Nat} {M : Array Value} {d : List UInt8} (h : GoX lo g cp M d p w1 w') (hE : Ext w w1) (hlo : lo ≤ w.heap.size) : GoX lo g cp M d p w w' :=
  ⟨h.rd, (KeptB.ext hE).trans h.kept, (hE.mono hlo).trans h.below⟩
theorem GoX.more {w w1 w' : World} {lo g cp p p1 : Nat} {M M1 : Array Value} {d : List UInt8} (h : GoX lo g cp M d p w1 w') (k : GoX lo g cp M1 d p1 w w1) : GoX lo g cp M d p w w' :=
  ⟨h.rd, k.kept.trans h.kept, k.below.trans h.below⟩
theorem GoX.ext {w w1 w' : World} {lo g cp p : Nat} {M : Array Value} {d : List UInt8} (h : GoX lo g cp M d p w w1) (hE : Ext w1 w') (hlo : lo ≤ w.heap.size) : GoX lo g cp M d p w w' :=
  ⟨h.rd.ext hE, h.kept.trans (KeptB.ext hE), h.below.trans (hE.mono (Nat.le_trans hlo h.kept.1))⟩
section
variable {w : World} {lo g cp p p' v x : Nat} {M : Array Value} {d n : List UInt8}
set_option maxHeartbeats 1000000 in
theorem rdr_two (h : RdX w g cp M d p) (hlo : lo ≤ cp) (hd : d.length ≤ 65535) (hn : numR 2 d p = .ok (v, p')) :
    Calls Tryd.prog 45 #[.pointer (some ⟨g, 0, none⟩)] w fun e w' => e = .returned (.int .u16 (v : Int)) ∧ GoX lo g cp M d p' w w' := by
  obtain ⟨e1, hle, hv⟩ := numR_ok hn
  have HT := Lib.hid (cx_two h.cur (by unfold maxLen; omega) hn)
  have HG := Lib.hid (fun w' (hs : StX cp d p' w w') => h.st hs hlo (by omega))
  have c1 := h.c1
  have HM := Lib.hid (fun V => wire_must0 V)
  clear hn h e1 hv
  go_enter Tryd.func45, Tryd.ntmps45
  go_wp2_with fail
  refine HT.out.mono ?_; rintro e w1 ⟨rfl, hs⟩
  go_wp2_with fail
  refine (HM.out _).mono ?_; rintro e w2 ⟨rfl, rfl⟩
  go_wp2_with fail
  go_ret
  exact ⟨rfl, HG.out _ hs⟩
set_option maxHeartbeats 1000000 in
theorem rdr_two_no (h : RdX w g cp M d p) (hlo : lo ≤ cp) (hg : Laid w) (hd : d.length ≤ 65535) (hn : numR 2 d p = .error x) :
    Calls Tryd.prog 45 #[.pointer (some ⟨g, 0, none⟩)] w fun e w' => e = faultE x ∧ Below lo w w' := by
  obtain ⟨rfl, _⟩ := numR_no hn
  have HT := Lib.hid (cx_two_no h.cur hg (by unfold maxLen; omega) h.pd hn)
  have c1 := h.c1
  have hz := h.lt
  have HM := Lib.hid (fun V => wire_must 4 (by omega) V)
  clear hn h
  go_enter Tryd.func45, Tryd.ntmps45
  go_wp2_with fail
  refine HT.out.mono ?_; rintro e w1 ⟨rfl, hE⟩
  go_wp2_with fail
  refine (HM.out _).mono ?_; rintro e w2 ⟨rfl, rfl⟩
  go_wp2_with fail
  exact ⟨rfl, rfl, hE.mono (by omega)⟩
set_option maxHeartbeats 1000000 in
theorem rdr_name (h : RdX w g cp M d p) (hlo : lo ≤ cp) (hg : Laid w) (hd : d.length ≤ 65535) (hn : nameR d p = .ok (n, p')) :
    Calls Tryd.prog 44 #[.pointer (some ⟨g, 0, none⟩)] w fun e w' => e = .returned (S n) ∧ GoX lo g cp M d p' w w' := by
  have hr := nameR_ok hn
  have hbd := readN_bd d p
  have HR := Lib.hid (fun V (hV : Ext w V) => comp_read d p V (hg.ext hV) (by omega) h.pd)
  rw [hr] at HR hbd
  dsimp only at HR hbd
  have HA := Lib.hid (cx_at (h.ext (Ext.refl w).drew).cur)
  have HM := Lib.hid (fun V => wire_must0 V)
  have HX := Lib.hid (fun V (hV : Ext w V) => (h.ext hV).cur)
  have HGo := Lib.hid (fun V (hV : Ext w V) w' (hs : StX cp d p' V w') => ((h.ext hV).st hs hlo hbd.1).after hV (by have := h.lt; omega))
  have c0 := h.c0
  have c1 := h.c1
  have HC := Lib.hid (fun V (hV : Ext w V) => (h.ext hV).c1)
  clear hn hr
  go_enter Tryd.func44, Tryd.ntmps44
  go_upto_region 1 with fail
  refine wp_region_noPanic ?_
  refine wp_region_tree (S := fun V => V.cell? ⟨g, 0, none⟩ = some (S d) ∧ V.cell? ⟨g, 1, none⟩ = some (.pointer (some ⟨cp, 0, none⟩))) (.take 0 (.take 1 (.take 2 (.take 3 (.take 4 (.take 5 (.take 6 (.take 7 (.run 8 (.run 9 (.take 10 (.take 11 (.take 12 (.take 13 (.take 14 (.take 15 (.take 16 .done))))))))))))))))) (by kernel_rfl) (by kernel_rfl) (fun _ _ _ _ _ h => h) ⟨c0, c1⟩ ?_
  repeat ((with_reducible refine treeIs ?_); first
    | (refine treeTake (v := ?_) (by rfl) (by rfl) ?_ ?_; rotate_left; (focus (intro V hV; obtain ⟨hV0, hV1⟩ := hV; (go_simp <;> with_reducible rfl))); (try simp only [Act.put, List.setIfInBounds_toArray, List.set_cons_zero, List.set_cons_succ])))
  refine treeRun (by rfl) (fun K hK => ?_)
  go_simp
  refine HA.out.mono ?_; rintro e w1 ⟨rfl, rfl⟩
  refine hK.out _ _ ⟨c0, c1⟩ ?_
  clear hK K
  (try simp only [Act.put, List.setIfInBounds_toArray, List.set_cons_zero, List.set_cons_succ])
  refine treeRun (by rfl) (fun K hK => ?_)
  go_simp
  refine (HR.out _ ((Ext.refl w).drew)).mono ?_; rintro e w2 ⟨rfl, hE2⟩
  have hw2 : Ext w w2 := Ext.trans ((Ext.refl w).drew) hE2
  refine hK.out _ _ ⟨(h.ext hw2).c0, HC.out _ hw2⟩ ?_
  clear hK K
  (try simp only [Act.put, List.setIfInBounds_toArray, List.set_cons_zero, List.set_cons_succ])
  repeat ((with_reducible refine treeIs ?_); first
    | (refine treeTake (v := ?_) (by rfl) (by rfl) ?_ ?_; rotate_left; (focus (intro V hV; obtain ⟨hV0, hV1⟩ := hV; (go_simp <;> with_reducible rfl))); (try simp only [Act.put, List.setIfInBounds_toArray, List.set_cons_zero, List.set_cons_succ])))
  refine treeDone ?_
  refine NoPanic.normal ?_
  have k1 := HC.out _ hw2
  have HS := Lib.hid (cx_seek p' (HX.out _ hw2) (by unfold maxLen; omega) hbd.1)
  go_wp2_with fail
  refine (HM.out _).mono ?_; rintro e w3 ⟨rfl, rfl⟩
  go_wp2_with fail
  refine HS.out.mono ?_; rintro e w4 ⟨rfl, hs4⟩
  go_wp2_with fail
  refine (HM.out _).mono ?_; rintro e w5 ⟨rfl, rfl⟩
  go_wp2_with fail
  go_ret
  exact ⟨rfl, HGo.out _ hw2 _ hs4⟩
set_option maxHeartbeats 1000000 in
theorem rdr_name_no (h : RdX w g cp M d p) (hlo : lo ≤ cp) (hg : Laid w) (hd : d.length ≤ 65535) (hn : nameR d p = .error x) :
    Calls Tryd.prog 44 #[.pointer (some ⟨g, 0, none⟩)] w fun e w' => e = faultE x ∧ Below lo w w' := by
  obtain ⟨hx0, hr⟩ := nameR_no hn
  have HR := Lib.hid (fun V (hV : Ext w V) => comp_read d p V (hg.ext hV) (by omega) h.pd)
  rw [hr] at HR
  have HA := Lib.hid (cx_at (h.ext (Ext.refl w).drew).cur)
  have HM := Lib.hid (fun V => wire_must x hx0 V)
  have hz := h.lt
  have c0 := h.c0
  have c1 := h.c1
  have HC := Lib.hid (fun V (hV : Ext w V) => (show V.cell? ⟨g, 0, none⟩ = some (S d) ∧ V.cell? ⟨g, 1, none⟩ = some (.pointer (some ⟨cp, 0, none⟩)) from ⟨(h.ext hV).c0, (h.ext hV).c1⟩))
  clear hn hr hx0
  generalize (readN d p).1 = rn at *
  generalize (readN d p).2.1 = rp at *
  go_enter Tryd.func44, Tryd.ntmps44
  go_upto_region 1 with fail
  refine wp_region_noPanic ?_
  refine wp_region_tree (S := fun V => V.cell? ⟨g, 0, none⟩ = some (S d) ∧ V.cell? ⟨g, 1, none⟩ = some (.pointer (some ⟨cp, 0, none⟩))) (.take 0 (.take 1 (.take 2 (.take 3 (.take 4 (.take 5 (.take 6 (.take 7 (.run 8 (.run 9 (.take 10 (.take 11 (.take 12 (.take 13 (.take 14 (.take 15 (.take 16 .done))))))))))))))))) (by kernel_rfl) (by kernel_rfl) (fun _ _ _ _ _ h => h) ⟨c0, c1⟩ ?_
  repeat ((with_reducible refine treeIs ?_); first
    | (refine treeTake (v := ?_) (by rfl) (by rfl) ?_ ?_; rotate_left; (focus (intro V hV; obtain ⟨hV0, hV1⟩ := hV; (go_simp <;> with_reducible rfl))); (try simp only [Act.put, List.setIfInBounds_toArray, List.set_cons_zero, List.set_cons_succ])))
  refine treeRun (by rfl) (fun K hK => ?_)
  go_simp
  refine HA.out.mono ?_; rintro e w1 ⟨rfl, rfl⟩
  refine hK.out _ _ ⟨c0, c1⟩ ?_
  clear hK K
  (try simp only [Act.put, List.setIfInBounds_toArray, List.set_cons_zero, List.set_cons_succ])
  refine treeRun (by rfl) (fun K hK => ?_)
  go_simp
  refine (HR.out _ ((Ext.refl w).drew)).mono ?_; rintro e w2 ⟨rfl, hE2⟩
  have hw2 : Ext w w2 := Ext.trans ((Ext.refl w).drew) hE2
  refine hK.out _ _ (HC.out _ hw2) ?_
  clear hK K
  (try simp only [Act.put, List.setIfInBounds_toArray, List.set_cons_zero, List.set_cons_succ])
  repeat ((with_reducible refine treeIs ?_); first
    | (refine treeTake (v := ?_) (by rfl) (by rfl) ?_ ?_; rotate_left; (focus (intro V hV; obtain ⟨hV0, hV1⟩ := hV; (go_simp <;> with_reducible rfl))); (try simp only [Act.put, List.setIfInBounds_toArray, List.set_cons_zero, List.set_cons_succ])))
  refine treeDone ?_
  refine NoPanic.normal ?_
  go_wp2_with fail
  refine (HM.out _).mono ?_; rintro e w3 ⟨rfl, rfl⟩
  go_wp2_with fail
  exact ⟨rfl, rfl, hw2.mono (by omega)⟩
end
end Go.Proofs.YtjmfpillnbnofaaDoor
namespace Go.Proofs.YtjmfpillnbnofaaDoor
open Go.RowKit
set_option maxRecDepth 100000
set_option linter.unusedSimpArgs false
set_option linter.unusedVariables false

/-- A reader's cells: its text, its cursor, and what it has read. -/
abbrev rdRow (d : List UInt8) (cp : Nat) (h : HdD) (q a u x : Value) (ed : Option EdD) (o : Value) : Array Value :=
  #[S d, .pointer (some ⟨cp, 0, none⟩), .int .u16 h.id, .bool h.qr, .int .u8 h.op, .bool h.aa, .bool h.tc, .bool h.rd, .bool h.ra, .bool h.z, .bool h.ad, .bool h.cd, .int .u8 h.code, q, a, u, x, .bool ed.isSome, .int .u16 (ed.getD edNone).size, .int .u8 (ed.getD edNone).ext, .int .u8 (ed.getD edNone).ver, .int .u16 (ed.getD edNone).flags, o]
theorem box_cell {w : World} {g j : Nat} {M : Array Value} {v : Value} {t : TypeId} {fr : Nat × Nat} (h : w.heap[g]? = some (.cells M t fr)) (hv : M[j]? = some v) : w.cell? ⟨g, j, none⟩ = some v := by simp [World.cell?, h, hv]
theorem box_free {w : World} {g j : Nat} {M : Array Value} {t : TypeId} (h : w.heap[g]? = some (.cells M t (0, 0))) : w.frozen? ⟨g, j, none⟩ = false := by simp [World.frozen?, h]
theorem set_six {W : World} {lo g : Nat} {M : Array Value} {t : TypeId} (hb : W.heap[g]? = some (.cells M t)) (v1 v2 v3 v4 v5 v6 : Value) (hlo : lo ≤ g) :
    (((((((W.setCell ⟨g, 17, none⟩ v1).setCell ⟨g, 18, none⟩ v2).setCell ⟨g, 19, none⟩ v3).setCell ⟨g, 20, none⟩ v4).setCell ⟨g, 21, none⟩ v5).setCell ⟨g, 22, none⟩ v6).drew.heap[g]? = some (.cells ((((((M.setIfInBounds 17 v1).setIfInBounds 18 v2).setIfInBounds 19 v3).setIfInBounds 20 v4).setIfInBounds 21 v5).setIfInBounds 22 v6) t)) ∧
    (∀ b, b ≠ g → ((((((W.setCell ⟨g, 17, none⟩ v1).setCell ⟨g, 18, none⟩ v2).setCell ⟨g, 19, none⟩ v3).setCell ⟨g, 20, none⟩ v4).setCell ⟨g, 21, none⟩ v5).setCell ⟨g, 22, none⟩ v6).drew.heap[b]? = W.heap[b]?) ∧
    Below lo W ((((((W.setCell ⟨g, 17, none⟩ v1).setCell ⟨g, 18, none⟩ v2).setCell ⟨g, 19, none⟩ v3).setCell ⟨g, 20, none⟩ v4).setCell ⟨g, 21, none⟩ v5).setCell ⟨g, 22, none⟩ v6).drew := by
  have e : ∀ X : World, X.drew.heap = X.heap := fun _ => rfl
  refine ⟨?_, fun b hne => ?_, ?_⟩
  · rw [e]
    have r1 := row_set hb 17 v1
    have r2 := row_set r1 18 v2
    have r3 := row_set r2 19 v3
    have r4 := row_set r3 20 v4
    have r5 := row_set r4 21 v5
    exact row_set r5 22 v6
  · rw [e, Below.heap_setCell _ _ _ b hne, Below.heap_setCell _ _ _ b hne, Below.heap_setCell _ _ _ b hne, Below.heap_setCell _ _ _ b hne, Below.heap_setCell _ _ _ b hne, Below.heap_setCell _ _ _ b hne]
  · exact (((((((Below.refl lo W).setCell (p := ⟨g, 17, none⟩) hlo v1).setCell (p := ⟨g, 18, none⟩) hlo v2).setCell (p := ⟨g, 19, none⟩) hlo v3).setCell (p := ⟨g, 20, none⟩) hlo v4).setCell (p := ⟨g, 21, none⟩) hlo v5).setCell (p := ⟨g, 22, none⟩) hlo v6).drew
section
variable {w : World} {lo g cp p cls ttl k : Nat} {d dat n : List UInt8} {hd : HdD} {q a u xx o : Value} {x : EdD} {ed : Option EdD} {more : Bool} {t : Int}
set_option maxHeartbeats 2000000 in
theorem rdr_option_bad (h : RdX w g cp (rdRow d cp hd q a u xx ed o) d p) (hlo : lo ≤ cp) (hbad : more = false ∨ ed.isSome = true ∨ n ≠ [0]) :
    Calls Tryd.prog 60 #[.pointer (some ⟨g, 0, none⟩), recVal ⟨n, t, cls, ttl, dat⟩, .bool more] w fun e w' => e = faultE 3 ∧ Below lo w w' := by
  have hz := h.lt
  have HM := Lib.hid (fun V => wire_must 3 (by omega) V)
  have c17 : w.cell? ⟨g, 17, none⟩ = some (.bool ed.isSome) := box_cell h.box rfl
  rcases more with _ | _
  · clear c17 h hbad
    go_enter Tryd.func60, Tryd.ntmps60
    go_wp2_with fail
    refine (HM.out _).mono ?_; rintro e w1 ⟨rfl, rfl⟩
    go_wp2_with fail
    exact ⟨rfl, rfl, ((Ext.refl w).alloc _).mono (by omega)⟩
  · rcases he : ed.isSome with _ | _
    · rw [he] at c17 hbad
      have f1 : (n == [0]) = false := by
        rw [beq_eq_false_iff_ne]
        rcases hbad with hb | hb | hb
        · cases hb
        · cases hb
        · exact hb
      clear he h hbad
      go_enter Tryd.func60, Tryd.ntmps60
      go_wp2_with fail
      refine (HM.out _).mono ?_; rintro e w1 ⟨rfl, rfl⟩
      go_wp2_with fail
      exact ⟨rfl, rfl, ((Ext.refl w).alloc _).mono (by omega)⟩
    · rw [he] at c17
      clear he h hbad
      go_enter Tryd.func60, Tryd.ntmps60
      go_wp2_with fail
      refine (HM.out _).mono ?_; rintro e w1 ⟨rfl, rfl⟩
      go_wp2_with fail
      exact ⟨rfl, rfl, ((Ext.refl w).alloc _).mono (by omega)⟩
set_option maxHeartbeats 2000000 in
theorem rdr_option_no (h : RdX w g cp (rdRow d cp hd q a u xx none o) d p) (hlo : lo ≤ cp) (hg : Laid w) (hc : cls ≤ 65535) (ht : ttl ≤ 4294967295) (hdl : dat.length ≤ 65535) (hx : edR cls ttl dat = .error k) (hk : k ≠ 0) :
    Calls Tryd.prog 60 #[.pointer (some ⟨g, 0, none⟩), recVal ⟨[0], t, cls, ttl, dat⟩, .bool true] w fun e w' => e = faultE k ∧ Below lo w w' := by
  have hz := h.lt
  have HM := Lib.hid (fun V => wire_must k hk V)
  have HR := Lib.hid (fun V (hV : Ext w V) => edns_read cls ttl dat V (hg.ext hV) (by omega) hc ht)
  rw [hx] at HR
  have c17 : w.cell? ⟨g, 17, none⟩ = some (.bool false) := box_cell h.box rfl
  have f1 : (([0] : List UInt8) == [0]) = true := rfl
  clear h hx hk
  go_enter Tryd.func60, Tryd.ntmps60
  go_wp2_with fail
  refine (HR.out _ ((Ext.refl w).alloc _)).mono ?_; rintro e w1 ⟨⟨k', hk', rfl⟩ | ⟨x, v, hx', _, _⟩, hE1⟩
  rotate_left
  · cases hx'
  injection hk' with hk'
  subst hk'
  have hw1 : Ext w w1 := ((Ext.refl w).alloc _).trans hE1
  go_wp2_with fail
  refine (HM.out _).mono ?_; rintro e w2 ⟨rfl, rfl⟩
  go_wp2_with fail
  exact ⟨rfl, rfl, (hw1.alloc _).mono (by omega)⟩
set_option maxHeartbeats 2000000 in
theorem rdr_option (h : RdX w g cp (rdRow d cp hd q a u xx none o) d p) (hlo : lo ≤ cp) (hlg : lo ≤ g) (hg : Laid w) (hc : cls ≤ 65535) (ht : ttl ≤ 4294967295) (hdl : dat.length ≤ 65535) (hx : edR cls ttl dat = .ok x) :
    Calls Tryd.prog 60 #[.pointer (some ⟨g, 0, none⟩), recVal ⟨[0], t, cls, ttl, dat⟩, .bool true] w fun e w' => e = .returned (.tuple #[]) ∧ ∃ o', GoX lo g cp (rdRow d cp hd q a u xx (some x) o') d p w w' ∧ OptsT w' w.heap.size o' x.opts := by
  have hz := h.lt
  have HM := Lib.hid (fun V => wire_must0 V)
  have HR := Lib.hid (fun V (hV : Ext w V) => edns_read cls ttl dat V (hg.ext hV) (by omega) hc ht)
  rw [hx] at HR
  have c17 : w.cell? ⟨g, 17, none⟩ = some (.bool false) := box_cell h.box rfl
  have f1 : (([0] : List UInt8) == [0]) = true := rfl
  have HH := Lib.hid h
  clear h hx
  go_enter Tryd.func60, Tryd.ntmps60
  go_wp2_with fail
  refine (HR.out _ ((Ext.refl w).alloc _)).mono ?_; rintro e w1 ⟨⟨k', hk', _⟩ | ⟨x', v, hx', rfl, hv⟩, hE1⟩
  · cases hk'
  injection hx' with hx'
  subst hx'
  have hvT := hv.lower (lo' := w.heap.size) (by simp)
  obtain ⟨oA, oc, rfl, ho1, ho2, hor, hot⟩ := hv
  have hw1 : Ext w w1 := ((Ext.refl w).alloc _).trans hE1
  go_wp2_with fail
  refine (HM.out _).mono ?_; rintro e w2 ⟨rfl, rfl⟩
  have hw2 := hw1.alloc (.cells #[.int .u16 x.size, .int .u8 x.ext, .int .u8 x.ver, .int .u16 x.flags, .slice oA x.opts.length oc] 53)
  have hb2 := (HH.out.ext hw2).box
  have k17 := box_cell (j := 17) hb2 rfl
  have k18 := box_cell (j := 18) hb2 rfl
  have k19 := box_cell (j := 19) hb2 rfl
  have k20 := box_cell (j := 20) hb2 rfl
  have k21 := box_cell (j := 21) hb2 rfl
  have k22 := box_cell (j := 22) hb2 rfl
  have f17 := box_free (j := 17) hb2
  have f18 := box_free (j := 18) hb2
  have f19 := box_free (j := 19) hb2
  have f20 := box_free (j := 20) hb2
  have f21 := box_free (j := 21) hb2
  have f22 := box_free (j := 22) hb2
  obtain ⟨W, hW⟩ : ∃ W, W = w1.alloc (.cells #[.int .u16 x.size, .int .u8 x.ext, .int .u8 x.ver, .int .u16 x.flags, .slice oA x.opts.length oc] 53) := ⟨_, rfl⟩
  have hn2 := heap_alloc_new w1 (.cells #[.int .u16 x.size, .int .u8 x.ext, .int .u8 x.ver, .int .u16 x.flags, .slice oA x.opts.length oc] 53)
  have HE12 := Lib.hid (show Ext w1 W by rw [hW]; exact (Ext.refl _).alloc _)
  rw [← hW] at hw2 hb2 k17 k18 k19 k20 k21 k22 f17 f18 f19 f20 f21 f22 hn2
  have j0 := box_cell (j := 0) hn2 rfl
  have j1 := box_cell (j := 1) hn2 rfl
  have j2 := box_cell (j := 2) hn2 rfl
  have j3 := box_cell (j := 3) hn2 rfl
  have j4 := box_cell (j := 4) hn2 rfl
  go_upto_region 5 with fail
  rw [← hW]
  clear hW
  go_region
  obtain ⟨hV1, hV2, hV3⟩ := set_six (lo := lo) hb2 (.bool true) (.int .u16 x.size) (.int .u8 x.ext) (.int .u8 x.ver) (.int .u16 x.flags) (.slice oA x.opts.length oc) hlg
  have hcu := (HH.out.ext hw2).cur
  go_wp2_with fail
  go_end0
  have hK2 : KeptB g cp w W := KeptB.ext hw2
  refine ⟨rfl, .slice oA x.opts.length oc, ⟨⟨hV1, rfl, rfl, (hV2 cp (fun e => HH.out.ne e.symm)).trans hcu, HH.out.ne, HH.out.pd⟩, ⟨Nat.le_trans hK2.1 hV3.size, fun b hb h1 h2 => (hV2 b h1).trans (hK2.2 b hb h1 h2)⟩, (hw2.mono (by omega)).trans hV3⟩, ?_⟩
  exact (hvT.ext HE12.out).by_ fun k hk => hV2 k (fun e => by have := (hvT.lt k hk).1; omega)
end
end Go.Proofs.YtjmfpillnbnofaaDoor
namespace Go.Proofs.YtjmfpillnbnofaaDoor
open Go.RowKit
set_option maxRecDepth 100000
set_option linter.unusedSimpArgs false
set_option linter.unusedVariables false

theorem info_rec7 : (Tryd.prog.info? 75).map (fun i => (i.zero, i.size, i.bytes)) = some (some (.agg #[.string ⟨#[]⟩, .int .u16 0, .int .u16 0, .int .u32 0, .string ⟨#[]⟩]), 5, 40) := by kernel_rfl
/-- A []api.Record of the call's own. -/
def ORec7 (w : World) (lo : Nat) (v : Value) (l : List RecD) : Prop := ∃ A c, v = .slice A l.length c ∧ Own w lo 75 5 A l.length c (l.flatMap recCells)
theorem ORec7.keptB {g cp : Nat} {w w' : World} {lo : Nat} {v : Value} {l : List RecD} (h : ORec7 w lo v l) (hk : KeptB g cp w w') (h1 : g < lo) (h2 : cp < lo) : ORec7 w' lo v l := by
  obtain ⟨A, c, e, ho⟩ := h; exact ⟨A, c, e, ho.keptB hk h1 h2⟩
theorem ORec7.recs {w : World} {lo : Nat} {v : Value} {l : List RecD} (h : ORec7 w lo v l) : Recs w lo v l := by
  obtain ⟨A, c, e, h1⟩ := h; exact ⟨A, c, e, h1.cap.1, h1.cap.2, h1.rd⟩
theorem rec_one7 (r : RecD) : ∀ u ∈ recCells r, u.oneCell' = true := by
  intro u hu
  simp only [recCells, List.mem_cons, List.not_mem_nil, or_false] at hu
  rcases hu with rfl | rfl | rfl | rfl | rfl <;> rfl
theorem KeptB.rowx {g cp b i : Nat} {W w : World} (h : KeptB g cp W w) (hb : W.heap.size ≤ b) (u : Value) : KeptB g cp W (w.setCell ⟨b, i, none⟩ u) :=
  ⟨by simpa using h.1, fun x hx h1 h2 => (Below.heap_setCell w ⟨b, i, none⟩ u x (by dsimp only; omega)).trans (h.2 x hx h1 h2)⟩
theorem GoX.setNew {w w1 : World} {lo g cp p b : Nat} {M : Array Value} {d : List UInt8} (h : GoX lo g cp M d p w w1) (hz : g < w.heap.size ∧ cp < w.heap.size) (hlo : lo ≤ cp) (hb : w.heap.size ≤ b) (i : Nat) (u : Value) : GoX lo g cp M d p w (w1.setCell ⟨b, i, none⟩ u) :=
  ⟨⟨(Below.heap_setCell w1 ⟨b, i, none⟩ u g (by dsimp only; omega)).trans h.rd.box, h.rd.m0, h.rd.m1, (Below.heap_setCell w1 ⟨b, i, none⟩ u cp (by dsimp only; omega)).trans h.rd.cur, h.rd.ne, h.rd.pd⟩, h.kept.rowx hb u, h.below.setCell (by dsimp only; omega) u⟩
theorem GoX.refl {w : World} {lo g cp p : Nat} {M : Array Value} {d : List UInt8} (h : RdX w g cp M d p) : GoX lo g cp M d p w w := ⟨h, KeptB.refl _ _ _, Below.refl _ _⟩
theorem GoX.grown {w w1 w2 : World} {lo l2 g cp p n c sz : Nat} {e : TypeId} {A : Option Addr} {xs : List Value} {M : Array Value} {d : List UInt8} (h : GoX lo g cp M d p w w1) (hz : g < l2 ∧ cp < l2) (ho : Own w1 l2 e sz A n c xs) (hg : w1.grownBy w2 (Value.slice A n c).ownBlock) (hb : Below l2 w1 w2) (hlo : lo ≤ l2) (hwl : w.heap.size ≤ l2) : GoX lo g cp M d p w w2 :=
  ⟨⟨(hb.block g hz.1).trans h.rd.box, h.rd.m0, h.rd.m1, (hb.block cp hz.2).trans h.rd.cur, h.rd.ne, h.rd.pd⟩, h.kept.grown ho hwl hg, h.below.trans (hb.mono hlo)⟩
/-- What the reader's records comes to. -/
def RecsPost (lo l2 g cp : Nat) (d : List UInt8) (hd : HdD) (q a u xx : Value) (R : Except Nat (List RecD × Option EdD × Nat)) (w : World) (e : Ending) (w' : World) : Prop :=
  (∃ k, k ≠ 0 ∧ R = .error k ∧ e = faultE k ∧ Below lo w w') ∨
  (∃ l ed p o v, R = .ok (l, ed, p) ∧ e = .returned v ∧ GoX lo g cp (rdRow d cp hd q a u xx ed o) d p w w' ∧ OptsT w' l2 o (ed.getD edNone).opts ∧ ORec7 w' w.heap.size v l)
structure RsInv (w : World) (lo l2 g cp : Nat) (d : List UInt8) (hd : HdD) (q a u xx : Value) (more : Bool) (R : Except Nat (List RecD × Option EdD × Nat)) (n k p : Nat) (ed : Option EdD) (o : Value) (l : List RecD) (A : Option Addr) (c : Nat) (wr : World) : Prop where
  kn : k ≤ n
  ll : l.length ≤ k
  go : GoX lo g cp (rdRow d cp hd q a u xx ed o) d p w wr
  op : OptsT wr l2 o (ed.getD edNone).opts
  own : Own wr w.heap.size 75 5 A l.length c (l.flatMap recCells)
  ld : Laid wr
  eq : R = joinRc l (recsR d more (n - k) ed p)
theorem GoX.ext0 {w w' : World} {lo g cp p : Nat} {M : Array Value} {d : List UInt8} (h : GoX lo g cp M d p w w') (hg : Laid w) (h1 : 1 ≠ g) (h2 : 1 ≠ cp) : Laid w' := by
  have hz := hg.lt
  have := h.kept.2 _ hz h1 h2
  unfold Laid at *
  simp only [World.cell?, this]
  exact hg
set_option maxHeartbeats 8000000 in
theorem rdr_records (w : World) (lo l2 g cp p n : Nat) (d : List UInt8) (hd : HdD) (q a u xx o : Value) (ed : Option EdD) (more : Bool) (h : RdX w g cp (rdRow d cp hd q a u xx ed o) d p) (hlo : lo ≤ cp) (hlg : lo ≤ g) (hg : Laid w) (hge : 1 ≠ g) (hgc : 1 ≠ cp) (hdl : d.length ≤ 65535) (hn : n ≤ 65535) (ho : OptsT w l2 o (ed.getD edNone).opts) (hl1 : g < l2) (hl2 : cp < l2) (hl3 : l2 ≤ w.heap.size) :
    Calls Tryd.prog 46 #[.pointer (some ⟨g, 0, none⟩), .int .i64 n, .bool more] w (RecsPost lo l2 g cp d hd q a u xx (recsR d more n ed p) w) := by
  obtain ⟨R, hR⟩ : ∃ R, R = recsR d more n ed p := ⟨_, rfl⟩
  rw [← hR]
  have hz := h.lt
  obtain ⟨i0, hi0, hz0, hz1, hz2⟩ := info_parts info_rec7
  have HI := Lib.hid (show RsInv w lo l2 g cp d hd q a u xx more R n 0 p ed o [] none 0 w from ⟨Nat.zero_le _, by simp, GoX.refl h, ho, Own.nil _ _ _ _, hg, by rw [hR, joinRc_nil]; rfl⟩)
  have HM := Lib.hid (fun V => wire_must0 V)
  have hg0 := hg
  clear hR ho h hg
  go_enter Tryd.func46, Tryd.ntmps46
  go_wp2_with fail
  go_loopw [7, 8, 9, 10, 11, 12, 13, 15] (fun s7 _ _ _ _ _ _ s15 wr => ∃ (k p' : Nat) (ed' : Option EdD) (o' : Value) (l : List RecD) (A : Option Addr) (c : Nat), s15 = .int .i64 k ∧ s7 = .slice A l.length c ∧ RsInv w lo l2 g cp d hd q a u xx more R n k p' ed' o' l A c wr) (fun _ _ _ _ _ _ _ s15 _ => n - (intOf s15).toNat)
  case atStart => exact ⟨0, p, ed, o, [], none, 0, rfl, rfl, HI.out⟩
  case round =>
    obtain ⟨k, p0, ed1, o1, l, A, c, rfl, rfl, hI⟩ := hrel
    obtain ⟨wo, rfl⟩ : ∃ wo : World, wo = wr := ⟨_, rfl⟩
    clear HI
    have hkn := hI.kn
    have hll := hI.ll
    by_cases hlt : k < n
    · have hki : (k : Int) < (n : Int) := by omega
      have hnk : n - k = (n - (k + 1)) + 1 := by omega
      have HEQ := Lib.hid hI.eq
      rw [hnk] at HEQ
      have hzo : g < wo.heap.size ∧ cp < wo.heap.size := ⟨Nat.lt_of_lt_of_le hz.1 hI.go.kept.1, Nat.lt_of_lt_of_le hz.2 hI.go.kept.1⟩
      have hwo := hI.go.kept.1
      have G0 : GoX lo g cp (rdRow d cp hd q a u xx ed1 o1) d p0 wo wo := GoX.refl hI.go.rd
      have HIn := Lib.hid hI
      have hld := hI.ld
      clear hI hnk
      rcases hN : nameR d p0 with x | ⟨nm, p1⟩
      · have HF := Lib.hid (HEQ.out.trans (recs_bad l (rec_no1 hN)))
        have hx0 := (nameR_no hN).1
        have HC := Lib.hid (rdr_name_no G0.rd hlo hld hdl hN)
        clear hN
        go_wp2_with fail
        refine HC.out.mono ?_; rintro e w2 ⟨rfl, hB⟩
        go_wp2_with fail
        exact ⟨rfl, .inl ⟨x, hx0, HF.out, rfl, HIn.out.go.below.trans hB⟩⟩
      have HC := Lib.hid (rdr_name G0.rd hlo hld hdl hN)
      have HN := Lib.hid hN
      clear hN
      go_wp2_with fail
      refine HC.out.mono ?_; rintro e w2 ⟨rfl, G2⟩
      go_upto_region 5 with fail
      obtain ⟨b, hb⟩ : ∃ b, b = w2.heap.size := ⟨_, rfl⟩
      obtain ⟨W3, hW3⟩ : ∃ W3, W3 = w2.alloc (.cells #[S nm, .int .u16 0, .int .u16 0, .int .u32 0, S []] 75) := ⟨_, rfl⟩
      have b3 : W3.heap[b]? = some (.cells #[S nm, .int .u16 0, .int .u16 0, .int .u32 0, S []] 75) := by rw [hW3, hb]; exact heap_alloc_new _ _
      have hlwo : lo ≤ wo.heap.size := by omega
      have G3 : GoX lo g cp (rdRow d cp hd q a u xx ed1 o1) d p1 wo W3 := by rw [hW3]; exact G2.ext ((Ext.refl _).alloc _) hlwo
      have hbo : wo.heap.size ≤ b := by rw [hb]; exact G2.kept.1
      have hbg : b ≠ g := by omega
      have hbc : b ≠ cp := by omega
      have L3 := G3.ext0 hld hge hgc
      rw [← hW3, ← hb]
      clear hW3 hb
      rcases h3 : numR 2 d p1 with x | ⟨ty, p2⟩
      · have HF := Lib.hid (HEQ.out.trans (recs_bad l (rec_no2 HN.out h3)))
        have HC := Lib.hid (rdr_two_no G3.rd hlo L3 hdl h3)
        obtain ⟨rfl, _⟩ := numR_no h3
        clear h3
        go_wp2_with fail
        refine HC.out.mono ?_; rintro e w9 ⟨rfl, hB⟩
        go_wp2_with fail
        exact ⟨rfl, .inl ⟨4, by omega, HF.out, rfl, HIn.out.go.below.trans (G3.below.trans hB)⟩⟩
      have HC := Lib.hid (rdr_two G3.rd hlo hdl h3)
      have vb3 := numR2_ok h3
      have H3 := Lib.hid h3
      clear h3
      go_wp2_with fail
      refine HC.out.mono ?_; rintro e w4 ⟨rfl, G'⟩
      have b'3 := G'.kept.row b3 hbg hbc
      have G'3 := G'.more G3
      clear G' HC
      have cc := box_cell (j := 1) b'3 rfl
      have fc := box_free (j := 1) b'3
      go_upto_region 6 with fail
      have b4 : (w4.setCell ⟨b, 1, none⟩ (.int .u16 (ty : Int))).heap[b]? = some (.cells #[S nm, .int .u16 (ty : Int), .int .u16 0, .int .u32 0, S []] 75) := row_set b'3 1 _
      have G4 := G'3.setNew hzo hlo hbo 1 (.int .u16 (ty : Int))
      clear cc fc
      obtain ⟨W4, hW⟩ : ∃ W4, W4 = w4.setCell ⟨b, 1, none⟩ (.int .u16 (ty : Int)) := ⟨_, rfl⟩
      rw [← hW] at b4 G4 ⊢
      clear hW G'3 b'3 G3 b3
      have L4 := G4.ext0 hld hge hgc
      rcases h4 : numR 2 d p2 with x | ⟨cl, p3⟩
      · have HF := Lib.hid (HEQ.out.trans (recs_bad l (rec_no3 HN.out H3.out h4)))
        have HC := Lib.hid (rdr_two_no G4.rd hlo L4 hdl h4)
        obtain ⟨rfl, _⟩ := numR_no h4
        clear h4
        go_wp2_with fail
        refine HC.out.mono ?_; rintro e w9 ⟨rfl, hB⟩
        go_wp2_with fail
        exact ⟨rfl, .inl ⟨4, by omega, HF.out, rfl, HIn.out.go.below.trans (G4.below.trans hB)⟩⟩
      have HC := Lib.hid (rdr_two G4.rd hlo hdl h4)
      have vb4 := numR2_ok h4
      have H4 := Lib.hid h4
      clear h4
      go_wp2_with fail
      refine HC.out.mono ?_; rintro e w5 ⟨rfl, G'⟩
      have b'4 := G'.kept.row b4 hbg hbc
      have G'4 := G'.more G4
      clear G' HC
      have cc := box_cell (j := 2) b'4 rfl
      have fc := box_free (j := 2) b'4
      go_upto_region 7 with fail
      have b5 : (w5.setCell ⟨b, 2, none⟩ (.int .u16 (cl : Int))).heap[b]? = some (.cells #[S nm, .int .u16 (ty : Int), .int .u16 (cl : Int), .int .u32 0, S []] 75) := row_set b'4 2 _
      have G5 := G'4.setNew hzo hlo hbo 2 (.int .u16 (cl : Int))
      clear cc fc
      obtain ⟨W5, hW⟩ : ∃ W5, W5 = w5.setCell ⟨b, 2, none⟩ (.int .u16 (cl : Int)) := ⟨_, rfl⟩
      rw [← hW] at b5 G5 ⊢
      clear hW G'4 b'4 G4 b4
      have L5 := G5.ext0 hld hge hgc
      have c5 := G5.rd.c1
      rcases h5 : numR 4 d p3 with x | ⟨tt, p4⟩
      · have HF := Lib.hid (HEQ.out.trans (recs_bad l (rec_no4 HN.out H3.out H4.out h5)))
        have HC := Lib.hid (cx_four_no G5.rd.cur L5 (by unfold maxLen; omega) G5.rd.pd h5)
        have HM4 := Lib.hid (fun V => wire_must 4 (by omega) V)
        obtain ⟨rfl, _⟩ := numR_no h5
        clear h5
        go_wp2_with fail
        refine HC.out.mono ?_; rintro e w9 ⟨rfl, hE⟩
        go_wp2_with fail
        refine (HM4.out _).mono ?_; rintro e w10 ⟨rfl, rfl⟩
        go_wp2_with fail
        exact ⟨rfl, .inl ⟨4, by omega, HF.out, rfl, HIn.out.go.below.trans (G5.below.trans (hE.mono (by have := G5.rd.lt; omega)))⟩⟩
      have HC := Lib.hid (cx_four G5.rd.cur (by unfold maxLen; omega) h5)
      have vb5 := numR4_ok h5
      have hp4 : p4 ≤ d.length := by have := numR_ok h5; omega
      have H5 := Lib.hid h5
      clear h5
      go_wp2_with fail
      refine HC.out.mono ?_; rintro e w6 ⟨rfl, hs⟩
      have G'5 := (G5.rd.st hs hlo hp4).more G5
      have b'5 := hs.kept.row b5 hbc hbc
      clear hs HC c5
      have cc := box_cell (j := 3) b'5 rfl
      have fc := box_free (j := 3) b'5
      go_wp2_with fail
      refine (HM.out _).mono ?_; rintro e w9 ⟨rfl, rfl⟩
      go_upto_region 10 with fail
      have b6 : (w6.setCell ⟨b, 3, none⟩ (.int .u32 (tt : Int))).heap[b]? = some (.cells #[S nm, .int .u16 (ty : Int), .int .u16 (cl : Int), .int .u32 (tt : Int), S []] 75) := row_set b'5 3 _
      have G6 := G'5.setNew hzo hlo hbo 3 (.int .u32 (tt : Int))
      clear cc fc
      obtain ⟨W6, hW⟩ : ∃ W6, W6 = w6.setCell ⟨b, 3, none⟩ (.int .u32 (tt : Int)) := ⟨_, rfl⟩
      rw [← hW] at b6 G6 ⊢
      clear hW G'5 b'5 G5 b5
      have L6 := G6.ext0 hld hge hgc
      rcases h6 : numR 2 d p4 with x | ⟨sz, p5⟩
      · have HF := Lib.hid (HEQ.out.trans (recs_bad l (rec_no5 HN.out H3.out H4.out H5.out h6)))
        have HC := Lib.hid (rdr_two_no G6.rd hlo L6 hdl h6)
        obtain ⟨rfl, _⟩ := numR_no h6
        clear h6
        go_wp2_with fail
        refine HC.out.mono ?_; rintro e w9 ⟨rfl, hB⟩
        go_wp2_with fail
        exact ⟨rfl, .inl ⟨4, by omega, HF.out, rfl, HIn.out.go.below.trans (G6.below.trans hB)⟩⟩
      have HC := Lib.hid (rdr_two G6.rd hlo hdl h6)
      have vb6 := numR2_ok h6
      have H6 := Lib.hid h6
      clear h6
      go_wp2_with fail
      refine HC.out.mono ?_; rintro e w7 ⟨rfl, G'⟩
      have b'6 := G'.kept.row b6 hbg hbc
      have G'6 := G'.more G6
      clear G' HC
      have b7 := b'6
      have G7 := G'6
      clear G'6 b'6 G6 b6
      have L7 := G7.ext0 hld hge hgc
      have HALL := Lib.hid (rec_all (more := more) (ed := ed1) HN.out H3.out H4.out H5.out H6.out)
      have c7 := G7.rd.c1
      have HA := Lib.hid (cx_at G7.rd.cur)
      go_wp2_with fail
      refine HA.out.mono ?_; rintro e w8 ⟨rfl, rfl⟩
      rcases Nat.lt_or_ge d.length (p5 + sz) with hsh | hsh
      · have HF := Lib.hid (HEQ.out.trans (recs_bad l (HALL.out.trans (if_pos hsh))))
        have HC := Lib.hid (cx_take_no sz G7.rd.cur L7 (by unfold maxLen; omega) (by unfold maxLen; omega) G7.rd.pd hsh)
        have HM4 := Lib.hid (fun V => wire_must 4 (by omega) V)
        clear hsh
        go_wp2_with fail
        refine HC.out.mono ?_; rintro e w9 ⟨rfl, hE⟩
        go_wp2_with fail
        refine (HM4.out _).mono ?_; rintro e w10 ⟨rfl, rfl⟩
        go_wp2_with fail
        exact ⟨rfl, .inl ⟨4, by omega, HF.out, rfl, HIn.out.go.below.trans (G7.below.trans (hE.mono (by have := G7.rd.lt; omega)))⟩⟩
      have HAL := Lib.hid (HALL.out.trans (if_neg (by omega)))
      have HC := Lib.hid (cx_take sz G7.rd.cur (by unfold maxLen; omega) hsh)
      clear HALL
      go_wp2_with fail
      refine HC.out.mono ?_; rintro e w9 ⟨rfl, hs⟩
      have G9 := (G7.rd.st hs hlo hsh).more G7
      have b9 := hs.kept.row b7 hbc hbc
      have L9 := G9.ext0 hld hge hgc
      have c9 := G9.rd.c1
      have q1 := box_cell (j := 1) b9 rfl
      have q4 := box_cell (j := 4) b9 rfl
      have f4 := box_free (j := 4) b9
      clear hs HC c7 G7 b7 L7 HA
      go_wp2_with fail
      refine (HM.out _).mono ?_; rintro e w10 ⟨rfl, rfl⟩
      generalize hraw : (d.drop p5).take sz = raw at *
      have hrl : raw.length ≤ 65535 := by rw [← hraw, List.length_take, List.length_drop]; omega
      clear hraw
      by_cases h41 : ty = 41
      · subst h41
        have HAX := Lib.hid (HAL.out.trans (if_pos rfl))
        clear HAL
        go_upto_region 16 with fail
        have b10 : (w9.setCell ⟨b, 4, none⟩ (S raw)).heap[b]? = some (.cells #[S nm, .int .u16 ((41 : Nat) : Int), .int .u16 (cl : Int), .int .u32 (tt : Int), S raw] 75) := row_set b9 4 _
        have G10 := G9.setNew hzo hlo hbo 4 (S raw)
        obtain ⟨W10, hW⟩ : ∃ W10, W10 = w9.setCell ⟨b, 4, none⟩ (S raw) := ⟨_, rfl⟩
        rw [← hW] at b10 G10 ⊢
        clear hW q1 q4 f4 c9 b9 G9
        have L10 := G10.ext0 hld hge hgc
        have y0 := box_cell (j := 0) b10 rfl
        have y1 := box_cell (j := 1) b10 rfl
        have y2 := box_cell (j := 2) b10 rfl
        have y3 := box_cell (j := 3) b10 rfl
        have y4 := box_cell (j := 4) b10 rfl
        by_cases hbad : more = false ∨ ed1.isSome = true ∨ nm ≠ [0]
        · have HF := Lib.hid (HEQ.out.trans (recs_bad l (HAX.out.trans (if_pos hbad))))
          have HC := Lib.hid (rdr_option_bad (t := ((41 : Nat) : Int)) (cls := cl) (ttl := tt) (dat := raw) G10.rd hlo hbad)
          clear hbad
          go_wp2_with fail
          refine HC.out.mono ?_; rintro e w11 ⟨rfl, hB⟩
          go_wp2_with fail
          exact ⟨rfl, .inl ⟨3, by omega, HF.out, rfl, HIn.out.go.below.trans (G10.below.trans hB)⟩⟩
        have HAY := Lib.hid (HAX.out.trans (if_neg hbad))
        clear HAX
        have hm1 : more = true := by rcases more with _ | _; exact absurd (.inl rfl) hbad; rfl
        have hm2 : ed1 = none := by rcases ed1 with _ | _; rfl; exact absurd (.inr (.inl rfl)) hbad
        have hm3 : nm = [0] := by
          by_cases h : nm = [0]
          · exact h
          · exact absurd (.inr (.inr h)) hbad
        subst hm1 hm2 hm3
        clear hbad
        rcases hE : edR cl tt raw with x | y
        · rw [hE] at HAY
          have HF := Lib.hid (HEQ.out.trans (recs_bad l HAY.out))
          have hx4 := edR_err hE
          subst hx4
          have HC := Lib.hid (rdr_option_no (t := ((41 : Nat) : Int)) G10.rd hlo L10 (by omega) (by omega) hrl hE (by omega))
          clear hE
          go_wp2_with fail
          refine HC.out.mono ?_; rintro e w11 ⟨rfl, hB⟩
          go_wp2_with fail
          exact ⟨rfl, .inl ⟨4, by omega, HF.out, rfl, HIn.out.go.below.trans (G10.below.trans hB)⟩⟩
        rw [hE] at HAY
        have HF := Lib.hid (HEQ.out.trans (recs_step l HAY.out))
        have HC := Lib.hid (rdr_option (t := ((41 : Nat) : Int)) G10.rd hlo hlg L10 (by omega) (by omega) hrl hE)
        clear hE
        go_wp2_with fail
        refine HC.out.mono ?_; rintro e w11 ⟨rfl, o', G', hop⟩
        have G11 := G'.more G10
        have hw10 : l2 ≤ W10.heap.size := Nat.le_trans hl3 (Nat.le_trans hwo G10.kept.1)
        clear HC G'
        go_wp2_with fail
        go_roundw
        case rel =>
          refine ⟨k + 1, p5 + sz, some y, o', l, A, c, by go_num, rfl, ⟨by omega, by omega, G11.more HIn.out.go, hop.lower hw10, HIn.out.own.keptB G11.kept hz.1 hz.2, G11.ext0 hld hge hgc, ?_⟩⟩
          rw [HF.out]
          simp
        case measure => simp [intOf]; omega
      have HAX := Lib.hid (HAL.out.trans (if_neg h41))
      clear HAL
      have n41 : ((ty : Int) == 41) = false := by rw [beq_eq_false_iff_ne]; omega
      have HR := Lib.hid (fun V (hV : Ext w9 V) => rdata_read d p5 sz (ty : Int) V ((G9.ext hV hlwo).ext0 hld hge hgc) (by omega) hsh)
      generalize hSP : splitOf (d.take (p5 + sz)) p5 (ty : Int) = SP at *
      clear hSP
      obtain ⟨pcs, er⟩ := SP
      dsimp only at HAX
      go_upto_region 17 with fail
      have HQ := Lib.hid (fun V (hV : Ext w9 V) => (show V.cell? ⟨g, 0, none⟩ = some (S d) ∧ V.cell? ⟨b, 1, none⟩ = some (.int .u16 (ty : Int)) from ⟨(G9.rd.ext hV).c0, (hV.cell (p := ⟨b, 1, none⟩) (Array.getElem?_eq_some_iff.1 b9).1).trans q1⟩))
      refine wp_region_noPanic ?_
      refine wp_region_tree (S := fun V => V.cell? ⟨g, 0, none⟩ = some (S d) ∧ V.cell? ⟨b, 1, none⟩ = some (.int .u16 (ty : Int))) (.take 0 (.take 1 (.take 2 (.take 3 (.take 4 (.take 5 (.take 6 (.take 7 (.run 8 (.take 9 (.take 10 (.take 11 (.take 12 (.run 13 (.take 14 .done))))))))))))))) (by kernel_rfl) (by kernel_rfl) (fun _ _ _ _ _ h => h) (HQ.out _ (Ext.refl w9).drew) ?_
      repeat ((with_reducible refine treeIs ?_); first
        | (refine treeTake (v := ?_) (by rfl) (by rfl) ?_ ?_; rotate_left; (focus (intro V hV; obtain ⟨hV0, hV1⟩ := hV; (go_simp <;> with_reducible rfl))); (try simp only [Act.put, List.setIfInBounds_toArray, List.set_cons_zero, List.set_cons_succ])))
      refine treeRun (by rfl) (fun K hK => ?_)
      go_simp
      refine (HR.out _ ((Ext.refl w9).drew)).mono ?_; rintro e w10 ⟨rfl, hE10'⟩
      have hE10 : Ext w9 w10 := Ext.trans ((Ext.refl w9).drew) hE10'
      refine hK.out _ _ (HQ.out _ hE10) ?_
      clear hK K
      (try simp only [Act.put, List.setIfInBounds_toArray, List.set_cons_zero, List.set_cons_succ])
      repeat ((with_reducible refine treeIs ?_); first
        | (refine treeTake (v := ?_) (by rfl) (by rfl) ?_ ?_; rotate_left; (focus (intro V hV; obtain ⟨hV0, hV1⟩ := hV; (go_simp <;> with_reducible rfl))); (try simp only [Act.put, List.setIfInBounds_toArray, List.set_cons_zero, List.set_cons_succ])))
      have G10 := G9.ext hE10 hlwo
      have b10 := (hE10.block b (Array.getElem?_eq_some_iff.1 b9).1).trans b9
      have s4 := box_cell (j := 4) b10 rfl
      have sf4 := box_free (j := 4) b10
      have s1 := box_cell (j := 1) b10 rfl
      clear q1 q4 f4 c9
      refine treeRun (by rfl) (fun K hK => ?_)
      go_simp
      obtain ⟨DT, hDT⟩ : ∃ DT, DT = (if er = 0 then textOf pcs else []) := ⟨_, rfl⟩
      rw [← hDT]
      have b11 : (w10.setCell ⟨b, 4, none⟩ (S DT)).heap[b]? = some (.cells #[S nm, .int .u16 (ty : Int), .int .u16 (cl : Int), .int .u32 (tt : Int), S DT] 75) := row_set b10 4 _
      have G11 := G10.setNew hzo hlo hbo 4 (S DT)
      obtain ⟨W11, hW⟩ : ∃ W11, W11 = w10.setCell ⟨b, 4, none⟩ (S DT) := ⟨_, rfl⟩
      show K _ (w10.setCell ⟨b, 4, none⟩ (S DT))
      rw [← hW] at b11 G11 ⊢
      clear hW s4 sf4 s1
      refine hK.out _ _ ⟨G11.rd.c0, box_cell (j := 1) b11 rfl⟩ ?_
      clear hK K
      (try simp only [Act.put, List.setIfInBounds_toArray, List.set_cons_zero, List.set_cons_succ])
      repeat ((with_reducible refine treeIs ?_); first
        | (refine treeTake (v := ?_) (by rfl) (by rfl) ?_ ?_; rotate_left; (focus (intro V hV; obtain ⟨hV0, hV1⟩ := hV; (go_simp <;> with_reducible rfl))); (try simp only [Act.put, List.setIfInBounds_toArray, List.set_cons_zero, List.set_cons_succ])))
      refine treeDone ?_
      refine NoPanic.normal ?_
      by_cases her : er = 0
      rotate_left
      · have HF := Lib.hid (HEQ.out.trans (recs_bad l (HAX.out.trans (if_neg her))))
        have HME := Lib.hid (fun V => wire_must er her V)
        have hG := G11.below
        have Her := Lib.hid her
        clear her
        go_wp2_with fail
        refine (HME.out _).mono ?_; rintro e w12 ⟨rfl, rfl⟩
        go_wp2_with fail
        exact ⟨rfl, .inl ⟨er, Her.out, HF.out, rfl, HIn.out.go.below.trans hG⟩⟩
      have HF := Lib.hid (HEQ.out.trans (recs_step l (HAX.out.trans (if_pos her))))
      rw [if_pos her] at hDT
      rw [← hDT] at HF
      subst her
      clear hDT
      have y0 := box_cell (j := 0) b11 rfl
      have y1 := box_cell (j := 1) b11 rfl
      have y2 := box_cell (j := 2) b11 rfl
      have y3 := box_cell (j := 3) b11 rfl
      have y4 := box_cell (j := 4) b11 rfl
      have hown := HIn.out.own.keptB G11.kept hz.1 hz.2
      have hw11 : w.heap.size ≤ W11.heap.size := Nat.le_trans hwo G11.kept.1
      go_wp2_with (first
        | (refine (HM.out _).mono ?_; rintro e w12 ⟨rfl, rfl⟩)
        | (at_builtin
           refine wpList_app _ rfl (.tmp 81) (.tmp 83) _ rfl w.heap.size 75 i0 _ 5 40 Tryd.underlying50 hi0 hz0 hz1 hz2 rfl (by omega) A l.length c (l.flatMap recCells) rfl (hown.ext ((Ext.refl _).alloc _)) 0 _ 1 1 (recCells ⟨nm, (ty : Int), (cl : Int), (tt : Int), DT⟩) rfl (rd_new _ _ (by simp) _ _ 1 5 rfl) (rec_one7 _) (by omega) (by omega) (by simp; omega) ?_
           intro A6 c6 w13 hown6 hg6 hb6 hat6)
        | fail)
      have G13 := ((G11.ext ((Ext.refl W11).alloc _) hlwo).more HIn.out.go).grown (hz) (hown.ext ((Ext.refl _).alloc _)) hg6 hb6 (by omega) (Nat.le_refl _)
      have hop13 := ((HIn.out.op.keptB G11.kept hl1 hl2).ext ((Ext.refl W11).alloc (.cells (recCells ⟨nm, (ty : Int), (cl : Int), (tt : Int), DT⟩).toArray 75))).grown (hown.ext ((Ext.refl _).alloc _)) (by decide) hg6
      go_roundw
      case rel =>
        refine ⟨k + 1, p5 + sz, ed1, o1, l ++ [⟨nm, (ty : Int), (cl : Int), (tt : Int), DT⟩], A6, c6, by go_num, by simp, ⟨by omega, by simp; omega, G13, hop13, ?_, G13.ext0 hg0 hge hgc, ?_⟩⟩
        · simpa using hown6
        · rw [HF.out]; rfl
      case measure => simp [intOf]; omega
    · obtain rfl : k = n := by omega
      have HF := Lib.hid (show R = .ok (l, ed1, p0) by
        rw [hI.eq, Nat.sub_self]
        simp [recsR, joinRc])
      have HIn := Lib.hid hI
      clear hI
      go_wp2_with fail
      go_ret
      exact .inr ⟨l, ed1, p0, o1, _, HF.out, rfl, HIn.out.go, HIn.out.op, ⟨A, c, rfl, HIn.out.own⟩⟩
end Go.Proofs.YtjmfpillnbnofaaDoor
namespace Go.Proofs.YtjmfpillnbnofaaDoor
open Go.RowKit
set_option maxRecDepth 100000
set_option linter.unusedSimpArgs false
set_option linter.unusedVariables false

theorem info_qu : (Tryd.prog.info? 27).map (fun i => (i.zero, i.size, i.bytes)) = some (some (.agg #[.string ⟨#[]⟩, .int .u16 0, .int .u16 0]), 3, 24) := by kernel_rfl
theorem qu_one7 (q : QD) : ∀ u ∈ quCells q, u.oneCell' = true := by
  intro u hu
  simp only [quCells, List.mem_cons, List.not_mem_nil, or_false] at hu
  rcases hu with rfl | rfl | rfl <;> rfl
structure QInv (Y : World) (lo g cp : Nat) (hd : HdD) (d : List UInt8) (R : Except Nat (List QD × Nat)) (n k p : Nat) (l : List QD) (A : Option Addr) (c : Nat) (wr : World) : Prop where
  kn : k ≤ n
  ll : l.length ≤ k
  go : GoX lo g cp (rdRow d cp hd (.slice A l.length c) (.slice none 0 0) (.slice none 0 0) (.slice none 0 0) none (.slice none 0 0)) d p Y wr
  own : Own wr Y.heap.size 27 3 A l.length c (l.flatMap quCells)
  eq : R = joinQ l (qusR d (n - k) p)
theorem GoX.setg {w w1 : World} {lo g cp p j : Nat} {M : Array Value} {d : List UInt8} (h : GoX lo g cp M d p w w1) (hj : 2 ≤ j) (hm : 2 ≤ M.size) (u : Value) (hlo : lo ≤ g) : GoX lo g cp (M.setIfInBounds j u) d p w (w1.setCell ⟨g, j, none⟩ u) := by
  refine ⟨⟨row_set h.rd.box j u, ?_, ?_, (Below.heap_setCell w1 ⟨g, j, none⟩ u cp (fun e => h.rd.ne e.symm)).trans h.rd.cur, h.rd.ne, h.rd.pd⟩, h.kept.trans (KeptB.setg w1 j u), h.below.setCell hlo u⟩
  · rw [Array.getElem?_setIfInBounds_ne (by omega)]; exact h.rd.m0
  · rw [Array.getElem?_setIfInBounds_ne (by omega)]; exact h.rd.m1
theorem ORec7.by_ {w w' : World} {lo : Nat} {v : Value} {l : List RecD} (h : ORec7 w lo v l) (hk : ∀ k, lo ≤ k → k < w.heap.size → w'.heap[k]? = w.heap[k]?) : ORec7 w' lo v l := by
  obtain ⟨A, c, e, ho⟩ := h
  refine ⟨A, c, e, ho.1, ?_⟩
  rcases ho.2 with h3 | ⟨b, cap, cur, h3, hb, hh, h4⟩
  · exact .inl h3
  · exact .inr ⟨b, cap, cur, h3, hb, (hk b hb (Array.getElem?_eq_some_iff.1 hh).1).trans hh, h4⟩
theorem ORec7.lower {w : World} {lo lo' : Nat} {v : Value} {l : List RecD} (h : ORec7 w lo v l) (hl : lo' ≤ lo) : ORec7 w lo' v l := by
  obtain ⟨A, c, e, ho⟩ := h
  exact ⟨A, c, e, ho.lower hl⟩
def OQus (w : World) (lo : Nat) (v : Value) (l : List QD) : Prop := ∃ A c, v = .slice A l.length c ∧ Own w lo 27 3 A l.length c (l.flatMap quCells)
theorem OQus.by_ {w w' : World} {lo : Nat} {v : Value} {l : List QD} (h : OQus w lo v l) (hk : ∀ k, lo ≤ k → k < w.heap.size → w'.heap[k]? = w.heap[k]?) : OQus w' lo v l := by
  obtain ⟨A, c, e, ho⟩ := h
  refine ⟨A, c, e, ho.1, ?_⟩
  rcases ho.2 with h3 | ⟨b, cap, cur, h3, hb, hh, h4⟩
  · exact .inl h3
  · exact .inr ⟨b, cap, cur, h3, hb, (hk b hb (Array.getElem?_eq_some_iff.1 hh).1).trans hh, h4⟩
/-- The slices of a message, of the call's own. -/
structure MsgO (w : World) (lo : Nat) (m : MsgD) (q a u x o : Value) : Prop where
  qs : OQus w lo q m.qs
  ans : ORec7 w lo a m.ans
  auth : ORec7 w lo u m.auth
  extra : ORec7 w lo x m.extra
  opts : OptsT w lo o m.ed.opts
theorem MsgO.by_ {w w' : World} {lo : Nat} {m : MsgD} {q a u x o : Value} (h : MsgO w lo m q a u x o) (hk : ∀ k, lo ≤ k → k < w.heap.size → w'.heap[k]? = w.heap[k]?) : MsgO w' lo m q a u x o :=
  ⟨h.qs.by_ hk, h.ans.by_ hk, h.auth.by_ hk, h.extra.by_ hk, h.opts.by_ fun k hkk => hk k (h.opts.lt k hkk).1 (h.opts.lt k hkk).2⟩
theorem MsgO.lower {w : World} {lo lo' : Nat} {m : MsgD} {q a u x o : Value} (h : MsgO w lo m q a u x o) (hl : lo' ≤ lo) : MsgO w lo' m q a u x o := by
  obtain ⟨A, c, e, ho⟩ := h.qs
  exact ⟨⟨A, c, e, ho.lower hl⟩, h.ans.lower hl, h.auth.lower hl, h.extra.lower hl, h.opts.lower hl⟩
theorem MsgO.ext {w w' : World} {lo : Nat} {m : MsgD} {q a u x o : Value} (h : MsgO w lo m q a u x o) (hE : Ext w w') : MsgO w' lo m q a u x o := h.by_ fun k _ h2 => hE.block k h2
structure MsgBd (m : MsgD) : Prop where
  qok : ∀ q ∈ m.qs, q.name.length ≤ 1048576
  aok : ∀ r ∈ m.ans, Rec7Ok r
  uok : ∀ r ∈ m.auth, Rec7Ok r
  xok : ∀ r ∈ m.extra, Rec7Ok r
  xl : m.extra.length ≤ 1152921504606846976
theorem MsgO.msg7 {w : World} {lo : Nat} {m : MsgD} {q a u x o : Value} (h : MsgO w lo m q a u x o) (hb : MsgBd m) : Msg7 w m q a u x o := by
  obtain ⟨A, c, e, ho⟩ := h.qs
  exact ⟨⟨A, c, e, ho.cap.1, ho.cap.2, ho.rd.lower (Nat.zero_le _)⟩, h.ans.recs.lower (Nat.zero_le _), h.auth.recs.lower (Nat.zero_le _), h.extra.recs.lower (Nat.zero_le _), (h.opts.lower (Nat.zero_le _)).opts, hb.qok, hb.aok, hb.uok, hb.xok, hb.xl⟩
def ReadPost (d : List UInt8) (w : World) (e : Ending) (w' : World) : Prop :=
  ((∃ k, k ≠ 0 ∧ decR d = .error k ∧ e = faultE k) ∨ (∃ m q a u x o, decR d = .ok m ∧ e = .returned (msg7V m.hd q a u x m.he m.ed o) ∧ MsgO w' w.heap.size m q a u x o ∧ MsgBd m)) ∧ Ext w w'
set_option maxHeartbeats 8000000 in
theorem wire_read (d : List UInt8) (w : World) (hg : Laid w) (hb : BitsAt w) (hd : d.length ≤ 1048576) :
    Calls Tryd.prog 30 #[S d] w (ReadPost d w) := by
  obtain ⟨X0, hX0⟩ : ∃ X0, X0 = w.alloc (.cells #[.int .u16 0, .bool false, .int .u8 0, .bool false, .bool false, .bool false, .bool false, .bool false, .bool false, .bool false, .int .u8 0, .slice none 0 0, .slice none 0 0, .slice none 0 0, .slice none 0 0, .bool false, .int .u16 0, .int .u8 0, .int .u8 0, .int .u16 0, .slice none 0 0] 55) := ⟨_, rfl⟩
  have hw0 : Ext w X0 := by rw [hX0]; exact (Ext.refl _).alloc _
  have r0 : X0.heap[w.heap.size]? = some (.cells #[.int .u16 0, .bool false, .int .u8 0, .bool false, .bool false, .bool false, .bool false, .bool false, .bool false, .bool false, .int .u8 0, .slice none 0 0, .slice none 0 0, .slice none 0 0, .slice none 0 0, .bool false, .int .u16 0, .int .u8 0, .int .u8 0, .int .u16 0, .slice none 0 0] 55) := by rw [hX0]; exact heap_alloc_new _ _
  have HM0 := Lib.hid (fun V => wire_must0 V)
  have HM4 := Lib.hid (fun V => wire_must 4 (by omega) V)
  have HM5 := Lib.hid (fun V => wire_must 5 (by omega) V)
  by_cases hlong : 65535 < d.length
  · have hF : decR d = .error 5 := by unfold decR; rw [if_pos hlong]
    have hli : (65535 : Int) < (d.length : Int) := by omega
    have HF := Lib.hid hF
    clear hF hlong r0
    go_enter Tryd.func30, Tryd.ntmps30
    go_upto_region 1 with fail
    rw [← hX0]
    clear hX0
    go_wp2_with fail
    refine (HM5.out _).mono ?_; rintro e w1 ⟨rfl, rfl⟩
    go_wp2_with fail
    exact ⟨rfl, .inl ⟨5, by omega, HF.out, rfl⟩, hw0⟩
  have hli : ¬ ((65535 : Int) < (d.length : Int)) := by omega
  by_cases hshort : d.length < 12
  · have hF : decR d = .error 4 := by unfold decR; rw [if_neg hlong, if_pos hshort]
    have HR := Lib.hid (head_read_no d X0 hshort)
    have HF := Lib.hid hF
    clear hF hlong r0 hshort
    go_enter Tryd.func30, Tryd.ntmps30
    go_upto_region 1 with fail
    rw [← hX0]
    clear hX0
    go_wp2_with fail
    refine HR.out.mono ?_; rintro e w1 ⟨rfl, hE1⟩
    go_wp2_with fail
    refine (HM4.out _).mono ?_; rintro e w2 ⟨rfl, rfl⟩
    go_wp2_with fail
    exact ⟨rfl, .inl ⟨4, by omega, HF.out, rfl⟩, ((hw0.trans hE1).alloc _).alloc _⟩
  have HR := Lib.hid (head_read d X0 (hg.ext hw0) (hb.ext hw0) (by omega) (by unfold maxLen; omega))
  obtain ⟨hdr, hhd⟩ : ∃ hdr, hdr = fromN (n16 d 0) (n16 d 2) := ⟨_, rfl⟩
  rw [← hhd] at HR
  have HHD := Lib.hid hhd
  clear hhd
  go_enter Tryd.func30, Tryd.ntmps30
  go_upto_region 1 with fail
  rw [← hX0]
  clear hX0
  go_wp2_with fail
  refine HR.out.mono ?_; rintro e w1 ⟨rfl, hE1⟩
  clear HR
  go_wp2_with fail
  refine (HM0.out _).mono ?_; rintro e w2 ⟨rfl, rfl⟩
  obtain ⟨X3, hX3⟩ : ∃ X3, X3 = (w1.alloc (.cells #[.int .u16 hdr.id, .bool hdr.qr, .int .u8 hdr.op, .bool hdr.aa, .bool hdr.tc, .bool hdr.rd, .bool hdr.ra, .bool hdr.z, .bool hdr.ad, .bool hdr.cd, .int .u8 hdr.code] 25)).alloc (.cells #[.int .i64 (n16 d 4 : Int), .int .i64 (n16 d 6 : Int), .int .i64 (n16 d 8 : Int), .int .i64 (n16 d 10 : Int)] 65) := ⟨_, rfl⟩
  obtain ⟨hh, hhh⟩ : ∃ hh, hh = w1.heap.size := ⟨_, rfl⟩
  have rc : X3.heap[hh + 1]? = some (.cells #[.int .i64 (n16 d 4 : Int), .int .i64 (n16 d 6 : Int), .int .i64 (n16 d 8 : Int), .int .i64 (n16 d 10 : Int)] 65) := by rw [hX3, hhh]; exact heap_alloc2_new w1 _ _
  have rh : X3.heap[hh]? = some (.cells #[.int .u16 hdr.id, .bool hdr.qr, .int .u8 hdr.op, .bool hdr.aa, .bool hdr.tc, .bool hdr.rd, .bool hdr.ra, .bool hdr.z, .bool hdr.ad, .bool hdr.cd, .int .u8 hdr.code] 25) := by
    rw [hX3, hhh]
    have h1 := heap_alloc_new w1 (.cells #[.int .u16 hdr.id, .bool hdr.qr, .int .u8 hdr.op, .bool hdr.aa, .bool hdr.tc, .bool hdr.rd, .bool hdr.ra, .bool hdr.z, .bool hdr.ad, .bool hdr.cd, .int .u8 hdr.code] 25)
    rw [heap_alloc_old _ _ (Array.getElem?_eq_some_iff.1 h1).1]; exact h1
  have hX3w : Ext w X3 := by rw [hX3]; exact ((hw0.trans hE1).alloc _).alloc _
  have hX03 : Ext X0 X3 := by rw [hX3]; exact (hE1.alloc _).alloc _
  go_upto_region 5 with fail
  rw [← hX3, ← hhh]
  clear hX3 hhh hE1
  go_cut [6] (fun s6 wx => ∃ g cp, s6 = .pointer (some ⟨g, 0, none⟩) ∧ RdX wx g cp (rdRow d cp hdr (.slice none 0 0) (.slice none 0 0) (.slice none 0 0) (.slice none 0 0) none (.slice none 0 0)) d 0 ∧ Ext X3 wx ∧ X3.heap.size ≤ g ∧ X3.heap.size ≤ cp)
  case first =>
    refine wp_region_noPanic ?_
    refine wp_region_tree (S := fun V => V.heap[hh]? = some (.cells #[.int .u16 hdr.id, .bool hdr.qr, .int .u8 hdr.op, .bool hdr.aa, .bool hdr.tc, .bool hdr.rd, .bool hdr.ra, .bool hdr.z, .bool hdr.ad, .bool hdr.cd, .int .u8 hdr.code] 25)) (.take 0 (.take 1 (.take 3 (.take 4 (.run2 2 (.take 5 (.run 6 (.run 7 .done))) 6 (.run 2 (.take 5 (.run 7 .done)))))))) (by kernel_rfl) (by kernel_rfl) (fun _ _ _ _ _ h => h) rh ?_
    repeat ((with_reducible refine treeIs ?_); first
      | (refine treeTake (v := ?_) (by rfl) (by rfl) ?_ ?_; rotate_left; (focus (intro V hV; refine exec_load_part 25 (.tmp 3) ?_ hh 0 ?_ _ (row_all hV) _ Tryd.underlying25 ?_ ?_; (focus rfl); (focus rfl); (focus rfl); (focus kernel_rfl))); (try simp only [Act.put, List.setIfInBounds_toArray, List.set_cons_zero, List.set_cons_succ]))
      | (refine treeTake (v := ?_) (by rfl) (by rfl) ?_ ?_; rotate_left; (focus (intro V hV; (try dsimp only at hV); (go_simp <;> with_reducible rfl))); (try simp only [Act.put, List.setIfInBounds_toArray, List.set_cons_zero, List.set_cons_succ])))
    refine treeRun2 ?_ ?_
    · refine treeRun (by rfl) (fun K hK => ?_)
      go_simp
      refine (cx_new d _).mono ?_; rintro e w4 ⟨rfl, hrow4, hE4, hsz4⟩
      have hE34 : Ext X3 w4 := Ext.trans ((Ext.refl X3).drew) hE4
      refine hK.out _ _ ((hE34.block hh (Array.getElem?_eq_some_iff.1 rh).1).trans rh) ?_
      clear hK K
      (try simp only [Act.put, List.setIfInBounds_toArray, List.set_cons_zero, List.set_cons_succ])
      repeat ((with_reducible refine treeIs ?_); first
        | (refine treeTake (v := ?_) (by rfl) (by rfl) ?_ ?_; rotate_left; (focus (intro V hV; (try dsimp only at hV); (go_simp <;> with_reducible rfl))); (try simp only [Act.put, List.setIfInBounds_toArray, List.set_cons_zero, List.set_cons_succ])))
      refine treeRun (by rfl) (fun K hK => ?_)
      go_simp
      have hz4 : (w4.alloc (.cells #[.string ⟨#[]⟩, .pointer none, .int .u16 0, .bool false, .int .u8 0, .bool false, .bool false, .bool false, .bool false, .bool false, .bool false, .bool false, .int .u8 0, .slice none 0 0, .slice none 0 0, .slice none 0 0, .slice none 0 0, .bool false, .int .u16 0, .int .u8 0, .int .u8 0, .int .u16 0, .slice none 0 0] 115)).heap[X3.heap.size + 1]? = some (.cells #[.string ⟨#[]⟩, .pointer none, .int .u16 0, .bool false, .int .u8 0, .bool false, .bool false, .bool false, .bool false, .bool false, .bool false, .bool false, .int .u8 0, .slice none 0 0, .slice none 0 0, .slice none 0 0, .slice none 0 0, .bool false, .int .u16 0, .int .u8 0, .int .u8 0, .int .u16 0, .slice none 0 0] 115) := by
        have h1 := heap_alloc_new w4 (.cells #[.string ⟨#[]⟩, .pointer none, .int .u16 0, .bool false, .int .u8 0, .bool false, .bool false, .bool false, .bool false, .bool false, .bool false, .bool false, .int .u8 0, .slice none 0 0, .slice none 0 0, .slice none 0 0, .slice none 0 0, .bool false, .int .u16 0, .int .u8 0, .int .u8 0, .int .u16 0, .slice none 0 0] 115)
        rw [show w4.heap.size = X3.heap.size + 1 from hsz4] at h1; exact h1
      have hc4 : (w4.alloc (.cells #[.string ⟨#[]⟩, .pointer none, .int .u16 0, .bool false, .int .u8 0, .bool false, .bool false, .bool false, .bool false, .bool false, .bool false, .bool false, .int .u8 0, .slice none 0 0, .slice none 0 0, .slice none 0 0, .slice none 0 0, .bool false, .int .u16 0, .int .u8 0, .int .u8 0, .int .u16 0, .slice none 0 0] 115)).heap[X3.heap.size]? = some (.cells (cuRow d 0) 111) := (heap_alloc_old _ _ (Array.getElem?_eq_some_iff.1 hrow4).1).trans hrow4
      have hE5 : Ext X3 (w4.alloc (.cells #[.string ⟨#[]⟩, .pointer none, .int .u16 0, .bool false, .int .u8 0, .bool false, .bool false, .bool false, .bool false, .bool false, .bool false, .bool false, .int .u8 0, .slice none 0 0, .slice none 0 0, .slice none 0 0, .slice none 0 0, .bool false, .int .u16 0, .int .u8 0, .int .u8 0, .int .u16 0, .slice none 0 0] 115)) := hE34.alloc _
      obtain ⟨W5, hW5⟩ : ∃ W5, W5 = w4.alloc (.cells #[.string ⟨#[]⟩, .pointer none, .int .u16 0, .bool false, .int .u8 0, .bool false, .bool false, .bool false, .bool false, .bool false, .bool false, .bool false, .int .u8 0, .slice none 0 0, .slice none 0 0, .slice none 0 0, .slice none 0 0, .bool false, .int .u16 0, .int .u8 0, .int .u8 0, .int .u16 0, .slice none 0 0] 115) := ⟨_, rfl⟩
      rw [← hW5] at hz4 hc4 hE5 ⊢
      clear hW5
      refine hK.out _ _ ((hE5.block hh (Array.getElem?_eq_some_iff.1 rh).1).trans rh) ?_
      clear hK K
      (try simp only [Act.put, List.setIfInBounds_toArray, List.set_cons_zero, List.set_cons_succ])
      refine treeRun (by rfl) (fun K hK => ?_)
      rw [if_pos (by rfl)]
      refine wp_store_row 115 (.tmp 6) (.tmp 25) rfl (X3.heap.size + 1) (rdRow d X3.heap.size hdr (.slice none 0 0) (.slice none 0 0) (.slice none 0 0) (.slice none 0 0) none (.slice none 0 0)) rfl rfl 115 _ hz4 (by kernel_rfl) rfl (by kernel_rfl) ?_
      have g5 := grown_row W5 (X3.heap.size + 1) (rdRow d X3.heap.size hdr (.slice none 0 0) (.slice none 0 0) (.slice none 0 0) (.slice none 0 0) none (.slice none 0 0))
      have hE6 := Below.grown hE5 g5 hE5.size (fun k hk => by injection hk with hk; omega)
      refine hK.out _ _ ((hE6.block hh (Array.getElem?_eq_some_iff.1 rh).1).trans rh) ?_
      clear hK K
      (try simp only [Act.put, List.setIfInBounds_toArray, List.set_cons_zero, List.set_cons_succ])
      refine treeDone ?_
      refine NoPanic.normal ?_
      go_wp2_with fail
      go_meet
      exact ⟨X3.heap.size + 1, X3.heap.size, rfl, ⟨setRow_heap W5 _ _ _ _ _ hz4, rfl, rfl, (g5.block _ (Array.getElem?_eq_some_iff.1 hc4).1 (by simp)).trans hc4, by omega, Nat.zero_le _⟩, hE6, by omega, by omega⟩
    · refine treeRun (by rfl) (fun K hK => ?_)
      go_simp
      have hz4 : (X3.alloc (.cells #[.string ⟨#[]⟩, .pointer none, .int .u16 0, .bool false, .int .u8 0, .bool false, .bool false, .bool false, .bool false, .bool false, .bool false, .bool false, .int .u8 0, .slice none 0 0, .slice none 0 0, .slice none 0 0, .slice none 0 0, .bool false, .int .u16 0, .int .u8 0, .int .u8 0, .int .u16 0, .slice none 0 0] 115)).drew.heap[X3.heap.size]? = some (.cells #[.string ⟨#[]⟩, .pointer none, .int .u16 0, .bool false, .int .u8 0, .bool false, .bool false, .bool false, .bool false, .bool false, .bool false, .bool false, .int .u8 0, .slice none 0 0, .slice none 0 0, .slice none 0 0, .slice none 0 0, .bool false, .int .u16 0, .int .u8 0, .int .u8 0, .int .u16 0, .slice none 0 0] 115) := heap_alloc_new X3 (.cells #[.string ⟨#[]⟩, .pointer none, .int .u16 0, .bool false, .int .u8 0, .bool false, .bool false, .bool false, .bool false, .bool false, .bool false, .bool false, .int .u8 0, .slice none 0 0, .slice none 0 0, .slice none 0 0, .slice none 0 0, .bool false, .int .u16 0, .int .u8 0, .int .u8 0, .int .u16 0, .slice none 0 0] 115)
      have hE4 : Ext X3 (X3.alloc (.cells #[.string ⟨#[]⟩, .pointer none, .int .u16 0, .bool false, .int .u8 0, .bool false, .bool false, .bool false, .bool false, .bool false, .bool false, .bool false, .int .u8 0, .slice none 0 0, .slice none 0 0, .slice none 0 0, .slice none 0 0, .bool false, .int .u16 0, .int .u8 0, .int .u8 0, .int .u16 0, .slice none 0 0] 115)).drew := ((Ext.refl X3).alloc _).drew
      have hs4 : (X3.alloc (.cells #[.string ⟨#[]⟩, .pointer none, .int .u16 0, .bool false, .int .u8 0, .bool false, .bool false, .bool false, .bool false, .bool false, .bool false, .bool false, .int .u8 0, .slice none 0 0, .slice none 0 0, .slice none 0 0, .slice none 0 0, .bool false, .int .u16 0, .int .u8 0, .int .u8 0, .int .u16 0, .slice none 0 0] 115)).drew.heap.size = X3.heap.size + 1 := by simp
      obtain ⟨W4, hW4⟩ : ∃ W4, W4 = (X3.alloc (.cells #[.string ⟨#[]⟩, .pointer none, .int .u16 0, .bool false, .int .u8 0, .bool false, .bool false, .bool false, .bool false, .bool false, .bool false, .bool false, .int .u8 0, .slice none 0 0, .slice none 0 0, .slice none 0 0, .slice none 0 0, .bool false, .int .u16 0, .int .u8 0, .int .u8 0, .int .u16 0, .slice none 0 0] 115)).drew := ⟨_, rfl⟩
      rw [← hW4] at hz4 hE4 hs4 ⊢
      clear hW4
      refine hK.out _ _ ((hE4.block hh (Array.getElem?_eq_some_iff.1 rh).1).trans rh) ?_
      clear hK K
      (try simp only [Act.put, List.setIfInBounds_toArray, List.set_cons_zero, List.set_cons_succ])
      refine treeRun (by rfl) (fun K hK => ?_)
      go_simp
      refine (cx_new d _).mono ?_; rintro e w5 ⟨rfl, hrow5, hE5', hsz5⟩
      rw [hs4] at hrow5
      have hE5 : Ext X3 w5 := hE4.trans hE5'
      have hz5 := (hE5'.block _ (Array.getElem?_eq_some_iff.1 hz4).1).trans hz4
      refine hK.out _ _ ((hE5.block hh (Array.getElem?_eq_some_iff.1 rh).1).trans rh) ?_
      clear hK K
      (try simp only [Act.put, List.setIfInBounds_toArray, List.set_cons_zero, List.set_cons_succ])
      repeat ((with_reducible refine treeIs ?_); first
        | (refine treeTake (v := ?_) (by rfl) (by rfl) ?_ ?_; rotate_left; (focus (intro V hV; (try dsimp only at hV); (go_simp <;> with_reducible rfl))); (try simp only [Act.put, List.setIfInBounds_toArray, List.set_cons_zero, List.set_cons_succ])))
      refine treeRun (by rfl) (fun K hK => ?_)
      rw [if_pos (by rfl)]
      refine wp_store_row 115 (.tmp 6) (.tmp 25) rfl X3.heap.size (rdRow d (X3.heap.size + 1) hdr (.slice none 0 0) (.slice none 0 0) (.slice none 0 0) (.slice none 0 0) none (.slice none 0 0)) rfl (by first | rfl | (rw [hs4]; rfl) | (simp only [hs4]; rfl)) 115 _ hz5 (by kernel_rfl) rfl (by kernel_rfl) ?_
      have g5 := grown_row w5 X3.heap.size (rdRow d (X3.heap.size + 1) hdr (.slice none 0 0) (.slice none 0 0) (.slice none 0 0) (.slice none 0 0) none (.slice none 0 0))
      have hE6 := Below.grown hE5 g5 hE5.size (fun k hk => by injection hk with hk; omega)
      refine hK.out _ _ ((hE6.block hh (Array.getElem?_eq_some_iff.1 rh).1).trans rh) ?_
      clear hK K
      (try simp only [Act.put, List.setIfInBounds_toArray, List.set_cons_zero, List.set_cons_succ])
      refine treeDone ?_
      refine NoPanic.normal ?_
      go_wp2_with fail
      go_meet
      exact ⟨X3.heap.size, X3.heap.size + 1, rfl, ⟨setRow_heap w5 _ _ _ _ _ hz5, rfl, rfl, (g5.block _ (Array.getElem?_eq_some_iff.1 hrow5).1 (by simp)).trans hrow5, by omega, Nat.zero_le _⟩, hE6, by omega, by omega⟩
  case rest =>
    obtain ⟨g, cp, rfl, hrd, hE3, hg3, hc3⟩ := hcut
    obtain ⟨Y, rfl⟩ : ∃ Y : World, Y = wc := ⟨_, rfl⟩
    have hzY := hrd.lt
    have hge : 1 ≠ g := by have := hg.lt; have := hX3w.size; omega
    have hgc : 1 ≠ cp := by have := hg.lt; have := hX3w.size; omega
    have hlo : X3.heap.size ≤ cp := hc3
    have hlg : X3.heap.size ≤ g := hg3
    have hYs : X3.heap.size ≤ Y.heap.size := hE3.size
    have hldY : Laid Y := (hg.ext hX3w).ext hE3
    have hcz := (Array.getElem?_eq_some_iff.1 rc).1
    have rcY := (hE3.block _ hcz).trans rc
    have r0w := (hw0.trans (Ext.refl X0)).size
    have r0Y : Y.heap[w.heap.size]? = some (.cells #[.int .u16 0, .bool false, .int .u8 0, .bool false, .bool false, .bool false, .bool false, .bool false, .bool false, .bool false, .int .u8 0, .slice none 0 0, .slice none 0 0, .slice none 0 0, .slice none 0 0, .bool false, .int .u16 0, .int .u8 0, .int .u8 0, .int .u16 0, .slice none 0 0] 55) := ((hX03.trans hE3).block _ (Array.getElem?_eq_some_iff.1 r0).1).trans r0
    have hwX3 : w.heap.size < X3.heap.size := Nat.lt_of_lt_of_le (Array.getElem?_eq_some_iff.1 r0).1 hX03.size
    have c1 := hrd.c1
    have HT := Lib.hid (cx_take 12 hrd.cur (by unfold maxLen; omega) (by omega))
    have HRD := Lib.hid hrd
    clear hrd r0 rh hX03
    go_wp2_with fail
    refine HT.out.mono ?_; rintro e w5 ⟨rfl, hs5⟩
    have G5 := HRD.out.st hs5 hlo (by omega)
    rw [Nat.zero_add] at G5
    clear HT hs5 c1
    have HHC := Lib.hid (fun V (hV : KeptB g cp Y V) => hV.row rcY (by omega) (by omega))
    have k0 := box_cell (j := 0) (HHC.out _ G5.kept) rfl
    go_wp2_with fail
    refine (HM0.out _).mono ?_; rintro e w6 ⟨rfl, rfl⟩
    obtain ⟨R, hR⟩ : ∃ R, R = qusR d (n16 d 4) 12 := ⟨_, rfl⟩
    have HR := Lib.hid hR
    obtain ⟨i0, hi0, hz0, hz1, hz2⟩ := info_parts info_qu
    have HI := Lib.hid (show QInv Y X3.heap.size g cp hdr d R (n16 d 4) 0 12 [] none 0 w5 from ⟨Nat.zero_le _, by simp, G5, Own.nil _ _ _ _, by rw [hR, joinQ_nil]; rfl⟩)
    have hn4 := n16_lt d 4
    have hn6 := n16_lt d 6
    have hn8 := n16_lt d 8
    have hn10 := n16_lt d 10
    clear hR G5
    go_wp2_with fail
    clear k0
    go_loopw [7, 36] (fun _ s36 wr => ∃ (k p : Nat) (l : List QD) (A : Option Addr) (c : Nat), s36 = .int .i64 k ∧ QInv Y X3.heap.size g cp hdr d R (n16 d 4) k p l A c wr) (fun _ s36 _ => n16 d 4 - (intOf s36).toNat)
    case atStart => exact ⟨0, 12, [], none, 0, rfl, HI.out⟩
    case round =>
      obtain ⟨k, p0, l, A, c, rfl, hI⟩ := hrel
      obtain ⟨wo, rfl⟩ : ∃ wo : World, wo = wr := ⟨_, rfl⟩
      clear HI
      have hkn := hI.kn
      have hll := hI.ll
      by_cases hlt : k < n16 d 4
      · have hki : (k : Int) < (n16 d 4 : Int) := by omega
        have hnk : n16 d 4 - k = (n16 d 4 - (k + 1)) + 1 := by omega
        have HEQ := Lib.hid hI.eq
        rw [hnk] at HEQ
        have hwo := hI.go.kept.1
        have hzo : g < wo.heap.size ∧ cp < wo.heap.size := ⟨Nat.lt_of_lt_of_le hzY.1 hwo, Nat.lt_of_lt_of_le hzY.2 hwo⟩
        have G0 : GoX X3.heap.size g cp (rdRow d cp hdr (.slice A l.length c) (.slice none 0 0) (.slice none 0 0) (.slice none 0 0) none (.slice none 0 0)) d p0 wo wo := GoX.refl hI.go.rd
        have HIn := Lib.hid hI
        have hld := hI.go.ext0 hldY hge hgc
        have hlwo : X3.heap.size ≤ wo.heap.size := Nat.le_trans hYs hwo
        clear hI hnk
        rcases hN : nameR d p0 with x | ⟨nm, p1⟩
        · have HF := Lib.hid (dec_no hlong hshort (body_no1 (HR.out.symm.trans (HEQ.out.trans (qus_bad l (qu_no1 hN))))))
          have hx0 := (nameR_no hN).1
          have HC := Lib.hid (rdr_name_no G0.rd hlo hld (by omega) hN)
          clear hN
          go_wp2_with fail
          refine HC.out.mono ?_; rintro e w2 ⟨rfl, hB⟩
          go_wp2_with fail
          exact ⟨rfl, .inl ⟨x, hx0, HF.out, rfl⟩, hX3w.then ((hE3.mono (Nat.le_refl _)).trans (HIn.out.go.below.trans hB)) hX3w.size⟩
        have HC := Lib.hid (rdr_name G0.rd hlo hld (by omega) hN)
        have HN := Lib.hid hN
        clear hN
        go_wp2_with fail
        refine HC.out.mono ?_; rintro e w2 ⟨rfl, G2⟩
        go_upto_region 11 with fail
        obtain ⟨b, hb⟩ : ∃ b, b = w2.heap.size := ⟨_, rfl⟩
        obtain ⟨W3, hW3⟩ : ∃ W3, W3 = w2.alloc (.cells #[S nm, .int .u16 0, .int .u16 0] 27) := ⟨_, rfl⟩
        have b3 : W3.heap[b]? = some (.cells #[S nm, .int .u16 0, .int .u16 0] 27) := by rw [hW3, hb]; exact heap_alloc_new _ _
        have G3 : GoX X3.heap.size g cp (rdRow d cp hdr (.slice A l.length c) (.slice none 0 0) (.slice none 0 0) (.slice none 0 0) none (.slice none 0 0)) d p1 wo W3 := by rw [hW3]; exact G2.ext ((Ext.refl _).alloc _) hlwo
        have hbo : wo.heap.size ≤ b := by rw [hb]; exact G2.kept.1
        have hbg : b ≠ g := by omega
        have hbc : b ≠ cp := by omega
        have L3 := G3.ext0 hld hge hgc
        rw [← hW3, ← hb]
        clear hW3 hb G2 HC G0
        rcases h3 : numR 2 d p1 with x | ⟨ty, p2⟩
        · have HF := Lib.hid (dec_no hlong hshort (body_no1 (HR.out.symm.trans (HEQ.out.trans (qus_bad l (qu_no2 HN.out h3))))))
          have HC := Lib.hid (rdr_two_no G3.rd hlo L3 (by omega) h3)
          obtain ⟨rfl, _⟩ := numR_no h3
          clear h3
          go_wp2_with fail
          refine HC.out.mono ?_; rintro e w9 ⟨rfl, hB⟩
          go_wp2_with fail
          exact ⟨rfl, .inl ⟨4, by omega, HF.out, rfl⟩, hX3w.then ((hE3.mono (Nat.le_refl _)).trans (HIn.out.go.below.trans (G3.below.trans hB))) hX3w.size⟩
        have HC := Lib.hid (rdr_two G3.rd hlo (by omega) h3)
        have vb3 := numR2_ok h3
        have H3 := Lib.hid h3
        clear h3
        go_wp2_with fail
        refine HC.out.mono ?_; rintro e w4 ⟨rfl, G'⟩
        have b'3 := G'.kept.row b3 hbg hbc
        have G'3 := G'.more G3
        clear G' HC
        have cc := box_cell (j := 1) b'3 rfl
        have fc := box_free (j := 1) b'3
        go_upto_region 12 with fail
        have b4 : (w4.setCell ⟨b, 1, none⟩ (.int .u16 (ty : Int))).heap[b]? = some (.cells #[S nm, .int .u16 (ty : Int), .int .u16 0] 27) := row_set b'3 1 _
        have G4 := G'3.setNew hzo hlo hbo 1 (.int .u16 (ty : Int))
        clear cc fc
        obtain ⟨W4, hW⟩ : ∃ W4, W4 = w4.setCell ⟨b, 1, none⟩ (.int .u16 (ty : Int)) := ⟨_, rfl⟩
        rw [← hW] at b4 G4 ⊢
        clear hW G'3 b'3 G3 b3
        have L4 := G4.ext0 hld hge hgc
        rcases h4 : numR 2 d p2 with x | ⟨cl, p3⟩
        · have HF := Lib.hid (dec_no hlong hshort (body_no1 (HR.out.symm.trans (HEQ.out.trans (qus_bad l (qu_no3 HN.out H3.out h4))))))
          have HC := Lib.hid (rdr_two_no G4.rd hlo L4 (by omega) h4)
          obtain ⟨rfl, _⟩ := numR_no h4
          clear h4
          go_wp2_with fail
          refine HC.out.mono ?_; rintro e w9 ⟨rfl, hB⟩
          go_wp2_with fail
          exact ⟨rfl, .inl ⟨4, by omega, HF.out, rfl⟩, hX3w.then ((hE3.mono (Nat.le_refl _)).trans (HIn.out.go.below.trans (G4.below.trans hB))) hX3w.size⟩
        have HC := Lib.hid (rdr_two G4.rd hlo (by omega) h4)
        have vb4 := numR2_ok h4
        have H4 := Lib.hid h4
        clear h4
        go_wp2_with fail
        refine HC.out.mono ?_; rintro e w5 ⟨rfl, G'⟩
        have b'4 := G'.kept.row b4 hbg hbc
        have G'4 := G'.more G4
        clear G' HC
        have cc := box_cell (j := 2) b'4 rfl
        have fc := box_free (j := 2) b'4
        go_upto_region 13 with fail
        have b5 : (w5.setCell ⟨b, 2, none⟩ (.int .u16 (cl : Int))).heap[b]? = some (.cells #[S nm, .int .u16 (ty : Int), .int .u16 (cl : Int)] 27) := row_set b'4 2 _
        have G5 := G'4.setNew hzo hlo hbo 2 (.int .u16 (cl : Int))
        clear cc fc
        obtain ⟨W5, hW⟩ : ∃ W5, W5 = w5.setCell ⟨b, 2, none⟩ (.int .u16 (cl : Int)) := ⟨_, rfl⟩
        rw [← hW] at b5 G5 ⊢
        clear hW G'4 b'4 G4 b4
        have L5 := G5.ext0 hld hge hgc
        have HF := Lib.hid (HEQ.out.trans (qus_step l (qu_yes HN.out H3.out H4.out)))
        have y0 := box_cell (j := 0) b5 rfl
        have y1 := box_cell (j := 1) b5 rfl
        have y2 := box_cell (j := 2) b5 rfl
        have z13 := box_cell (j := 13) G5.rd.box rfl
        have hown := HIn.out.own.keptB G5.kept hzY.1 hzY.2
        have hw5 : Y.heap.size ≤ W5.heap.size := Nat.le_trans hwo G5.kept.1
        have hgz5 := G5.rd.lt
        go_wp2_with (first
          | (at_builtin
             refine wpList_app _ rfl (.tmp 46) (.tmp 48) _ rfl Y.heap.size 27 i0 _ 3 24 Tryd.underlying49 hi0 hz0 hz1 hz2 rfl (by omega) A l.length c (l.flatMap quCells) rfl (hown.ext ((Ext.refl _).alloc _)) 0 _ 1 1 (quCells ⟨nm, (ty : Int), (cl : Int)⟩) rfl (rd_new _ _ (by simp) _ _ 1 3 rfl) (qu_one7 _) (by omega) (by omega) (by simp; omega) ?_
             intro A6 c6 w13 hown6 hg6 hb6 hat6
             have G13 := ((G5.ext ((Ext.refl W5).alloc (.cells (quCells ⟨nm, (ty : Int), (cl : Int)⟩).toArray 27)) hlwo).more HIn.out.go).grown hzY (hown.ext ((Ext.refl _).alloc _)) hg6 hb6 hYs (Nat.le_refl _)
             have j13 := box_cell (j := 13) G13.rd.box rfl
             have f13 := box_free (j := 13) G13.rd.box)
          | fail)
        have G14 := G13.setg (j := 13) (by omega) (by simp) (.slice A6 (l.length + 1) c6) hlg
        go_roundw
        case rel =>
          refine ⟨k + 1, p3, l ++ [⟨nm, (ty : Int), (cl : Int)⟩], A6, c6, by go_num, ⟨by omega, by simp; omega, ?_, ?_, HF.out⟩⟩
          · rw [List.length_append]; exact G14
          · have := hown6.set_other (p := ⟨g, 13, none⟩) hzY.1 (.slice A6 (l.length + 1) c6)
            simpa using this
        case measure => simp [intOf]; omega
      · obtain rfl : k = n16 d 4 := by omega
        have HQ := Lib.hid (show qusR d (n16 d 4) 12 = .ok (l, p0) by
          have := hI.eq
          rw [Nat.sub_self] at this
          rw [← HR.out, this]
          simp [qusR, joinQ])
        have G6 := hI.go
        have hOQ : OQus wo Y.heap.size (.slice A l.length c) l := ⟨A, c, rfl, hI.own⟩
        obtain ⟨q, hq⟩ : ∃ q, q = Value.slice A l.length c := ⟨_, rfl⟩
        clear hI
        have k1 := box_cell (j := 1) (HHC.out _ G6.kept) rfl
        have HRec := Lib.hid (rdr_records wo X3.heap.size Y.heap.size g cp p0 (n16 d 6) d hdr (.slice A l.length c) (.slice none 0 0) (.slice none 0 0) (.slice none 0 0) (.slice none 0 0) none false G6.rd hlo hlg (G6.ext0 hldY hge hgc) hge hgc (by omega) (by omega) (OptsT.nil _ _) hzY.1 hzY.2 G6.kept.1)
        have hsz6 := G6.kept.1
        go_wp2_with fail
        refine HRec.out.mono ?_; rintro e v7 (⟨x, hx0, hRx, rfl, hB⟩ | ⟨l1, e1, q1, o1, va1, hR1, rfl, G', ho', hr'⟩)
        · have HF := Lib.hid (dec_no hlong hshort (body_no2 HQ.out hRx))
          go_wp2_with fail
          exact ⟨rfl, .inl ⟨x, hx0, HF.out, rfl⟩, hX3w.then ((hE3.mono (Nat.le_refl _)).trans (G6.below.trans hB)) hX3w.size⟩
        have HA1 := Lib.hid hR1
        have hr' := hr'.lower hsz6
        obtain ⟨aA1, ac1, rfl, hao'⟩ := hr'
        have hr' : ORec7 v7 Y.heap.size (.slice aA1 l1.length ac1) l1 := ⟨aA1, ac1, rfl, hao'⟩
        have G'' := G'.more G6
        have hby : ∀ k, Y.heap.size ≤ k → k < wo.heap.size → v7.heap[k]? = wo.heap[k]? := fun k h1 h2 => G'.kept.2 k h2 (by omega) (by omega)
        have hOQ := hOQ.by_ hby
        have zc := box_cell (j := 14) G''.rd.box rfl
        have fc := box_free (j := 14) G''.rd.box
        clear hR1 hby G' hao' k1 HRec
        go_upto_region 16 with fail
        have G7 : GoX X3.heap.size g cp (rdRow d cp hdr (.slice A l.length c) (.slice aA1 l1.length ac1) (.slice none 0 0) (.slice none 0 0) e1 o1) d q1 Y (v7.setCell ⟨g, 14, none⟩ (.slice aA1 l1.length ac1)) := G''.setg (j := 14) (by omega) (by simp) (.slice aA1 l1.length ac1) hlg
        have hby : ∀ k, Y.heap.size ≤ k → k < v7.heap.size → (v7.setCell ⟨g, 14, none⟩ (.slice aA1 l1.length ac1)).heap[k]? = v7.heap[k]? := fun k h1 h2 => Below.heap_setCell _ _ _ k (by dsimp only; omega)
        have hop7 := ho'.by_ fun k hk => hby k (ho'.lt k hk).1 (ho'.lt k hk).2
        have hOR1 := hr'.by_ hby
        have hOQ := hOQ.by_ hby
        obtain ⟨V7, hV⟩ : ∃ V7, V7 = v7.setCell ⟨g, 14, none⟩ (.slice aA1 l1.length ac1) := ⟨_, rfl⟩
        rw [← hV] at G7 hop7 hOR1 hOQ ⊢
        clear hV hby ho' hr' G'' zc fc G6
        have k2 := box_cell (j := 2) (HHC.out _ G7.kept) rfl
        have HRec := Lib.hid (rdr_records V7 X3.heap.size Y.heap.size g cp q1 (n16 d 8) d hdr (.slice A l.length c) (.slice aA1 l1.length ac1) (.slice none 0 0) (.slice none 0 0) o1 e1 false G7.rd hlo hlg (G7.ext0 hldY hge hgc) hge hgc (by omega) (by omega) (hop7) hzY.1 hzY.2 G7.kept.1)
        have hsz7 := G7.kept.1
        go_wp2_with fail
        refine HRec.out.mono ?_; rintro e v8 (⟨x, hx0, hRx, rfl, hB⟩ | ⟨l2, e2, q2, o2, va2, hR2, rfl, G', ho', hr'⟩)
        · have HF := Lib.hid (dec_no hlong hshort (body_no3 HQ.out HA1.out hRx))
          go_wp2_with fail
          exact ⟨rfl, .inl ⟨x, hx0, HF.out, rfl⟩, hX3w.then ((hE3.mono (Nat.le_refl _)).trans (G7.below.trans hB)) hX3w.size⟩
        have HA2 := Lib.hid hR2
        have hr' := hr'.lower hsz7
        obtain ⟨aA2, ac2, rfl, hao'⟩ := hr'
        have hr' : ORec7 v8 Y.heap.size (.slice aA2 l2.length ac2) l2 := ⟨aA2, ac2, rfl, hao'⟩
        have G'' := G'.more G7
        have hby : ∀ k, Y.heap.size ≤ k → k < V7.heap.size → v8.heap[k]? = V7.heap[k]? := fun k h1 h2 => G'.kept.2 k h2 (by omega) (by omega)
        have hOQ := hOQ.by_ hby
        have hOR1 := hOR1.by_ hby
        have zc := box_cell (j := 15) G''.rd.box rfl
        have fc := box_free (j := 15) G''.rd.box
        clear hR2 hby G' hao' k2 HRec
        go_upto_region 17 with fail
        have G8 : GoX X3.heap.size g cp (rdRow d cp hdr (.slice A l.length c) (.slice aA1 l1.length ac1) (.slice aA2 l2.length ac2) (.slice none 0 0) e2 o2) d q2 Y (v8.setCell ⟨g, 15, none⟩ (.slice aA2 l2.length ac2)) := G''.setg (j := 15) (by omega) (by simp) (.slice aA2 l2.length ac2) hlg
        have hby : ∀ k, Y.heap.size ≤ k → k < v8.heap.size → (v8.setCell ⟨g, 15, none⟩ (.slice aA2 l2.length ac2)).heap[k]? = v8.heap[k]? := fun k h1 h2 => Below.heap_setCell _ _ _ k (by dsimp only; omega)
        have hop8 := ho'.by_ fun k hk => hby k (ho'.lt k hk).1 (ho'.lt k hk).2
        have hOR2 := hr'.by_ hby
        have hOQ := hOQ.by_ hby
        have hOR1 := hOR1.by_ hby
        obtain ⟨V8, hV⟩ : ∃ V8, V8 = v8.setCell ⟨g, 15, none⟩ (.slice aA2 l2.length ac2) := ⟨_, rfl⟩
        rw [← hV] at G8 hop8 hOR2 hOQ hOR1 ⊢
        clear hV hby ho' hr' G'' zc fc G7
        have k3 := box_cell (j := 3) (HHC.out _ G8.kept) rfl
        have HRec := Lib.hid (rdr_records V8 X3.heap.size Y.heap.size g cp q2 (n16 d 10) d hdr (.slice A l.length c) (.slice aA1 l1.length ac1) (.slice aA2 l2.length ac2) (.slice none 0 0) o2 e2 true G8.rd hlo hlg (G8.ext0 hldY hge hgc) hge hgc (by omega) (by omega) (hop8) hzY.1 hzY.2 G8.kept.1)
        have hsz8 := G8.kept.1
        go_wp2_with fail
        refine HRec.out.mono ?_; rintro e v9 (⟨x, hx0, hRx, rfl, hB⟩ | ⟨l3, e3, q3, o3, va3, hR3, rfl, G', ho', hr'⟩)
        · have HF := Lib.hid (dec_no hlong hshort (body_no4 HQ.out HA1.out HA2.out hRx))
          go_wp2_with fail
          exact ⟨rfl, .inl ⟨x, hx0, HF.out, rfl⟩, hX3w.then ((hE3.mono (Nat.le_refl _)).trans (G8.below.trans hB)) hX3w.size⟩
        have HA3 := Lib.hid hR3
        have hr' := hr'.lower hsz8
        obtain ⟨aA3, ac3, rfl, hao'⟩ := hr'
        have hr' : ORec7 v9 Y.heap.size (.slice aA3 l3.length ac3) l3 := ⟨aA3, ac3, rfl, hao'⟩
        have G'' := G'.more G8
        have hby : ∀ k, Y.heap.size ≤ k → k < V8.heap.size → v9.heap[k]? = V8.heap[k]? := fun k h1 h2 => G'.kept.2 k h2 (by omega) (by omega)
        have hOQ := hOQ.by_ hby
        have hOR1 := hOR1.by_ hby
        have hOR2 := hOR2.by_ hby
        have zc := box_cell (j := 16) G''.rd.box rfl
        have fc := box_free (j := 16) G''.rd.box
        clear hR3 hby G' hao' k3 HRec
        go_upto_region 18 with fail
        have G9 : GoX X3.heap.size g cp (rdRow d cp hdr (.slice A l.length c) (.slice aA1 l1.length ac1) (.slice aA2 l2.length ac2) (.slice aA3 l3.length ac3) e3 o3) d q3 Y (v9.setCell ⟨g, 16, none⟩ (.slice aA3 l3.length ac3)) := G''.setg (j := 16) (by omega) (by simp) (.slice aA3 l3.length ac3) hlg
        have hby : ∀ k, Y.heap.size ≤ k → k < v9.heap.size → (v9.setCell ⟨g, 16, none⟩ (.slice aA3 l3.length ac3)).heap[k]? = v9.heap[k]? := fun k h1 h2 => Below.heap_setCell _ _ _ k (by dsimp only; omega)
        have hop9 := ho'.by_ fun k hk => hby k (ho'.lt k hk).1 (ho'.lt k hk).2
        have hOR3 := hr'.by_ hby
        have hOQ := hOQ.by_ hby
        have hOR1 := hOR1.by_ hby
        have hOR2 := hOR2.by_ hby
        obtain ⟨V9, hV⟩ : ∃ V9, V9 = v9.setCell ⟨g, 16, none⟩ (.slice aA3 l3.length ac3) := ⟨_, rfl⟩
        rw [← hV] at G9 hop9 hOR3 hOQ hOR1 hOR2 ⊢
        clear hV hby ho' hr' G'' zc fc G8
        have hop9' := hop9
        obtain ⟨oA3, oc3, rfl, _⟩ := hop9'
        have hL := Lib.hid (cx_left G9.rd.cur (by unfold maxLen; omega) G9.rd.pd)
        have c1 := G9.rd.c1
        have HB := Lib.hid (body_yes HQ.out HA1.out HA2.out HA3.out)
        rw [← HHD.out] at HB
        have hq3 := G9.rd.pd
        have hwV9 : Ext w V9 := hX3w.then ((hE3.mono (Nat.le_refl _)).trans G9.below) hX3w.size
        by_cases hend : q3 < d.length
        · have HF := Lib.hid ((dec_yes hlong hshort HB.out).trans (if_pos hend))
          have hgt : (0 : Int) < ((d.length - q3 : Nat) : Int) := by omega
          go_wp2_with fail
          refine hL.out.mono ?_; rintro e v10 ⟨rfl, hE10⟩
          go_wp2_with fail
          refine (HM5.out _).mono ?_; rintro e v11 ⟨rfl, rfl⟩
          go_wp2_with fail
          exact ⟨rfl, .inl ⟨5, by omega, HF.out, rfl⟩, hwV9.trans hE10⟩
        have HF := Lib.hid ((dec_yes hlong hshort HB.out).trans (if_neg hend))
        have hz0 : ((d.length - q3 : Nat) : Int) = 0 := by omega
        rw [hz0] at hL
        clear hz0 hend
        have HMO : MsgO V9 Y.heap.size ⟨hdr, l, l1, l2, l3, e3.isSome, e3.getD edNone⟩ (.slice A l.length c) (.slice aA1 l1.length ac1) (.slice aA2 l2.length ac2) (.slice aA3 l3.length ac3) (.slice oA3 (e3.getD edNone).opts.length oc3) := ⟨hOQ, hOR1, hOR2, hOR3, hop9⟩
        have HBd : MsgBd ⟨hdr, l, l1, l2, l3, e3.isSome, e3.getD edNone⟩ := by
          have b1 := qusR_bd HQ.out
          have b2 := recsR_bd (by omega) HA1.out
          have b3 := recsR_bd (by omega) HA2.out
          have b4 := recsR_bd (by omega) HA3.out
          exact ⟨fun q hq => Nat.le_trans (b1 q hq) (by omega), fun r hr => ⟨Nat.le_trans (b2.2 r hr).1 (by omega), Nat.le_trans (b2.2 r hr).2 (by omega)⟩, fun r hr => ⟨Nat.le_trans (b3.2 r hr).1 (by omega), Nat.le_trans (b3.2 r hr).2 (by omega)⟩, fun r hr => ⟨Nat.le_trans (b4.2 r hr).1 (by omega), Nat.le_trans (b4.2 r hr).2 (by omega)⟩, Nat.le_trans b4.1 (by omega)⟩
        have HWf := Lib.hid (bodyR_ok HB.out).1
        obtain ⟨m, hm⟩ : ∃ m : MsgD, m = ⟨hdr, l, l1, l2, l3, e3.isSome, e3.getD edNone⟩ := ⟨_, rfl⟩
        rw [← hm] at HMO HBd HWf HF
        have HW := Lib.hid (fun V (hV : Ext V9 V) => wire_write m (.slice A l.length c) (.slice aA1 l1.length ac1) (.slice aA2 l2.length ac2) (.slice aA3 l3.length ac3) (.slice oA3 (e3.getD edNone).opts.length oc3) V ((hg.ext hwV9).ext hV) ((hb.ext hwV9).ext hV) HWf.out ((HMO.msg7 HBd).ext hV))
        have hmv : msg7V m.hd (.slice A l.length c) (.slice aA1 l1.length ac1) (.slice aA2 l2.length ac2) (.slice aA3 l3.length ac3) m.he m.ed (.slice oA3 (e3.getD edNone).opts.length oc3) = .agg [.int .u16 hdr.id, .bool hdr.qr, .int .u8 hdr.op, .bool hdr.aa, .bool hdr.tc, .bool hdr.rd, .bool hdr.ra, .bool hdr.z, .bool hdr.ad, .bool hdr.cd, .int .u8 hdr.code, (.slice A l.length c), (.slice aA1 l1.length ac1), (.slice aA2 l2.length ac2), (.slice aA3 l3.length ac3), .bool e3.isSome, .int .u16 (e3.getD edNone).size, .int .u8 (e3.getD edNone).ext, .int .u8 (e3.getD edNone).ver, .int .u16 (e3.getD edNone).flags, (.slice oA3 (e3.getD edNone).opts.length oc3)].toArray := by rw [hm]
        rw [hmv] at HW
        have HMV := Lib.hid hmv
        have HMd := Lib.hid hm
        clear hm hmv hOQ hOR1 hOR2 hOR3 hop9 hop8 hop7 hq
        have r0V := G9.kept.row r0Y (by omega) (by omega)
        have HBX := Lib.hid (fun V (hV : Ext V9 V) => (G9.rd.ext hV).box)
        have hrw9 := G9.kept.1
        go_wp2_with fail
        refine hL.out.mono ?_; rintro e v10 ⟨rfl, hE10⟩
        have b10 := HBX.out _ hE10
        go_wp2_with (first
          | (refine wpList_load_part (by rfl) 55 (.tmp 73) rfl g 2 rfl [.int .u16 hdr.id, .bool hdr.qr, .int .u8 hdr.op, .bool hdr.aa, .bool hdr.tc, .bool hdr.rd, .bool hdr.ra, .bool hdr.z, .bool hdr.ad, .bool hdr.cd, .int .u8 hdr.code, (.slice A l.length c), (.slice aA1 l1.length ac1), (.slice aA2 l2.length ac2), (.slice aA3 l3.length ac3), .bool e3.isSome, .int .u16 (e3.getD edNone).size, .int .u8 (e3.getD edNone).ext, .int .u8 (e3.getD edNone).ver, .int .u16 (e3.getD edNone).flags, (.slice oA3 (e3.getD edNone).opts.length oc3)] (row_part b10 2 21) _ Tryd.underlying55 rfl (by kernel_rfl) ?_)
          | fail)
        refine (HW.out _ hE10).mono ?_; rintro e v11 ⟨⟨he0, A9, c9, rfl, hr9⟩ | ⟨he0, rfl⟩, hE11⟩
        rotate_left
        · have HF2 := Lib.hid (HF.out.trans (if_neg he0))
          have He0 := Lib.hid he0
          clear he0
          go_wp2_with fail
          exact ⟨rfl, .inl ⟨encErr m, He0.out, HF2.out, rfl⟩, hwV9.trans (hE10.trans hE11)⟩
        have HF2 := Lib.hid (HF.out.trans (if_pos he0))
        clear he0 hr9
        have hE911 : Ext V9 v11 := hE10.trans hE11
        have b11 := HBX.out _ hE911
        have r011 := (hE911.block _ (Array.getElem?_eq_some_iff.1 r0V).1).trans r0V
        go_upto_region 21 with fail
        refine wp_region_lit ?_
        repeat (first
          | (refine wpList_load_part (by rfl) 55 (.tmp 76) rfl g 2 rfl [.int .u16 hdr.id, .bool hdr.qr, .int .u8 hdr.op, .bool hdr.aa, .bool hdr.tc, .bool hdr.rd, .bool hdr.ra, .bool hdr.z, .bool hdr.ad, .bool hdr.cd, .int .u8 hdr.code, (.slice A l.length c), (.slice aA1 l1.length ac1), (.slice aA2 l2.length ac2), (.slice aA3 l3.length ac3), .bool e3.isSome, .int .u16 (e3.getD edNone).size, .int .u8 (e3.getD edNone).ext, .int .u8 (e3.getD edNone).ver, .int .u16 (e3.getD edNone).flags, (.slice oA3 (e3.getD edNone).opts.length oc3)] (row_part b11 2 21) _ Tryd.underlying55 rfl (by kernel_rfl) ?_)
          | (refine Go.wpList_store_rowTo rfl 55 (.tmp 2) (.tmp 77) rfl rfl w.heap.size [.int .u16 hdr.id, .bool hdr.qr, .int .u8 hdr.op, .bool hdr.aa, .bool hdr.tc, .bool hdr.rd, .bool hdr.ra, .bool hdr.z, .bool hdr.ad, .bool hdr.cd, .int .u8 hdr.code, (.slice A l.length c), (.slice aA1 l1.length ac1), (.slice aA2 l2.length ac2), (.slice aA3 l3.length ac3), .bool e3.isSome, .int .u16 (e3.getD edNone).size, .int .u8 (e3.getD edNone).ext, .int .u8 (e3.getD edNone).ver, .int .u16 (e3.getD edNone).flags, (.slice oA3 (e3.getD edNone).opts.length oc3)].toArray rfl rfl 55 _ r011 (by kernel_rfl) rfl (by kernel_rfl) ?_)
          | go_step)
        (try simp only [Exit.inBlock, Exit.then])
        refine bodyPost_ret (results_cell_row rfl _ _ w.heap.size _ _ _ _ rfl (setRow_heap v11 w.heap.size _ _ _ _ r011) Tryd.underlying55 rfl (by kernel_rfl)) rfl ?_
        have gr := grown_row v11 w.heap.size [.int .u16 hdr.id, .bool hdr.qr, .int .u8 hdr.op, .bool hdr.aa, .bool hdr.tc, .bool hdr.rd, .bool hdr.ra, .bool hdr.z, .bool hdr.ad, .bool hdr.cd, .int .u8 hdr.code, (.slice A l.length c), (.slice aA1 l1.length ac1), (.slice aA2 l2.length ac2), (.slice aA3 l3.length ac3), .bool e3.isSome, .int .u16 (e3.getD edNone).size, .int .u8 (e3.getD edNone).ext, .int .u8 (e3.getD edNone).ver, .int .u16 (e3.getD edNone).flags, (.slice oA3 (e3.getD edNone).opts.length oc3)].toArray
        have hfin := Below.grown (hwV9.trans hE911) gr (hwV9.trans hE911).size (fun k hk => by injection hk with hk; omega)
        refine ⟨.inr ⟨m, (.slice A l.length c), (.slice aA1 l1.length ac1), (.slice aA2 l2.length ac2), (.slice aA3 l3.length ac3), (.slice oA3 (e3.getD edNone).opts.length oc3), HF2.out, by rw [HMV.out], ?_⟩, hfin⟩
        exact ⟨((HMO.by_ fun k h1 h2 => hE911.block k h2).by_ fun k h1 h2 => gr.block k h2 (fun e => by injection e with e; omega)).lower (by omega), HBd⟩
end Go.Proofs.YtjmfpillnbnofaaDoor
namespace Go.Proofs.YtjmfpillnbnofaaDoor
set_option linter.unusedSimpArgs false
set_option linter.unusedVariables false
open Go.RowKit
set_option maxRecDepth 100000

abbrev msgZ : Array Value := #[.int .u16 0, .bool false, .int .u8 0, .bool false, .bool false, .bool false, .bool false, .bool false, .bool false, .bool false, .int .u8 0, .slice none 0 0, .slice none 0 0, .slice none 0 0, .slice none 0 0, .bool false, .int .u16 0, .int .u8 0, .int .u8 0, .int .u16 0, .slice none 0 0]
section
variable {P : Program}
theorem results_row_cell {fn : Func} {p q : Tmp} {ty ty2 : TypeId} (h : fn.results = #[.cell p ty, .cell q ty2]) (tmps : Array Value) (w : World) (g g2 : Nat) (t : TypeId) (cs : Array Value) (fr : Nat × Nat) (d : TypeDesc) (v : Value)
    (hp : tmps.getD p undef = .pointer (some ⟨g, 0, none⟩)) (hg : w.heap[g]? = some (.cells cs t fr))
    (hu : P.underlying ty = some d) (hd : (match d with | .struct _ | .array _ _ => true | _ => false) = true) (hi : (P.info? ty).map (·.size) = some cs.size)
    (hq : tmps.getD q undef = .pointer (some ⟨g2, 0, none⟩)) (hl : (loadVar ty2 ⟨g2, 0, none⟩).run P w = .ok v w) :
    (results fn tmps).run P w = .ok (.tuple #[.agg cs, v]) w := by
  have hp' : tmps[p]?.getD undef = .pointer (some ⟨g, 0, none⟩) := by simpa using hp
  have hq' : tmps[q]?.getD undef = .pointer (some ⟨g2, 0, none⟩) := by simpa using hq
  simp [results, h, hp', hq', asAddr, run_loadVar_row w g t ty cs fr d hg hu hd hi, hl]
end
theorem load_errno {w : World} {g : Nat} {v : Value} (h : w.cell? ⟨g, 0, none⟩ = some v) : (loadVar 59 ⟨g, 0, none⟩).run Tryd.prog w = .ok v w := by
  simp [loadVar, go_sem, h]
set_option maxHeartbeats 1000000 in
/-- The deferred closure of a frame that returns. -/
theorem dec_idle (p q : Addr) (w : World) :
    CallsD Tryd.prog 29 #[.pointer (some p), .pointer (some q)] .returning w fun e u' w' => e = .returned (.tuple #[]) ∧ u' = .returning ∧ Ext w w' := by
  have hta := ta_nil
  refine callsD_of_wpS Tryd.func29 rfl fun c₀ cs hu => ?_
  apply wpS_seq
  apply wpS_region
  simp [wpOpsS, go_sem, recoverD, hu, hta, Tryd.ntmps29, Exit.thenS]
  apply wpS_seq
  apply wpS_region
  simp [wpOpsS, go_sem, Exit.thenS, Array.replicate]
  refine wpS_cond (t := false) (by simp [Act.eval, Array.replicate]) ?_
  simp only [Bool.false_eq_true, if_false]
  refine wpS_of_wp (wp_skip ?_)
  have hE : Ext w (w.alloc (.cells #[.int .i64 0] 83)) := (Ext.refl _).alloc _
  cases c₀
  simp_all [bodyPostS, results, Tryd.results29]
set_option maxHeartbeats 1000000 in
/-- The deferred closure of a frame that panics with a fault: the panic is met, the results are no message and the fault's number. -/
theorem dec_caught (p q k : Nat) (y : Value) (older : List PanicEntry) (w : World) (hp : w.heap[p]? = some (.cells msgZ 55)) (hq : w.cell? ⟨q, 0, none⟩ = some y) (fq : w.frozen? ⟨q, 0, none⟩ = false) (hpq : p ≠ q) (hlq : q < w.heap.size) :
    CallsD Tryd.prog 29 #[.pointer (some ⟨p, 0, none⟩), .pointer (some ⟨q, 0, none⟩)] (.panicking ({ v := faultV k, recovered := false } :: older)) w fun e u' w' =>
      e = .returned (.tuple #[]) ∧ u' = .panicking ({ v := faultV k, recovered := true } :: older) ∧ ∃ V, Ext w V ∧ w' = (V.setRow p msgZ).setCell ⟨q, 0, none⟩ (.int .i64 k) := by
  have hta := ta_fault k
  refine callsD_of_wpS Tryd.func29 rfl fun c₀ cs hu => ?_
  apply wpS_seq
  apply wpS_region
  simp [wpOpsS, go_sem, recoverD, hu, hta, Tryd.ntmps29, Exit.thenS]
  apply wpS_seq
  apply wpS_region
  simp [wpOpsS, go_sem, Exit.thenS, Array.replicate]
  refine wpS_cond (t := true) (by simp [Act.eval, Array.replicate]) ?_
  simp only [if_true]
  refine wpS_of_wp ?_
  obtain ⟨V, hV⟩ : ∃ V, V = w.alloc (.cells #[.int .i64 (k : Int)] 83) := ⟨_, rfl⟩
  have hE : Ext w V := by rw [hV]; exact (Ext.refl _).alloc _
  have hz : V.cell? ⟨w.heap.size, 0, none⟩ = some (.int .i64 (k : Int)) := by rw [hV]; simp
  have hlp := (Array.getElem?_eq_some_iff.1 hp).1
  have hp1 : V.heap[p]? = some (.cells msgZ 55) := (hE.block p hlp).trans hp
  have hq1 : V.cell? ⟨q, 0, none⟩ = some y := (hE.cell (p := ⟨q, 0, none⟩) hlq).trans hq
  have fq1 : V.frozen? ⟨q, 0, none⟩ = false := (hE.frozen (p := ⟨q, 0, none⟩) hlq).trans fq
  have hp2 : V.drew.heap[p]? = some (.cells msgZ 55) := hp1
  have gr := grown_row V.drew p msgZ
  have hz2 : (V.drew.setRow p msgZ).cell? ⟨w.heap.size, 0, none⟩ = some (.int .i64 (k : Int)) := gr.cell (a := ⟨w.heap.size, 0, none⟩) hz (fun e => by injection e with e; (try dsimp only at e); omega)
  have hq2 : (V.drew.setRow p msgZ).cell? ⟨q, 0, none⟩ = some y := gr.cell (a := ⟨q, 0, none⟩) hq1 (fun e => by injection e with e; (try dsimp only at e); omega)
  have fq2 : (V.drew.setRow p msgZ).frozen? ⟨q, 0, none⟩ = false := by
    have h1 := gr.block q (spot_of hq1).2 (fun e => by injection e with e; (try dsimp only at e); omega)
    have h2 : V.drew.frozen? ⟨q, 0, none⟩ = false := fq1
    simp only [World.frozen?] at h2 ⊢
    rw [h1]; exact h2
  rw [← hV]
  clear hV hp hq fq
  refine wp_region_noPanic ?_
  refine wp_region_tree (S := fun V' => V'.cell? ⟨w.heap.size, 0, none⟩ = some (.int .i64 (k : Int))) (.take 0 (.take 1 (.take 2 (.run 3 (.run 4 .done))))) (by kernel_rfl) (by kernel_rfl) (fun _ _ _ _ _ h => h) hz ?_
  repeat ((with_reducible refine treeIs ?_); first
    | (refine treeTake (v := ?_) (by rfl) (by rfl) ?_ ?_; rotate_left; (focus (intro V' hV; (try dsimp only at hV); (go_simp <;> with_reducible rfl))); (try simp only [Act.put, List.setIfInBounds_toArray, List.set_cons_zero, List.set_cons_succ])))
  refine treeRun (by rfl) (fun K hK => ?_)
  rw [if_pos (by rfl)]
  refine wp_store_row 55 (.tmp 0) (.tmp 10) rfl p msgZ rfl rfl 55 _ hp2 (by kernel_rfl) rfl (by kernel_rfl) ?_
  refine hK.out _ _ hz2 ?_
  clear hK K
  (try simp only [Act.put, List.setIfInBounds_toArray, List.set_cons_zero, List.set_cons_succ])
  refine treeRun (by rfl) (fun K hK => ?_)
  go_simp
  refine hK.out _ _ ((World.cell?_setCell_other _ ⟨q, 0, none⟩ ⟨w.heap.size, 0, none⟩ _ (by intro e; injection e with e; omega)).trans hz2) ?_
  clear hK K
  (try simp only [Act.put, List.setIfInBounds_toArray, List.set_cons_zero, List.set_cons_succ])
  refine treeDone ?_
  refine NoPanic.normal ?_
  go_wp2_with fail
  refine ⟨rfl, _, rfl, .tuple #[], ?_, rfl, rfl, V.drew, hE.drew, rfl⟩
  simp [results, Tryd.results29]
/-- What wire.Decode answers. -/
def DecPost (d : List UInt8) (w : World) (e : Ending) (w' : World) : Prop :=
  ((∃ k, k ≠ 0 ∧ decR d = .error k ∧ e = .returned (.tuple #[.agg msgZ, .int .i64 (k : Int)])) ∨ (∃ m q a u x o, decR d = .ok m ∧ e = .returned (.tuple #[msg7V m.hd q a u x m.he m.ed o, .int .i64 0]) ∧ MsgO w' w.heap.size m q a u x o ∧ MsgBd m)) ∧ Ext w w'
set_option maxHeartbeats 4000000 in
theorem wire_decode (d : List UInt8) (w : World) (hg : Laid w) (hb : BitsAt w) (hd : d.length ≤ 1048576) :
    Calls Tryd.prog 17 #[S d] w (DecPost d w) := by
  have hmf : ∀ (fn : Fn) (first cap : Array Value) (w : World), (Instr.makeFunc fn first cap).run Tryd.prog w = .ok (.func fn first cap) w := fun _ _ _ _ => rfl
  go_enter_defers Tryd.func17, Tryd.ntmps17
  go_upto_region 1 with fail
  obtain ⟨X2, hX2⟩ : ∃ X2, X2 = (w.alloc (.cells msgZ 55)).alloc (.cells #[.int .i64 0] 59) := ⟨_, rfl⟩
  rw [← hX2]
  obtain ⟨p, hp⟩ : ∃ p, p = w.heap.size := ⟨_, rfl⟩
  have hE2 : Ext w X2 := by rw [hX2]; exact ((Ext.refl _).alloc _).alloc _
  have rp : X2.heap[p]? = some (.cells msgZ 55) := by
    rw [hX2, hp]
    have h1 := heap_alloc_new w (.cells msgZ 55)
    rw [heap_alloc_old _ _ (Array.getElem?_eq_some_iff.1 h1).1]; exact h1
  have rq : X2.heap[p + 1]? = some (.cells #[.int .i64 0] 59) := by rw [hX2, hp]; exact heap_alloc2_new w _ _
  have hpw : w.heap.size ≤ p := by omega
  rw [← hp]
  clear hX2 hp
  have HR := Lib.hid (wire_read d X2 (hg.ext hE2) (hb.ext hE2) hd)
  go_wp2_with fail
  refine HR.out.mono ?_; rintro e w1 ⟨⟨k, hk0, hk, rfl⟩ | ⟨m, q, a, u, x, o, hm, rfl, hMO, hBd⟩, hE1⟩
  · have rp1 := (hE1.block _ (Array.getElem?_eq_some_iff.1 rp).1).trans rp
    have rq1 := (hE1.block _ (Array.getElem?_eq_some_iff.1 rq).1).trans rq
    have c2 : w1.cell? ⟨p + 1, 0, none⟩ = some (.int .i64 0) := box_cell (j := 0) rq1 rfl
    have f2 : w1.frozen? ⟨p + 1, 0, none⟩ = false := box_free rq1
    have hq1 := (Array.getElem?_eq_some_iff.1 rq1).1
    have HK := Lib.hid hk
    have HK0 := Lib.hid hk0
    clear hk hk0
    go_wp2_with fail
    refine leaves_cons (f := 29) (args := #[.pointer (some ⟨p, 0, none⟩), .pointer (some ⟨p + 1, 0, none⟩)]) (by simp) (by simp [go_sem]) ?_
    refine (dec_caught p (p + 1) k _ [] w1 rp1 c2 f2 (by omega) hq1).mono ?_
    rintro e u' w'' ⟨rfl, rfl, V, hV, rfl⟩
    have rpV := (hV.block _ (Array.getElem?_eq_some_iff.1 rp1).1).trans rp1
    have rqV := (hV.block _ (Array.getElem?_eq_some_iff.1 rq1).1).trans rq1
    have gr := grown_row V p msgZ
    have rp2 := setRow_heap V p _ msgZ _ _ rpV
    have rq2 := (gr.block _ (Array.getElem?_eq_some_iff.1 rqV).1 (by simp)).trans rqV
    have rp3 := (Below.heap_setCell (V.setRow p msgZ) ⟨p + 1, 0, none⟩ (.int .i64 (k : Int)) p (by dsimp only; omega)).trans rp2
    have rq3 := row_set rq2 0 (.int .i64 (k : Int))
    have hEV : Ext w V := hE2.trans (hE1.trans hV)
    have hEy := Below.setCell (Below.grown hEV gr hEV.size (fun k hk => by injection hk with hk; omega)) (p := ⟨p + 1, 0, none⟩) (by dsimp only; omega) (.int .i64 (k : Int))
    refine ⟨_, results_row_cell rfl _ _ p (p + 1) _ _ _ _ (.int .i64 (k : Int)) rfl rp3 Tryd.underlying55 rfl (by kernel_rfl) rfl (load_errno (box_cell (j := 0) rq3 rfl)), ?_⟩
    exact ⟨.inl ⟨k, HK0.out, HK.out, rfl⟩, hEy⟩
  · have rp1 := (hE1.block _ (Array.getElem?_eq_some_iff.1 rp).1).trans rp
    have rq1 := (hE1.block _ (Array.getElem?_eq_some_iff.1 rq).1).trans rq
    have HMd := Lib.hid hm
    have hM := hMO.msg7 hBd
    obtain ⟨⟨qA, qc, rfl, _, _, _⟩, ⟨aA, ac, rfl, _, _, _⟩, ⟨uA, uc, rfl, _, _, _⟩, ⟨xA, xc, rfl, _, _, _⟩, ⟨oA, oc, rfl, _, _, _⟩, _, _, _, _, _⟩ := hM
    clear hm
    have gr := grown_row w1 p #[.int .u16 m.hd.id, .bool m.hd.qr, .int .u8 m.hd.op, .bool m.hd.aa, .bool m.hd.tc, .bool m.hd.rd, .bool m.hd.ra, .bool m.hd.z, .bool m.hd.ad, .bool m.hd.cd, .int .u8 m.hd.code, .slice qA m.qs.length qc, .slice aA m.ans.length ac, .slice uA m.auth.length uc, .slice xA m.extra.length xc, .bool m.he, .int .u16 m.ed.size, .int .u8 m.ed.ext, .int .u8 m.ed.ver, .int .u16 m.ed.flags, .slice oA m.ed.opts.length oc]
    have rp2 := setRow_heap w1 p _ #[.int .u16 m.hd.id, .bool m.hd.qr, .int .u8 m.hd.op, .bool m.hd.aa, .bool m.hd.tc, .bool m.hd.rd, .bool m.hd.ra, .bool m.hd.z, .bool m.hd.ad, .bool m.hd.cd, .int .u8 m.hd.code, .slice qA m.qs.length qc, .slice aA m.ans.length ac, .slice uA m.auth.length uc, .slice xA m.extra.length xc, .bool m.he, .int .u16 m.ed.size, .int .u8 m.ed.ext, .int .u8 m.ed.ver, .int .u16 m.ed.flags, .slice oA m.ed.opts.length oc] _ _ rp1
    have rq2 := (gr.block _ (Array.getElem?_eq_some_iff.1 rq1).1 (by simp)).trans rq1
    have c2 : (w1.setRow p #[.int .u16 m.hd.id, .bool m.hd.qr, .int .u8 m.hd.op, .bool m.hd.aa, .bool m.hd.tc, .bool m.hd.rd, .bool m.hd.ra, .bool m.hd.z, .bool m.hd.ad, .bool m.hd.cd, .int .u8 m.hd.code, .slice qA m.qs.length qc, .slice aA m.ans.length ac, .slice uA m.auth.length uc, .slice xA m.extra.length xc, .bool m.he, .int .u16 m.ed.size, .int .u8 m.ed.ext, .int .u8 m.ed.ver, .int .u16 m.ed.flags, .slice oA m.ed.opts.length oc]).cell? ⟨p + 1, 0, none⟩ = some (.int .i64 0) := box_cell (j := 0) rq2 rfl
    have f2 : (w1.setRow p #[.int .u16 m.hd.id, .bool m.hd.qr, .int .u8 m.hd.op, .bool m.hd.aa, .bool m.hd.tc, .bool m.hd.rd, .bool m.hd.ra, .bool m.hd.z, .bool m.hd.ad, .bool m.hd.cd, .int .u8 m.hd.code, .slice qA m.qs.length qc, .slice aA m.ans.length ac, .slice uA m.auth.length uc, .slice xA m.extra.length xc, .bool m.he, .int .u16 m.ed.size, .int .u8 m.ed.ext, .int .u8 m.ed.ver, .int .u16 m.ed.flags, .slice oA m.ed.opts.length oc]).frozen? ⟨p + 1, 0, none⟩ = false := box_free rq2
    dsimp only
    repeat (first
      | (refine Go.wpList_store_rowTo rfl 55 (.tmp 2) (.tmp 6) rfl rfl p #[.int .u16 m.hd.id, .bool m.hd.qr, .int .u8 m.hd.op, .bool m.hd.aa, .bool m.hd.tc, .bool m.hd.rd, .bool m.hd.ra, .bool m.hd.z, .bool m.hd.ad, .bool m.hd.cd, .int .u8 m.hd.code, .slice qA m.qs.length qc, .slice aA m.ans.length ac, .slice uA m.auth.length uc, .slice xA m.extra.length xc, .bool m.he, .int .u16 m.ed.size, .int .u8 m.ed.ext, .int .u8 m.ed.ver, .int .u16 m.ed.flags, .slice oA m.ed.opts.length oc] rfl rfl 55 _ rp1 (by kernel_rfl) rfl (by kernel_rfl) ?_)
      | go_step)
    have rp3 := (Below.heap_setCell (w1.setRow p #[.int .u16 m.hd.id, .bool m.hd.qr, .int .u8 m.hd.op, .bool m.hd.aa, .bool m.hd.tc, .bool m.hd.rd, .bool m.hd.ra, .bool m.hd.z, .bool m.hd.ad, .bool m.hd.cd, .int .u8 m.hd.code, .slice qA m.qs.length qc, .slice aA m.ans.length ac, .slice uA m.auth.length uc, .slice xA m.extra.length xc, .bool m.he, .int .u16 m.ed.size, .int .u8 m.ed.ext, .int .u8 m.ed.ver, .int .u16 m.ed.flags, .slice oA m.ed.opts.length oc]) ⟨p + 1, 0, none⟩ (.int .i64 0) p (by dsimp only; omega)).trans rp2
    have rq3 := row_set rq2 0 (.int .i64 0)
    have hw1 : Ext w w1 := hE2.trans hE1
    have hEy := Below.setCell (Below.grown hw1 gr hw1.size (fun k hk => by injection hk with hk; omega)) (p := ⟨p + 1, 0, none⟩) (by dsimp only; omega) (.int .i64 0)
    have hpX := (Array.getElem?_eq_some_iff.1 rq).1
    have hMO2 := (hMO.by_ (w' := w1.setRow p #[.int .u16 m.hd.id, .bool m.hd.qr, .int .u8 m.hd.op, .bool m.hd.aa, .bool m.hd.tc, .bool m.hd.rd, .bool m.hd.ra, .bool m.hd.z, .bool m.hd.ad, .bool m.hd.cd, .int .u8 m.hd.code, .slice qA m.qs.length qc, .slice aA m.ans.length ac, .slice uA m.auth.length uc, .slice xA m.extra.length xc, .bool m.he, .int .u16 m.ed.size, .int .u8 m.ed.ext, .int .u8 m.ed.ver, .int .u16 m.ed.flags, .slice oA m.ed.opts.length oc]) fun k h1 h2 => gr.block k h2 (fun e => by injection e with e; omega)).by_ (w' := (w1.setRow p #[.int .u16 m.hd.id, .bool m.hd.qr, .int .u8 m.hd.op, .bool m.hd.aa, .bool m.hd.tc, .bool m.hd.rd, .bool m.hd.ra, .bool m.hd.z, .bool m.hd.ad, .bool m.hd.cd, .int .u8 m.hd.code, .slice qA m.qs.length qc, .slice aA m.ans.length ac, .slice uA m.auth.length uc, .slice xA m.extra.length xc, .bool m.he, .int .u16 m.ed.size, .int .u8 m.ed.ext, .int .u8 m.ed.ver, .int .u16 m.ed.flags, .slice oA m.ed.opts.length oc]).setCell ⟨p + 1, 0, none⟩ (.int .i64 0)) fun k h1 h2 => Below.heap_setCell _ _ _ k (by dsimp only; omega)
    obtain ⟨Y, hY⟩ : ∃ Y, Y = (w1.setRow p #[.int .u16 m.hd.id, .bool m.hd.qr, .int .u8 m.hd.op, .bool m.hd.aa, .bool m.hd.tc, .bool m.hd.rd, .bool m.hd.ra, .bool m.hd.z, .bool m.hd.ad, .bool m.hd.cd, .int .u8 m.hd.code, .slice qA m.qs.length qc, .slice aA m.ans.length ac, .slice uA m.auth.length uc, .slice xA m.extra.length xc, .bool m.he, .int .u16 m.ed.size, .int .u8 m.ed.ext, .int .u8 m.ed.ver, .int .u16 m.ed.flags, .slice oA m.ed.opts.length oc]).setCell ⟨p + 1, 0, none⟩ (.int .i64 0) := ⟨_, rfl⟩
    rw [← hY] at rp3 rq3 hEy hMO2 ⊢
    clear hY c2 f2 rp2 rq2 gr
    refine leaves_cons (f := 29) (args := #[.pointer (some ⟨p, 0, none⟩), .pointer (some ⟨p + 1, 0, none⟩)]) (by simp) (by simp [go_sem]) ?_
    refine (dec_idle ⟨p, 0, none⟩ ⟨p + 1, 0, none⟩ Y).mono ?_
    rintro e u' w'' ⟨rfl, rfl, hE9⟩
    have rp4 := (hE9.block _ (Array.getElem?_eq_some_iff.1 rp3).1).trans rp3
    have rq4 := (hE9.block _ (Array.getElem?_eq_some_iff.1 rq3).1).trans rq3
    refine ⟨_, results_row_cell rfl _ _ p (p + 1) _ _ _ _ (.int .i64 0) rfl rp4 Tryd.underlying55 rfl (by kernel_rfl) rfl (load_errno (box_cell (j := 0) rq4 rfl)), ?_⟩
    exact ⟨.inr ⟨m, _, _, _, _, _, HMd.out, rfl, (hMO2.ext hE9).lower (by have := hE2.size; omega), hBd⟩, Ext.trans hEy hE9⟩
end Go.Proofs.YtjmfpillnbnofaaDoor
