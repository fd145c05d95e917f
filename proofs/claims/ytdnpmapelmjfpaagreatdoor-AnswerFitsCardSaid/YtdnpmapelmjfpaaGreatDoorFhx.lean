/- Contracts of functions and plain lemmas that the proofs of this seat share (joined texts). No condition. -/
import Derived.Test.YtdnpmapelmjfpaaGreatDoorFht
namespace Go.Proofs.YtdnpmapelmjfpaaGreatDoor
set_option linter.unusedSimpArgs false
set_option linter.unusedVariables false
def valOp : Op → Bool
  | .move _ | .assign _ | .load .. | .fieldAddr .. | .field .. | .indexAddr .. | .index .. | .binOp .. | .unOp .. | .convert .. | .makeInterface .. | .slice .. | .lookup .. | .build .. | .extract .. | .pick .. => true
  | .call { callee := .builtin .len, .. } => true
  | _ => false
theorem val_bind {P : Program} {w w' : World} {s : Sem Value} {n : Next} (h : (do pure (Next.value (← s)) : Sem Next).run P w = .ok n w') : ∃ v, n = .value v := by
  rw [Sem.run_bind] at h
  cases hs : s.run P w with
  | ok x w1 => rw [hs] at h; simp only [Result.andThen_ok, Sem.run_pure] at h; injection h with h1 h2; exact ⟨x, h1.symm⟩
  | halt x w1 => rw [hs] at h; simp [Result.andThen] at h
theorem pick_bind {P : Program} {w w' : World} {s : Sem Bool} {x y : Value} {n : Next} (h : (do pure (Next.value (if ← s then x else y)) : Sem Next).run P w = .ok n w') : ∃ v, n = .value v := by
  rw [Sem.run_bind] at h
  cases hs : s.run P w with
  | ok b w1 => rw [hs] at h; simp only [Result.andThen_ok, Sem.run_pure] at h; injection h with h1 h2; exact ⟨_, h1.symm⟩
  | halt x w1 => rw [hs] at h; simp [Result.andThen] at h
theorem valOp_run {P : Program} {w w' : World} {o : Oper} {ρ : Operand → Value} {n : Next} (hv : valOp o.op = true) (h : (execOp ρ o).run P w = .ok n w') : ∃ v, n = .value v := by
  unfold execOp at h
  cases hop : o.op <;> rw [hop] at h hv <;> first
    | (rename_i c; obtain ⟨cl, xs, ats⟩ := c; cases cl <;> first
        | (exact Bool.noConfusion (show false = true from hv))
        | (rename_i b; cases b <;> first
          | (exact Bool.noConfusion (show false = true from hv))
          | (exact val_bind (s := Builtin.len_ ats o.type (xs.map ρ)) h)))
    | (exact Bool.noConfusion (show false = true from hv))
    | (exact val_bind h)
    | (exact pick_bind h)
    | (simp only [Sem.run_pure] at h; injection h with h1 h2; exact ⟨_, h1.symm⟩)
section
variable {P : Program} {ops : Array Oper} {Q : Exit → Act → World → Prop} {S : World → Prop}
def takesOk (md : Region.Mode) (ops : Array Oper) : List Nat → Nat → Array Bool → Bool
  | [], _, _ => true
  | i :: is, n, listed => decide (0 < n) && (Region.free md ops listed i && (!listed.getD i true && ((ops[i]?).map (·.after.all fun e => !Region.binds md e || listed.getD e.on false)).getD false && takesOk md ops is (n - 1) (listed.setIfInBounds i true)))
def takesOf : List Nat → Tr → Tr
  | [], r => r
  | i :: is, r => .take i (takesOf is r)
def markAll : List Nat → Array Bool → Array Bool
  | [], l => l
  | i :: is, l => markAll is (l.setIfInBounds i true)
theorem okT_takes {md : Region.Mode} {ops : Array Oper} : ∀ (is : List Nat) (r : Tr) (n n' : Nat) (listed L : Array Bool), takesOk md ops is n listed = true → markAll is listed = L → n - is.length = n' → okT md ops r n' L = true → okT md ops (takesOf is r) n listed = true
  | [], r, n, n', listed, L, _, hL, hn, h => by
    simp only [markAll] at hL; simp at hn; subst hL; subst hn; exact h
  | i :: is, r, n, n', listed, L, h1, hL, hn, h => by
    simp only [takesOk, Bool.and_eq_true, decide_eq_true_eq] at h1
    obtain ⟨a1, a2, ⟨a3, a4⟩, a5⟩ := h1
    simp only [takesOf, okT, Bool.and_eq_true, decide_eq_true_eq]
    refine ⟨a1, a2, ?_, okT_takes is r (n - 1) n' _ L a5 hL (by rw [← hn, List.length_cons]; omega) h⟩
    rw [List.contains_iff_mem, Region.ready, List.mem_filter, List.mem_range]
    refine ⟨?_, by rw [a3, a4]; rfl⟩
    rcases hlt : ops[i]? with _ | o
    · rw [hlt] at a4; cases a4
    · exact (Array.getElem?_eq_some_iff.1 hlt).1
theorem okT_run1 {md : Region.Mode} {ops : Array Oper} (i : Nat) (r : Tr) (n n' : Nat) (listed L : Array Bool) (h0 : Nat.blt 0 n = true) (hr : decide (Region.ready md ops listed = [i]) = true) (hL : listed.setIfInBounds i true = L) (hn : n - 1 = n') (h : okT md ops r n' L = true) : okT md ops (.run i r) n listed = true := by
  simp only [okT, Bool.and_eq_true]
  subst hL; subst hn
  exact ⟨by simpa [Nat.blt_eq] using h0, hr, h⟩
theorem wp_exits {o : Oper} {a : Act} {w : World} {K : Act → World → Prop} {Q1 Q2 : Exit → Act → World → Prop} (hp : ∀ e a w, e ≠ .normal → Q1 e a w → Q2 e a w) (h : Oper.wp P o a w K Q1) : Oper.wp P o a w K Q2 := by
  have hl : LetsOut Q1 → LetsOut Q2 := fun ⟨x, y, hx⟩ => ⟨x, y, hp _ _ _ (by simp) hx⟩
  unfold Oper.wp at *
  generalize (execOp a.eval o).run P w = r at *
  cases r with
  | ok n w' =>
    cases n <;> simp only [Oper.upon] at h ⊢ <;> first
      | exact h
      | (refine Calls.mono h fun e w'' he => ?_
         cases e with
         | returned u => exact he
         | panicked c => exact hp _ _ _ (by simp) he
         | outgrown => exact hl he)
  | halt x w' => cases x <;> simp only [Oper.upon] at h ⊢ <;> first | exact h | exact hp _ _ _ (by simp) h
theorem treeRunX {i : Nat} {r : Tr} {a : Act} {w : World} {o : Oper} (ho : nth ops.toList i = some o)
    (h : ∀ Q' : Exit → Act → World → Prop, Shut (∀ a w, S w → seqT P ops Q S r a w → Q' .normal a w) → Shut (∀ e a w, e ≠ .normal → Q e a w → Q' e a w) → wpList P ops Q' [o] a w) : seqT P ops Q S (.run i r) a w := by
  show wpOp P ops Q i _ a w
  have h1 := h (fun e x y => (e = .normal ∧ S y ∧ seqT P ops Q S r x y) ∨ (e ≠ .normal ∧ Q e x y)) (fun _ _ h1 h2 => .inl ⟨rfl, h1, h2⟩) (fun _ _ _ h1 h2 => .inr ⟨h1, h2⟩)
  have hx : ∀ e x y, e ≠ Exit.normal → ((e = .normal ∧ S y ∧ seqT P ops Q S r x y) ∨ (e ≠ .normal ∧ Q e x y)) → Q e x y := by
    rintro e x y h1 (⟨h2, _⟩ | ⟨_, h2⟩)
    · exact (h1 h2).elim
    · exact h2
  unfold wpOp
  rw [show ops[i]? = some o by rw [nth_eq] at ho; simpa using ho]
  unfold wpList at h1
  dsimp only
  split at h1
  · rename_i hw
    rw [if_pos hw]
    rcases h1 with h1 | ⟨h1, x, y, h2⟩
    · refine .inl (wp_exits hx (Oper.wp_mono ?_ h1))
      intro x y h2
      rcases h2 with ⟨_, h2⟩ | ⟨h2, _⟩
      · exact h2
      · exact (h2 rfl).elim
    · exact .inr ⟨h1, x, y, hx _ _ _ (by simp) h2⟩
  · rename_i hw
    rw [if_neg hw]
    rcases h1 with ⟨_, h2⟩ | ⟨h2, _⟩
    · exact h2
    · exact (h2 rfl).elim
end
end Go.Proofs.YtdnpmapelmjfpaaGreatDoor
namespace Go.Proofs.YtdnpmapelmjfpaaGreatDoor
set_option linter.unusedSimpArgs false
set_option linter.unusedVariables false
section
variable {P : Program} {ops : Array Oper} {Q : Exit → Act → World → Prop} {S : World → Prop} {R : World → World → Prop}
end
end Go.Proofs.YtdnpmapelmjfpaaGreatDoor
