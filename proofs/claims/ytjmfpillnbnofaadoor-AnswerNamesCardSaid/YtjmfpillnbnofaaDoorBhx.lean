/- Contracts of functions and plain lemmas that the proofs of this seat share (joined texts). No condition. -/
import Derived.Test.YtjmfpillnbnofaaDoorBht
namespace Go.Proofs.YtjmfpillnbnofaaDoor
set_option linter.unusedSimpArgs false
set_option linter.unusedVariables false
def valOp : Op → Bool
  | .move _ | .assign _ | .load .. | .fieldAddr .. | .field .. | .indexAddr .. | .index .. | .binOp .. | .unOp .. | .convert .. | .makeInterface .. | .slice .. | .lookup .. | .build .. | .extract .. | .pick .. => true
  | .call { callee := .builtin .len, .. } => true
  | _ => false
theorem val_bind {P : Program} {w w' : World} {s : Sem Value} {n : Next} (h : (do pure (Next.value (← s)) : Sem Next).run P w = .ok n w') : ∃ v, n = .value v := by
  rw [Sem.run_bind] at h
  cases hs : s.run P w with
  | ok x w1 => rw [hs] at h; simp only [Result.andThen_ok, Sem.run_pure] at h; injection h with h1 h2; exact ⟨x, h1.symm⟩
  | halt x w1 => rw [hs] at h; simp [Result.andThen] at h
theorem pick_bind {P : Program} {w w' : World} {s : Sem Bool} {x y : Value} {n : Next} (h : (do pure (Next.value (if ← s then x else y)) : Sem Next).run P w = .ok n w') : ∃ v, n = .value v := by
  rw [Sem.run_bind] at h
  cases hs : s.run P w with
  | ok b w1 => rw [hs] at h; simp only [Result.andThen_ok, Sem.run_pure] at h; injection h with h1 h2; exact ⟨_, h1.symm⟩
  | halt x w1 => rw [hs] at h; simp [Result.andThen] at h
theorem valOp_run {P : Program} {w w' : World} {o : Oper} {ρ : Operand → Value} {n : Next} (hv : valOp o.op = true) (h : (execOp ρ o).run P w = .ok n w') : ∃ v, n = .value v := by
  unfold execOp at h
  cases hop : o.op <;> rw [hop] at h hv <;> first
    | (rename_i c; obtain ⟨cl, xs, ats⟩ := c; cases cl <;> first
        | (exact Bool.noConfusion (show false = true from hv))
        | (rename_i b; cases b <;> first
          | (exact Bool.noConfusion (show false = true from hv))
          | (exact val_bind (s := Builtin.len_ ats o.type (xs.map ρ)) h)))
    | (exact Bool.noConfusion (show false = true from hv))
    | (exact val_bind h)
    | (exact pick_bind h)
    | (simp only [Sem.run_pure] at h; injection h with h1 h2; exact ⟨_, h1.symm⟩)
section
variable {P : Program} {ops : Array Oper} {Q : Exit → Act → World → Prop} {S : World → Prop}
theorem treeTakeX {i : Nat} {r : Tr} {a a' : Act} {w : World} {o : Oper} {d : Nat} (hS0 : ∃ V, S V) (ho : nth ops.toList i = some o) (hd : o.dst = some d) (hlt : Nat.blt d a.tmps.size = true) (hv : valOp o.op = true)
    (hy : ∀ V (Q' : Exit → Act → World → Prop), S V → Shut (Q' .normal a' V) → wpList P ops Q' [o] a V) (h : seqT P ops Q S r a' w) : seqT P ops Q S (.take i r) a w := by
  have hlt' : d < a.tmps.size := by simpa [Nat.blt_eq] using hlt
  have key : ∀ V, S V → (Region.wanted o (yielded ops a.tmps) = true ∧ ∃ v, (execOp a.eval o).run P V = .ok (.value v) V ∧ a.put o.dst v = a') ∨ (Region.wanted o (yielded ops a.tmps) = false ∧ a.put o.dst undef = a') := by
    intro V hV
    have h1 := hy V (fun e x y => e = .normal ∧ x = a' ∧ y = V) hV ⟨rfl, rfl, rfl⟩
    unfold wpList at h1
    split at h1
    · rename_i hw
      refine .inl ⟨hw, ?_⟩
      rcases h1 with h1 | ⟨_, x, y, hx, _⟩
      case inr => cases hx
      unfold Oper.wp at h1
      cases hr : (execOp a.eval o).run P V with
      | ok n w1 =>
        obtain ⟨v, rfl⟩ := valOp_run hv hr
        rw [hr] at h1
        obtain ⟨_, h2, h3⟩ := h1
        subst h3
        exact ⟨v, rfl, h2⟩
      | halt x w1 =>
        rw [hr] at h1
        cases x <;> first | exact h1.elim | (obtain ⟨h2, _⟩ := h1; cases h2)
    · rename_i hw
      obtain ⟨_, h2, _⟩ := h1
      exact .inr ⟨by simpa using hw, h2⟩
  have hput : ∀ v, a.put o.dst v = a' → v = a'.tmps.getD d undef := by
    intro v e
    rw [← e, hd]
    simp [Act.put, hlt']
  obtain ⟨V0, hV0⟩ := hS0
  rcases key V0 hV0 with ⟨hw, v, hr, he⟩ | ⟨hw, he⟩
  · refine ⟨o, v, by rw [nth_eq] at ho; simpa using ho, .inl ⟨hw, fun V hV => ?_⟩, by rw [he]; exact h⟩
    rcases key V hV with ⟨_, v', hr', he'⟩ | ⟨hw', _⟩
    · rw [hr', hput v' he', ← hput v he]
    · rw [hw] at hw'; cases hw'
  · exact ⟨o, undef, by rw [nth_eq] at ho; simpa using ho, .inr ⟨hw, rfl⟩, by rw [he]; exact h⟩
def takesOk (md : Region.Mode) (ops : Array Oper) : List Nat → Nat → Array Bool → Bool
  | [], _, _ => true
  | i :: is, n, listed => decide (0 < n) && (Region.free md ops listed i && (!listed.getD i true && ((ops[i]?).map (·.after.all fun e => !Region.binds md e || listed.getD e.on false)).getD false && takesOk md ops is (n - 1) (listed.setIfInBounds i true)))
def takesOf : List Nat → Tr → Tr
  | [], r => r
  | i :: is, r => .take i (takesOf is r)
def markAll : List Nat → Array Bool → Array Bool
  | [], l => l
  | i :: is, l => markAll is (l.setIfInBounds i true)
theorem okT_takes {md : Region.Mode} {ops : Array Oper} : ∀ (is : List Nat) (r : Tr) (n n' : Nat) (listed L : Array Bool), takesOk md ops is n listed = true → markAll is listed = L → n - is.length = n' → okT md ops r n' L = true → okT md ops (takesOf is r) n listed = true
  | [], r, n, n', listed, L, _, hL, hn, h => by
    simp only [markAll] at hL; simp at hn; subst hL; subst hn; exact h
  | i :: is, r, n, n', listed, L, h1, hL, hn, h => by
    simp only [takesOk, Bool.and_eq_true, decide_eq_true_eq] at h1
    obtain ⟨a1, a2, ⟨a3, a4⟩, a5⟩ := h1
    simp only [takesOf, okT, Bool.and_eq_true, decide_eq_true_eq]
    refine ⟨a1, a2, ?_, okT_takes is r (n - 1) n' _ L a5 hL (by rw [← hn, List.length_cons]; omega) h⟩
    rw [List.contains_iff_mem, Region.ready, List.mem_filter, List.mem_range]
    refine ⟨?_, by rw [a3, a4]; rfl⟩
    rcases hlt : ops[i]? with _ | o
    · rw [hlt] at a4; cases a4
    · exact (Array.getElem?_eq_some_iff.1 hlt).1
theorem okT_run1 {md : Region.Mode} {ops : Array Oper} (i : Nat) (r : Tr) (n n' : Nat) (listed L : Array Bool) (h0 : Nat.blt 0 n = true) (hr : decide (Region.ready md ops listed = [i]) = true) (hL : listed.setIfInBounds i true = L) (hn : n - 1 = n') (h : okT md ops r n' L = true) : okT md ops (.run i r) n listed = true := by
  simp only [okT, Bool.and_eq_true]
  subst hL; subst hn
  exact ⟨by simpa [Nat.blt_eq] using h0, hr, h⟩
theorem wp_exits {o : Oper} {a : Act} {w : World} {K : Act → World → Prop} {Q1 Q2 : Exit → Act → World → Prop} (hp : ∀ e a w, e ≠ .normal → Q1 e a w → Q2 e a w) (h : Oper.wp P o a w K Q1) : Oper.wp P o a w K Q2 := by
  have hl : LetsOut Q1 → LetsOut Q2 := fun ⟨x, y, hx⟩ => ⟨x, y, hp _ _ _ (by simp) hx⟩
  unfold Oper.wp at *
  generalize (execOp a.eval o).run P w = r at *
  cases r with
  | ok n w' =>
    cases n <;> simp only [Oper.upon] at h ⊢ <;> first
      | exact h
      | (refine Calls.mono h fun e w'' he => ?_
         cases e with
         | returned u => exact he
         | panicked c => exact hp _ _ _ (by simp) he
         | outgrown => exact hl he)
  | halt x w' => cases x <;> simp only [Oper.upon] at h ⊢ <;> first | exact h | exact hp _ _ _ (by simp) h
theorem treeRunX {i : Nat} {r : Tr} {a : Act} {w : World} {o : Oper} (ho : nth ops.toList i = some o)
    (h : ∀ Q' : Exit → Act → World → Prop, Shut (∀ a w, S w → seqT P ops Q S r a w → Q' .normal a w) → Shut (∀ e a w, e ≠ .normal → Q e a w → Q' e a w) → wpList P ops Q' [o] a w) : seqT P ops Q S (.run i r) a w := by
  show wpOp P ops Q i _ a w
  have h1 := h (fun e x y => (e = .normal ∧ S y ∧ seqT P ops Q S r x y) ∨ (e ≠ .normal ∧ Q e x y)) (fun _ _ h1 h2 => .inl ⟨rfl, h1, h2⟩) (fun _ _ _ h1 h2 => .inr ⟨h1, h2⟩)
  have hx : ∀ e x y, e ≠ Exit.normal → ((e = .normal ∧ S y ∧ seqT P ops Q S r x y) ∨ (e ≠ .normal ∧ Q e x y)) → Q e x y := by
    rintro e x y h1 (⟨h2, _⟩ | ⟨_, h2⟩)
    · exact (h1 h2).elim
    · exact h2
  unfold wpOp
  rw [show ops[i]? = some o by rw [nth_eq] at ho; simpa using ho]
  unfold wpList at h1
  dsimp only
  split at h1
  · rename_i hw
    rw [if_pos hw]
    rcases h1 with h1 | ⟨h1, x, y, h2⟩
    · refine .inl (wp_exits hx (Oper.wp_mono ?_ h1))
      intro x y h2
      rcases h2 with ⟨_, h2⟩ | ⟨h2, _⟩
      · exact h2
      · exact (h2 rfl).elim
    · exact .inr ⟨h1, x, y, hx _ _ _ (by simp) h2⟩
  · rename_i hw
    rw [if_neg hw]
    rcases h1 with ⟨_, h2⟩ | ⟨h2, _⟩
    · exact h2
    · exact (h2 rfl).elim
end
end Go.Proofs.YtjmfpillnbnofaaDoor
namespace Go.Proofs.YtjmfpillnbnofaaDoor
set_option linter.unusedSimpArgs false
set_option linter.unusedVariables false
/-- How many operations have not come up. -/
def leftN (l : Array Bool) : Nat := (l.toList.filter (fun b => !b)).length
theorem leftL_set : ∀ (l : List Bool) (i : Nat), l[i]? = some false → ((l.set i true).filter (fun b => !b)).length + 1 = (l.filter (fun b => !b)).length
  | [], i, h => by simp at h
  | b :: r, 0, h => by simp at h; subst h; simp
  | b :: r, i + 1, h => by
    have := leftL_set r i (by simpa using h)
    cases b <;> simp [this]
theorem getD_false {l : Array Bool} {i : Nat} (h : l.getD i true = false) : l[i]? = some false := by
  rcases Nat.lt_or_ge i l.size with h' | h'
  · simp [h'] at h ⊢; exact h
  · simp [h'] at h
theorem leftN_set {l : Array Bool} {i : Nat} (h : l.getD i true = false) : leftN (l.setIfInBounds i true) + 1 = leftN l := by
  unfold leftN
  rw [Array.toList_setIfInBounds]
  exact leftL_set _ _ (by simpa using getD_false h)
theorem leftN_zero {l : Array Bool} (h : leftN l = 0) (i : Nat) : l.getD i true = true := by
  cases hc : l.getD i true with
  | true => rfl
  | false => have := leftN_set hc; omega
section
variable {P : Program} {ops : Array Oper} {Q : Exit → Act → World → Prop} {S : World → Prop} {R : World → World → Prop}
def depB (ops : Array Oper) (i j : Nat) : Bool := ((ops[i]?).map fun o => o.after.any fun e => Region.binds .any e && e.on == j).getD false
/-- The operations js may come up one by one. -/
def topo (ops : Array Oper) : List (Nat × Nat) → Array Bool → Bool
  | [], _ => true
  | (i, _) :: r, l => ((ops[i]?).map (·.after.all fun e => !Region.binds .any e || l.getD e.on false)).getD false && topo ops r (l.setIfInBounds i true)
def putXs : List (Nat × Nat) → Act → (Nat → Value) → Act
  | [], a, _ => a
  | (i, d) :: r, a, xs => putXs r (a.put (some d) (xs i)) xs
def upd (xs : Nat → Value) (i : Nat) (v : Value) : Nat → Value := fun j => if j = i then v else xs j
def distinct : List Nat → Bool
  | [] => true
  | i :: r => (!r.contains i) && distinct r
def okI (ops : Array Oper) (js : List (Nat × Nat)) (n : Nat) (l : Array Bool) : Bool :=
  decide (leftN l = n) && (decide (l.size = ops.size) && (topo ops js l && (distinct (js.map (·.1)) && (distinct (js.map (·.2)) &&
    (((List.range ops.size).all fun i => l.getD i true || (js.map (·.1)).contains i) && ((js.all fun p => ((ops[p.1]?).map fun o => o.dst == some p.2).getD false) && js.all fun p => !l.getD p.1 true))))))
theorem topo_done : ∀ (js : List (Nat × Nat)) (l L : Array Bool), topo ops js l = true → L.size = l.size → (∀ i, l.getD i false = true → L.getD i false = true) → Region.ready .any ops L = [] → ∀ p ∈ js, p.1 < l.size → L.getD p.1 false = true
  | [], _, _, _, _, _, _ => by simp
  | (i, d) :: r, l, L, h, hz, hs, hr => by
    simp only [topo, Bool.and_eq_true] at h
    obtain ⟨h1, h2⟩ := h
    have hi : i < l.size → L.getD i false = true := by
      intro hlt
      cases hc : L.getD i true with
      | true =>
        have hlt' : i < L.size := by omega
        simp [hlt'] at hc ⊢
        exact hc
      | false =>
        exfalso
        have hm : i ∈ Region.ready .any ops L := by
          rw [mem_ready]
          refine ⟨hc, ?_⟩
          cases ho : ops[i]? with
          | none => rw [ho] at h1; cases h1
          | some o =>
            rw [ho] at h1
            refine ⟨o, rfl, fun e he hb => ?_⟩
            have h3 : (o.after.all fun e => !Region.binds .any e || l.getD e.on false) = true := h1
            rw [Array.all_eq_true_iff_forall_mem] at h3
            have := h3 e he
            rw [hb] at this
            exact hs _ (by simpa using this)
        rw [hr] at hm
        cases hm
    intro p hp hlt
    rcases List.mem_cons.1 hp with rfl | hp
    · exact hi hlt
    · refine topo_done r _ L h2 (by rw [Array.size_setIfInBounds]; exact hz) (fun j hj => ?_) hr p hp (by rw [Array.size_setIfInBounds]; exact hlt)
      by_cases hij : i = j
      · subst hij
        refine hi ?_
        rcases Nat.lt_or_ge i l.size with h' | h'
        · exact h'
        · simp [h'] at hj
      · rw [getD_set_ne false hij] at hj
        exact hs _ hj
theorem putXs_put : ∀ (js : List (Nat × Nat)) (a : Act) (xs : Nat → Value) (d : Nat) (v : Value), (∀ p ∈ js, p.2 ≠ d) → putXs js (a.put (some d) v) xs = (putXs js a xs).put (some d) v
  | [], _, _, _, _, _ => rfl
  | (i, e) :: r, a, xs, d, v, h => by
    simp only [putXs]
    rw [Act.put_comm a v (xs i) (by
      intro x hx hy
      injection hx with hx
      injection hy with hy
      exact h (i, e) (by simp) (by rw [hx]; exact hy)), putXs_put r _ xs d v (fun p hp => h p (by simp [hp]))]
theorem put_put (a : Act) (d : Nat) (u v : Value) : (a.put (some d) u).put (some d) v = a.put (some d) v := by
  simp only [Act.put, Array.setIfInBounds_setIfInBounds]
theorem putXs_same : ∀ (js : List (Nat × Nat)) (a : Act) (xs : Nat → Value) (i : Nat) (v : Value), (∀ p ∈ js, p.1 ≠ i) → putXs js a (upd xs i v) = putXs js a xs
  | [], _, _, _, _, _ => rfl
  | (k, e) :: r, a, xs, i, v, h => by
    simp only [putXs]
    rw [putXs_same r _ xs i v (fun p hp => h p (by simp [hp])), show upd xs i v k = xs k from if_neg (h (k, e) (by simp))]
theorem not_mem_of_distinct {i : Nat} {r : List Nat} (h : (!r.contains i) = true) : ∀ x ∈ r, x ≠ i := by
  intro x hx e
  subst e
  simp at h
  exact h hx
theorem putXs_upd : ∀ (js : List (Nat × Nat)) (a : Act) (xs : Nat → Value) (i d : Nat) (v : Value), distinct (js.map (·.1)) = true → distinct (js.map (·.2)) = true → (i, d) ∈ js → (putXs js a xs).put (some d) v = putXs js a (upd xs i v)
  | [], _, _, _, _, _, _, _, h => by cases h
  | (k, e) :: r, a, xs, i, d, v, h1, h2, h => by
    simp only [List.map_cons, distinct, Bool.and_eq_true] at h1 h2
    have n1 : ∀ p ∈ r, p.1 ≠ k := fun p hp => not_mem_of_distinct h1.1 _ (List.mem_map_of_mem hp)
    have n2 : ∀ p ∈ r, p.2 ≠ e := fun p hp => not_mem_of_distinct h2.1 _ (List.mem_map_of_mem hp)
    simp only [putXs]
    by_cases hik : i = k
    · subst hik
      have hde : d = e := by
        rcases List.mem_cons.1 h with h | h
        · injection h
        · exact absurd rfl (n1 _ h)
      subst hde
      rw [← putXs_put r _ xs d v n2, put_put, putXs_same r _ xs i v n1, show upd xs i v i = v from if_pos rfl]
    · have hm : (i, d) ∈ r := by
        rcases List.mem_cons.1 h with h | h
        · injection h with h _; exact absurd h hik
        · exact h
      rw [putXs_upd r _ xs i d v h1.2 h2.2 hm, show upd xs i v k = xs k from if_neg (fun e => hik e.symm)]
theorem putXs_self : ∀ (js : List (Nat × Nat)) (a : Act) (xs : Nat → Value), (∀ p ∈ js, p.2 < a.tmps.size) → distinct (js.map (·.2)) = true → (∀ p ∈ js, xs p.1 = a.tmps.getD p.2 undef) → putXs js a xs = a
  | [], _, _, _, _, _ => rfl
  | (k, e) :: r, a, xs, hz, hd, h => by
    simp only [putXs]
    have h0 : a.put (some e) (xs k) = a := by
      rw [h (k, e) (by simp)]
      have hlt := hz (k, e) (by simp)
      simp only [Act.put]
      have : a.tmps.setIfInBounds e (a.tmps.getD e undef) = a.tmps := by
        refine Array.ext (by simp) (fun j h1 h2 => ?_)
        by_cases hj : e = j
        · subst hj; simp [hlt]
        · rw [Array.getElem_setIfInBounds_ne _ hj]
      rw [this]
    rw [h0]
    simp only [List.map_cons, distinct, Bool.and_eq_true] at hd
    exact putXs_self r a xs (fun p hp => hz p (by simp [hp])) hd.2 (fun p hp => h p (by simp [hp]))
/-- What an operation of js is asked: of any state in which what it waits for stands, it lays its fact, and the facts stay. -/
def StepI (P : Program) (ops : Array Oper) (Q : Exit → Act → World → Prop) (S : World → Prop) (R : World → World → Prop) (js : List (Nat × Nat)) (F : Nat → Value → World → Prop) (mk : (Nat → Value) → Act) (i : Nat) : Prop :=
  ∀ (xs : Nat → Value) (V : World), S V → (∀ j, ((js.map (·.1)).contains j && depB ops i j) = true → F j (xs j) V) → wpOp P ops Q i (fun a' V' => ∃ v, R V V' ∧ F i v V' ∧ a' = mk (upd xs i v)) (mk xs) V
def EachI (p : Nat → Prop) : List (Nat × Nat) → Prop
  | [] => True
  | (i, _) :: r => p i ∧ EachI p r
theorem EachI.mem {p : Nat → Prop} : ∀ {js : List (Nat × Nat)}, EachI p js → ∀ q ∈ js, p q.1
  | [], _, q, hq => by cases hq
  | (i, d) :: r, h, q, hq => by
    rcases List.mem_cons.1 hq with rfl | hq
    · exact h.1
    · exact EachI.mem h.2 q hq
theorem invAny {js : List (Nat × Nat)} {mk : (Nat → Value) → Act} {F : Nat → Value → World → Prop} {n : Nat} {l : Array Bool} (hok : okI ops js n l = true)
    (hRS : ∀ V V', S V → R V V' → S V') (hF : ∀ i v V V', S V → R V V' → F i v V → F i v V')
    (hop : EachI (StepI P ops Q S R js F mk) js) (hend : ∀ xs V, S V → (∀ j, (js.map (·.1)).contains j = true → F j (xs j) V) → Q .normal (mk xs) V) :
    ∀ (m : Nat) (L : Array Bool) (xs : Nat → Value) (w : World), leftN L = m → L.size = l.size → (∀ i, l.getD i false = true → L.getD i false = true) → (∀ j, (js.map (·.1)).contains j = true → L.getD j false = true → F j (xs j) w) → S w → wpAnyH P .any ops Q S m L (mk xs) w := by
  simp only [okI, Bool.and_eq_true, decide_eq_true_eq] at hok
  obtain ⟨o1, o2, o3, o4, o5, o6, o7, o8⟩ := hok
  have hall : ∀ (L : Array Bool), L.size = l.size → (∀ i, l.getD i false = true → L.getD i false = true) → Region.ready .any ops L = [] → ∀ j, (js.map (·.1)).contains j = true → L.getD j false = true := by
    intro L hz hs hr j hj
    obtain ⟨p, hp, rfl⟩ := List.mem_map.1 (List.contains_iff_mem.1 hj)
    refine topo_done js l L o3 hz hs hr p hp ?_
    have := List.all_eq_true.1 o8 p hp
    rcases Nat.lt_or_ge p.1 l.size with h' | h'
    · exact h'
    · simp [h'] at this
  intro m
  induction m with
  | zero =>
    intro L xs w hm hz hs hf hS
    have hr : Region.ready .any ops L = [] := by
      rcases hq : Region.ready .any ops L with _ | ⟨i, r⟩
      · rfl
      · exfalso
        have h1 : i ∈ Region.ready .any ops L := by rw [hq]; simp
        have h2 := (mem_ready.1 h1).1
        rw [leftN_zero hm i] at h2
        cases h2
    exact ⟨hr, hend xs w hS (fun j hj => hf j hj (hall L hz hs hr j hj))⟩
  | succ m ih =>
    intro L xs w hm hz hs hf hS
    refine ⟨fun hr => hend xs w hS (fun j hj => hf j hj (hall L hz hs hr j hj)), fun i hi => ?_⟩
    obtain ⟨hu, o, ho, hd⟩ := mem_ready.1 hi
    have hlt : i < ops.size := (Array.getElem?_eq_some_iff.1 ho).1
    have hlL : i < L.size := by omega
    have hil : l.getD i true = false := by
      cases hc : l.getD i true with
      | false => rfl
      | true =>
        have hc' : l.getD i false = true := by
          have : i < l.size := by omega
          simp [this] at hc ⊢
          exact hc
        have h3 := hs i hc'
        simp [hlL] at h3 hu
        rw [h3] at hu
        cases hu
    have hij : (js.map (·.1)).contains i = true := by
      have := List.all_eq_true.1 o6 i (List.mem_range.2 hlt)
      rw [hil] at this
      simpa using this
    obtain ⟨p, hp, rfl⟩ := List.mem_map.1 (List.contains_iff_mem.1 hij)
    have hst := EachI.mem hop p hp xs w hS (fun j hj => by
      rw [Bool.and_eq_true] at hj
      refine hf j hj.1 ?_
      have h2 := hj.2
      unfold depB at h2
      rw [ho] at h2
      have h3 : (o.after.any fun e => Region.binds .any e && e.on == j) = true := h2
      rw [Array.any_eq_true'] at h3
      obtain ⟨e, he, h4⟩ := h3
      simp only [Bool.and_eq_true, beq_iff_eq] at h4
      rw [← h4.2]
      exact hd e he h4.1)
    refine wpOp_mono ?_ hst
    rintro a' w' ⟨v, hR, hv, rfl⟩
    refine ⟨hRS _ _ hS hR, ih _ _ w' (by have := leftN_set hu; omega) (by rw [Array.size_setIfInBounds]; exact hz) (fun j hj => getD_set_true (hs j hj)) (fun j hj hl => ?_) (hRS _ _ hS hR)⟩
    by_cases hjp : j = p.1
    · rw [hjp, show upd xs p.1 v p.1 = v from if_pos rfl]; exact hv
    · rw [show upd xs p.1 v j = xs j from if_neg hjp]
      rw [getD_set_ne false (fun e => hjp e.symm)] at hl
      exact hF _ _ _ _ hS hR (hf j hj hl)
/-- The whole: from a state a on. -/
theorem invStart {js : List (Nat × Nat)} {F : Nat → Value → World → Prop} {n : Nat} {l : Array Bool} {a : Act} {w : World} (hok : okI ops js n l = true) (hz : (js.all fun p => Nat.blt p.2 a.tmps.size) = true)
    (hRS : ∀ V V', S V → R V V' → S V') (hF : ∀ i v V V', S V → R V V' → F i v V → F i v V') (hS : S w)
    (h : ∀ mk : (Nat → Value) → Act, mk = putXs js a → EachI (StepI P ops Q S R js F mk) js ∧ (∀ xs V, S V → (∀ j, (js.map (·.1)).contains j = true → F j (xs j) V) → Q .normal (mk xs) V)) : wpAnyH P .any ops Q S n l a w := by
  obtain ⟨h1, h2⟩ := h _ rfl
  have hok' := hok
  simp only [okI, Bool.and_eq_true, decide_eq_true_eq] at hok'
  obtain ⟨o1, o2, o3, o4, o5, o6, o7, o8⟩ := hok'
  obtain ⟨xs, hxs⟩ : ∃ xs : Nat → Value, ∀ p ∈ js, xs p.1 = a.tmps.getD p.2 undef := by
    clear h h1 h2 hz o3 o5 o6 o7 o8 hok
    induction js with
    | nil => exact ⟨fun _ => undef, by simp⟩
    | cons p r ih =>
      simp only [List.map_cons, distinct, Bool.and_eq_true] at o4
      obtain ⟨xs, hx⟩ := ih o4.2
      refine ⟨upd xs p.1 (a.tmps.getD p.2 undef), fun q hq => ?_⟩
      rcases List.mem_cons.1 hq with rfl | hq
      · exact if_pos rfl
      · rw [show upd xs p.1 (a.tmps.getD p.2 undef) q.1 = xs q.1 from if_neg (not_mem_of_distinct o4.1 _ (List.mem_map_of_mem hq))]
        exact hx q hq
  have e := putXs_self js a xs (fun p hp => by simpa [Nat.blt_eq] using List.all_eq_true.1 hz p hp) o5 hxs
  have := invAny hok hRS hF h1 h2 n l xs w o1 rfl (fun _ h => h) (fun j hj hl => by
    exfalso
    obtain ⟨p, hp, rfl⟩ := List.mem_map.1 (List.contains_iff_mem.1 hj)
    have h3 := List.all_eq_true.1 o8 p hp
    have hlt : p.1 < l.size := by
      rcases Nat.lt_or_ge p.1 l.size with h' | h'
      · exact h'
      · simp [h'] at hl
    simp [hlt] at h3 hl
    rw [h3] at hl
    cases hl) hS
  rw [e] at this
  exact this
/-- One operation, by the walk's own step. -/
theorem stepI {js : List (Nat × Nat)} {F : Nat → Value → World → Prop} {mk : (Nat → Value) → Act} {a : Act} {i d : Nat} {o : Oper} (hmk : mk = putXs js a) (ho : nth ops.toList i = some o) (hd : o.dst = some d)
    (hj : (js.contains (i, d) && (distinct (js.map (·.1)) && distinct (js.map (·.2)))) = true)
    (h : ∀ (xs : Nat → Value) (V : World) (Q' : Exit → Act → World → Prop), S V → (∀ j, ((js.map (·.1)).contains j && depB ops i j) = true → F j (xs j) V) → Shut (∀ v V', R V V' → F i v V' → Q' .normal ((mk xs).put (some d) v) V') → Shut (∀ e a w, e ≠ .normal → Q e a w → Q' e a w) → wpList P ops Q' [o] (mk xs) V) : StepI P ops Q S R js F mk i := by
  intro xs V hS hf
  simp only [Bool.and_eq_true] at hj
  have hmem : (i, d) ∈ js := List.contains_iff_mem.1 hj.1
  have h1 := h xs V (fun e x y => (e = .normal ∧ ∃ v, R V y ∧ F i v y ∧ x = mk (upd xs i v)) ∨ (e ≠ .normal ∧ Q e x y)) hS hf
    (fun v V' hR hv => .inl ⟨rfl, v, hR, hv, by rw [hmk]; exact putXs_upd js a xs i d v hj.2.1 hj.2.2 hmem⟩) (fun _ _ _ h1 h2 => .inr ⟨h1, h2⟩)
  have hx : ∀ e x y, e ≠ Exit.normal → ((e = .normal ∧ ∃ v, R V y ∧ F i v y ∧ x = mk (upd xs i v)) ∨ (e ≠ .normal ∧ Q e x y)) → Q e x y := by
    rintro e x y h1 (⟨h2, _⟩ | ⟨_, h2⟩)
    · exact (h1 h2).elim
    · exact h2
  unfold wpOp
  rw [show ops[i]? = some o by rw [nth_eq] at ho; simpa using ho]
  unfold wpList at h1
  dsimp only
  split at h1
  · rename_i hw
    rw [if_pos hw]
    rcases h1 with h1 | ⟨h1, x, y, h2⟩
    · refine .inl (wp_exits hx (Oper.wp_mono ?_ h1))
      intro x y h2
      rcases h2 with ⟨_, h2⟩ | ⟨h2, _⟩
      · exact h2
      · exact (h2 rfl).elim
    · exact .inr ⟨h1, x, y, hx _ _ _ (by simp) h2⟩
  · rename_i hw
    rw [if_neg hw]
    rcases h1 with ⟨_, h2⟩ | ⟨h2, _⟩
    · exact h2
    · exact (h2 rfl).elim
end
end Go.Proofs.YtjmfpillnbnofaaDoor
