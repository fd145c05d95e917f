/- Contracts of functions and plain lemmas that the proofs of this seat share (joined texts). No condition. -/
import Derived.Test.YtcpikbanghoflaaGreatDoorBi
import Derived.Test.YtcpikbanghoflaaGreatDoorBd
import Derived.Test.YtcpikbanghoflaaGreatDoorBa
namespace Go.Proofs.YtcpikbanghoflaaGreatDoor
set_option linter.unusedSimpArgs false
set_option linter.unusedVariables false

/-! ### Texts in order -/
theorem bl_lt : ∀ a b : List UInt8, bl a b = decide (a < b)
  | [], [] => by simp [bl, Op.bytesLess]
  | [], _ :: _ => by simp [bl, Op.bytesLess]
  | _ :: _, [] => by simp [bl, Op.bytesLess]
  | x :: a, y :: b => by
    have ih := bl_lt a b
    simp only [bl, Op.bytesLess] at *
    rw [ih]
    rw [Bool.eq_iff_iff]
    simp [List.cons_lt_cons_iff]
/-- Strictly ascending. -/
def Asc (l : List (List UInt8)) : Prop := l.Pairwise fun a b => bl a b = true
theorem asc_ext : ∀ {l m : List (List UInt8)}, Asc l → Asc m → (∀ x, x ∈ l ↔ x ∈ m) → l = m
  | [], [], _, _, _ => rfl
  | [], b :: m, _, _, h => absurd ((h b).2 (by simp)) (by simp)
  | a :: l, [], _, _, h => absurd ((h a).1 (by simp)) (by simp)
  | a :: l, b :: m, hl, hm, h => by
    have hl' := List.pairwise_cons.1 hl
    have hm' := List.pairwise_cons.1 hm
    have hab : a = b := by
      rcases List.mem_cons.1 ((h a).1 (by simp)) with e | e
      · exact e
      · rcases List.mem_cons.1 ((h b).2 (by simp)) with e' | e'
        · exact e'.symm
        · have h1 := hm'.1 a e
          have h2 := hl'.1 b e'
          have := (bl_asym a b h2).1
          rw [h1] at this; cases this
    subst hab
    have : l = m := by
      refine asc_ext hl'.2 hm'.2 (fun x => ?_)
      have hx := h x
      simp only [List.mem_cons] at hx
      constructor
      · intro hxl
        rcases hx.1 (.inr hxl) with e | e
        · subst e
          have := hl'.1 x hxl
          rw [bl_irr] at this; cases this
        · exact e
      · intro hxm
        rcases hx.2 (.inr hxm) with e | e
        · subst e
          have := hm'.1 x hxm
          rw [bl_irr] at this; cases this
        · exact e
    rw [this]
theorem insB_asc {l : List (List UInt8)} {s : List UInt8} (h : Asc l) (hn : s ∉ l) : Asc (insB l s) := by
  induction l with
  | nil => simp [insB, Asc]
  | cons a l ih =>
    have h' := List.pairwise_cons.1 h
    simp only [insB]
    split
    · rename_i hb
      refine List.pairwise_cons.2 ⟨fun x hx => ?_, h⟩
      rcases List.mem_cons.1 hx with rfl | hx
      · exact hb
      · exact bl_trans _ _ _ hb (h'.1 x hx)
    · rename_i hb
      have hne : s ≠ a := fun e => hn (by simp [e])
      have hba : bl a s = true := by
        rcases hc : bl a s with _ | _
        · exact absurd (bl_total a s hc (by simpa using hb)).symm hne
        · rfl
      refine List.pairwise_cons.2 ⟨fun x hx => ?_, ih h'.2 (fun hm => hn (by simp [hm]))⟩
      rcases insB_mem hx with hx | rfl
      · exact h'.1 x hx
      · exact hba
theorem mem_insB {l : List (List UInt8)} {s x : List UInt8} : x ∈ insB l s ↔ x ∈ l ∨ x = s := by
  induction l with
  | nil => simp [insB]
  | cons a l ih =>
    simp only [insB]
    split
    · simp only [List.mem_cons]
      constructor
      · rintro (h | h | h)
        · exact .inr h
        · exact .inl (.inl h)
        · exact .inl (.inr h)
      · rintro ((h | h) | h)
        · exact .inr (.inl h)
        · exact .inr (.inr h)
        · exact .inl h
    · simp only [List.mem_cons, ih]
      constructor
      · rintro (h | h | h)
        · exact .inl (.inl h)
        · exact .inl (.inr h)
        · exact .inr h
      · rintro ((h | h) | h)
        · exact .inl h
        · exact .inr (.inl h)
        · exact .inr (.inr h)
theorem putS_asc {l : List (List UInt8)} {s : List UInt8} (h : Asc l) : Asc (putS l s) := by
  unfold putS
  split
  · exact h
  · rename_i hc
    exact insB_asc h (fun hm => hc (by rw [List.contains_iff_mem]; exact hm))
theorem mem_putS {l : List (List UInt8)} {s x : List UInt8} : x ∈ putS l s ↔ x ∈ l ∨ x = s := by
  unfold putS
  split
  · rename_i hc
    rw [List.contains_iff_mem] at hc
    constructor
    · exact .inl
    · rintro (h | rfl)
      · exact h
      · exact hc
  · exact mem_insB

/-! ### Sorted and compacted -/
theorem sortB_asc (l : List (List UInt8)) : (sortB l).Pairwise fun a b => bl b a = false := by
  have := List.pairwise_mergeSort (le := fun x y : List UInt8 => decide (x ≤ y)) (fun a b c h1 h2 => by
      simp only [decide_eq_true_eq] at *; exact List.le_trans h1 h2) (fun a b => by
      simp only [Bool.or_eq_true, decide_eq_true_eq]; exact List.le_total a b) l
  refine this.imp ?_
  intro a b h
  rw [bl_lt]
  simp only [decide_eq_true_eq, decide_eq_false_iff_not] at *
  exact List.not_lt.2 h
theorem mem_compact {l : List (List UInt8)} {x : List UInt8} : x ∈ Lib.compact l ↔ x ∈ l := by
  unfold Lib.compact Lib.compactUpTo
  rw [List.mem_map]
  constructor
  · rintro ⟨j, hj, rfl⟩
    have hjl : j < l.length := by simpa using (List.mem_filter.1 hj).1
    rw [getElem!_pos l.toArray j (by simpa using hjl)]
    simp
  · intro hx
    obtain ⟨i, hi, rfl⟩ := List.getElem_of_mem hx
    have key : ∀ (m i : Nat) (hi : i < l.length), i < m → ∃ j, j ∈ (List.range l.length).filter (Lib.keeps l.toArray) ∧ l.toArray[j]! = l[i] := by
      intro m
      induction m with
      | zero => intro i _ h; omega
      | succ m ih =>
        intro i hi h
        by_cases hk : Lib.keeps l.toArray i = true
        · exact ⟨i, List.mem_filter.2 ⟨List.mem_range.2 hi, hk⟩, by rw [getElem!_pos l.toArray i (by simpa using hi)]; simp⟩
        · unfold Lib.keeps at hk
          simp only [decide_eq_true_eq, not_or, Decidable.not_not] at hk
          obtain ⟨j, h1, h2⟩ := ih (i - 1) (by omega) (by omega)
          refine ⟨j, h1, h2.trans ?_⟩
          have h3 := hk.2
          rw [getElem!_pos l.toArray i (by simpa using hi), getElem!_pos l.toArray (i - 1) (by simp; omega)] at h3
          simpa using h3.symm
    obtain ⟨j, h1, h2⟩ := key (i + 1) i hi (by omega)
    exact ⟨j, h1, h2⟩
theorem compact_asc (l : List (List UInt8)) (hs : l.Pairwise fun a b => bl b a = false) : Asc (Lib.compact l) := by
  unfold Lib.compact Lib.compactUpTo Asc
  rw [List.pairwise_map]
  have hr : ((List.range l.length).filter (Lib.keeps l.toArray)).Pairwise (· < ·) := List.Pairwise.filter _ List.pairwise_lt_range
  refine hr.imp_of_mem ?_
  intro i j hi hj hij
  have hil : i < l.length := by simpa using (List.mem_filter.1 hi).1
  have hjl : j < l.length := by simpa using (List.mem_filter.1 hj).1
  have hk := (List.mem_filter.1 hj).2
  unfold Lib.keeps at hk
  simp only [decide_eq_true_eq] at hk
  rw [getElem!_pos l.toArray i (by simpa using hil), getElem!_pos l.toArray j (by simpa using hjl)]
  have hne : l[j] ≠ l[j - 1] := by
    rcases hk with h | h
    · omega
    · rw [getElem!_pos l.toArray j (by simpa using hjl), getElem!_pos l.toArray (j - 1) (by simp; omega)] at h
      simpa using h
  have hs' := List.pairwise_iff_getElem.1 hs
  have h1 : bl l[j] l[j - 1] = false := hs' (j - 1) j (by omega) hjl (by omega)
  have h2 : bl l[j - 1] l[j] = true := by
    rcases hc : bl l[j - 1] l[j] with _ | _
    · exact absurd (bl_total _ _ hc h1).symm hne
    · rfl
  show bl l[i] l[j] = true
  rcases Nat.eq_or_lt_of_le (show i ≤ j - 1 by omega) with e | e
  · subst e; exact h2
  · have h3 : bl l[j - 1] l[i] = false := hs' i (j - 1) hil (by omega) e
    rcases hc : bl l[i] l[j - 1] with _ | _
    · rw [bl_total _ _ hc h3]; exact h2
    · exact bl_trans _ _ _ hc h2
/-- What a list of data comes to: ascending, each once. -/
def canon (l : List (List UInt8)) : List (List UInt8) := Lib.compact (sortB l)
theorem mem_sortB {l : List (List UInt8)} {x : List UInt8} : x ∈ sortB l ↔ x ∈ l := by unfold sortB; exact List.mem_mergeSort
theorem canon_asc (l : List (List UInt8)) : Asc (canon l) := compact_asc _ (sortB_asc l)
theorem mem_canon {l : List (List UInt8)} {x : List UInt8} : x ∈ canon l ↔ x ∈ l := mem_compact.trans mem_sortB
theorem canon_snoc (l : List (List UInt8)) (d : List UInt8) : canon (l ++ [d]) = putS (canon l) d :=
  asc_ext (canon_asc _) (putS_asc (canon_asc _)) (fun x => by rw [mem_canon, mem_putS, mem_canon]; simp)
theorem canon_one (d : List UInt8) : canon [d] = [d] :=
  asc_ext (canon_asc _) (by simp [Asc]) (fun x => by rw [mem_canon])
theorem clean_canon (s : SetD) : cleanS s = { s with data := canon s.data } := rfl

/-! ### The first loop's sets, cleaned -/
theorem atTo_clean (n : List UInt8) (t c : Int) (L : List SetD) : ∀ k, k ≤ L.length → atTo (keyM n t c) (L.map cleanS) k = atTo (keyM n t c) L k
  | 0, _ => rfl
  | k + 1, h => by
    simp only [atTo]
    rw [atTo_clean n t c L k (by omega)]
    have h1 : (L.map cleanS).getD k SetD.zero = cleanS L[k] := by simp [show k < L.length by omega]
    have h2 : L.getD k SetD.zero = L[k] := by simp [show k < L.length by omega]
    rw [h1, h2]
    rfl
theorem clean_upd (t : Int) (d : List UInt8) (s : SetD) : cleanS (updP t d s) = updS t d (cleanS s) := by
  simp only [clean_canon, updP, updS, canon_snoc]
theorem map_modify (f : SetD → SetD) (g h : SetD → SetD) (hc : ∀ s, f (g s) = h (f s)) (L : List SetD) (k : Nat) : (L.modify k g).map f = (L.map f).modify k h := by
  apply List.ext_getElem?
  intro i
  simp only [List.getElem?_map, List.getElem?_modify]
  cases L[i]? with
  | none => rfl
  | some s =>
    by_cases e : k = i
    · simp [e, hc]
    · simp [e]
theorem clean_add (L : List SetD) (x : RecD) : (addP L x).map cleanS = addR (L.map cleanS) x := by
  unfold addP addR
  rw [List.length_map, atTo_clean _ _ _ L _ (Nat.le_refl _)]
  split
  · split
    · rw [List.map_append]
      simp [clean_canon, canon_one]
    · exact map_modify _ _ _ (clean_upd _ _) L _
  · rfl
theorem clean_raw (l : List RecD) : ∀ k, k ≤ l.length → (rawTo l k).map cleanS = groupTo l k
  | 0, _ => rfl
  | k + 1, h => by rw [rawTo_step l k (by omega), groupTo_step l k (by omega), clean_add, clean_raw l k (by omega)]

/-! ### The row of the sets -/
theorem rises_ext : ∀ {l m : List SetD}, RisesW l → RisesW m → l.Perm m → (∀ a ∈ l, ∀ b ∈ l, cmpK a b = 0 → a = b) → l = m
  | [], m, _, _, hp, _ => (List.nil_perm.1 hp).symm
  | a :: l, [], _, _, hp, _ => absurd hp.length_eq (by simp)
  | a :: l, b :: m, hl, hm, hp, hu => by
    have hl' := List.pairwise_cons.1 hl
    have hm' := List.pairwise_cons.1 hm
    have hb : b ∈ a :: l := hp.mem_iff.2 (by simp)
    have hab : a = b := by
      rcases List.mem_cons.1 (hp.mem_iff.1 (show a ∈ a :: l by simp)) with e | e
      · exact e
      · rcases List.mem_cons.1 hb with e' | e'
        · exact e'.symm
        · have h1 := hm'.1 a e
          have h2 := hl'.1 b e'
          have h3 := good_cmpK.anti a b
          exact hu a (by simp) b hb (by omega)
    subst hab
    rw [rises_ext hl'.2 hm'.2 (List.Perm.cons_inv hp) (fun x hx y hy => hu x (by simp [hx]) y (by simp [hy]))]
theorem minTo_min (l : List SetD) (hm : ∀ s ∈ l, may s.name = true) : ∀ i, 0 < i → i ≤ l.length → ∀ j (hj : j < i) (hjl : j < l.length) (hml : minTo l i < l.length), ¬ cmpK l[j] l[minTo l i] < 0
  | 0, h, _ => absurd h (by omega)
  | i + 1, _, hi => by
    intro j hj hjl hml
    by_cases h0 : i = 0
    · subst h0
      have e1 : minTo l 1 = 0 := rfl
      have e2 : j = 0 := by omega
      subst e2
      simp only [e1]
      rw [good_cmpK.zero]; omega
    · have ih := minTo_min l hm i (by omega) (by omega)
      have hmi := minTo_lt l i (by omega)
      have hgi : l.getD i SetD.zero = l[i] := by simp [show i < l.length by omega]
      have hgm : l.getD (minTo l i) SetD.zero = l[minTo l i] := by simp [show minTo l i < l.length by omega]
      have hu : minTo l (i + 1) = if beforeS l[i] l[minTo l i] then i else minTo l i := by
        conv => lhs; unfold minTo
        rw [if_neg h0, hgi, hgm]
      have hbk := beforeS_key (hm l[i] (List.getElem_mem _)) (hm l[minTo l i] (List.getElem_mem _))
      by_cases hb : beforeS l[i] l[minTo l i] = true
      · rw [if_pos hb] at hu
        rw [hbk, decide_eq_true_eq] at hb
        simp only [hu]
        rcases Nat.eq_or_lt_of_le (Nat.le_of_lt_succ hj) with e | e
        · subst e; rw [good_cmpK.zero]; omega
        · have h1 := ih j e hjl (by omega)
          have h2 := good_cmpK.anti l[j] l[minTo l i]
          have h3 := good_cmpK.trlt hb (show cmpK l[minTo l i] l[j] ≤ 0 by omega)
          have h4 := good_cmpK.anti l[i] l[j]
          omega
      · rw [if_neg hb] at hu
        rw [hbk, decide_eq_true_eq] at hb
        simp only [hu]
        rcases Nat.eq_or_lt_of_le (Nat.le_of_lt_succ hj) with e | e
        · subst e; exact hb
        · exact ih j e hjl (by omega)
theorem take_drop_perm {l : List SetD} {m : Nat} (h : m < l.length) : (l[m] :: (l.take m ++ l.drop (m + 1))).Perm l := by
  have h1 : (l[m] :: (l.take m ++ l.drop (m + 1))).Perm (l.take m ++ l[m] :: l.drop (m + 1)) := List.perm_middle.symm
  rw [← List.drop_eq_getElem_cons h, List.take_append_drop] at h1
  exact h1
theorem selF_spec : ∀ (n : Nat) (l : List SetD), l.length ≤ n → (∀ s ∈ l, may s.name = true) → (selF n l).Perm l ∧ RisesW (selF n l)
  | 0, l, h, _ => by
    have : l = [] := List.eq_nil_of_length_eq_zero (by omega)
    subst this; exact ⟨List.Perm.refl _, List.Pairwise.nil⟩
  | n + 1, l, h, hm => by
    unfold selF
    split
    · rename_i h0
      have : l = [] := List.eq_nil_of_length_eq_zero h0
      subst this; exact ⟨List.Perm.refl _, List.Pairwise.nil⟩
    · rename_i h0
      have hml := minTo_lt l l.length (by omega)
      have hg : l.getD (minTo l l.length) SetD.zero = l[minTo l l.length] := by simp [hml]
      have hp := take_drop_perm hml
      have hr : ∀ s ∈ l.take (minTo l l.length) ++ l.drop (minTo l l.length + 1), s ∈ l := fun s hs => by
        rcases List.mem_append.1 hs with h | h
        · exact List.mem_of_mem_take h
        · exact List.mem_of_mem_drop h
      obtain ⟨ih1, ih2⟩ := selF_spec n (l.take (minTo l l.length) ++ l.drop (minTo l l.length + 1)) (by rw [List.length_append, List.length_take, List.length_drop]; omega) (fun s hs => hm s (hr s hs))
      rw [hg]
      refine ⟨(ih1.cons _).trans hp, List.pairwise_cons.2 ⟨fun s hs => ?_, ih2⟩⟩
      have hs' := hr s (ih1.mem_iff.1 hs)
      obtain ⟨j, hj, rfl⟩ := List.getElem_of_mem hs'
      exact minTo_min l hm l.length (by omega) (Nat.le_refl _) j hj hj hml

theorem key_inj {a b : List UInt8} (ha : may a = true ∧ low a = a) (hb : may b = true ∧ low b = b) (h : keyL a = keyL b) : a = b := by
  have key : ∀ n : List UInt8, (may n = true ∧ low n = n) → n = bytesOf (keyL n).reverse := fun n hn => by
    have hm := hn.1
    unfold may at hm
    rcases hx : labelsOf n with _ | x
    · rw [hx] at hm; cases hm
    · have h1 := fold_labels hx
      have h2 : fold n = n := by unfold fold; rw [if_pos hn.1]; exact hn.2
      unfold keyL
      rw [hx, List.reverse_reverse]
      exact h2.symm.trans h1
  rw [key a ha, key b hb, h]
theorem clean_key (s : SetD) : keyT (cleanS s) = keyT s := rfl
/-- What the program's Group leaves is the document's. -/
theorem group_eq (l : List RecD) (B : Nat) (hB : ∀ r ∈ l, r.data.length ≤ B ∧ (0 ≤ r.typ ∧ r.typ ≤ 65535) ∧ (0 ≤ r.cls ∧ r.cls ≤ 65535)) (R : List SetD) (hp : R.Perm ((rawTo l l.length).map cleanS)) (hr : RisesW R) : R = groupR l := by
  have hbd := rawTo_bd l B hB l.length (Nat.le_refl _)
  have hnd := rawTo_nodup l l.length (Nat.le_refl _)
  have hcr := clean_raw l l.length (Nat.le_refl _)
  have hmg : ∀ s ∈ groupTo l l.length, (may s.name = true ∧ low s.name = s.name) := fun s hs => by
    rw [← hcr] at hs
    obtain ⟨t, ht, rfl⟩ := List.mem_map.1 hs
    exact (hbd t ht).1
  have hng : ((groupTo l l.length).map keyT).Nodup := by
    rw [← hcr, List.map_map]
    exact hnd
  rw [hcr] at hp
  obtain ⟨h1, h2⟩ := selF_spec l.length (groupTo l l.length) (groupTo_len l l.length (Nat.le_refl _)) (fun s hs => (hmg s hs).1)
  refine rises_ext hr h2 (hp.trans h1.symm) (fun a ha b hb h0 => ?_)
  have ha' := hp.mem_iff.1 ha
  have hb' := hp.mem_iff.1 hb
  have hkey : keyT a = keyT b := by
    unfold cmpK at h0
    by_cases e1 : cmpRev (keyL a.name) (keyL b.name) = 0
    · rw [if_pos e1] at h0
      by_cases e2 : cmpI a.typ b.typ = 0
      · rw [if_pos e2] at h0
        have hn : a.name = b.name := key_inj (hmg a ha') (hmg b hb') (cmpRev_zero _ _ e1)
        simp [keyT, hn, cmpI_zero e2, cmpI_zero h0]
      · rw [if_neg e2] at h0; exact absurd h0 e2
    · rw [if_neg e1] at h0; exact absurd h0 e1
  obtain ⟨i, hi, rfl⟩ := List.getElem_of_mem ha'
  obtain ⟨j, hj, rfl⟩ := List.getElem_of_mem hb'
  rcases Nat.lt_trichotomy i j with h | h | h
  · have := List.pairwise_iff_getElem.1 hng i j (by simpa using hi) (by simpa using hj) h
    simp only [List.getElem_map] at this
    exact absurd hkey this
  · subst h; rfl
  · have := List.pairwise_iff_getElem.1 hng j i (by simpa using hj) (by simpa using hi) h
    simp only [List.getElem_map] at this
    exact absurd hkey.symm this
end Go.Proofs.YtcpikbanghoflaaGreatDoor
namespace Go.Proofs.YtcpikbanghoflaaGreatDoor
set_option linter.unusedSimpArgs false
set_option linter.unusedVariables false

structure FolOk (l : List SetD) (n : List UInt8) (ty cls : Int) (R : FolR) : Prop where
  bad : R.err ≠ 0 → R.path = [] ∧ R.here = [] ∧ R.fin = []
  cn : ty = 5 → R.err = 0 ∨ R.err = 1
  fin : R.err = 0 → R.fin = (findS l R.here ty cls).toList
  stop : R.err = 0 → ty ≠ 5 → findS l R.here 5 cls = none
  plain : R.err = 0 → ty = 5 → R.path = [] ∧ R.here = fold n
def FP (l : List SetD) (ty cls : Int) (path : List SetD) (here : List UInt8) (R : FolR) : Prop :=
  (R.err ≠ 0 → R.path = [] ∧ R.here = [] ∧ R.fin = []) ∧ (ty = 5 → R = ⟨path, here, (findS l here ty cls).toList, 0⟩) ∧ (R.err = 0 → R.fin = (findS l R.here ty cls).toList) ∧ (R.err = 0 → ty ≠ 5 → findS l R.here 5 cls = none)
theorem FP.bad {l : List SetD} {ty cls : Int} {path : List SetD} {here : List UInt8} {e : Nat} (he : e ≠ 0) (h5 : ty ≠ 5) : FP l ty cls path here (FolR.bad e) :=
  ⟨fun _ => ⟨rfl, rfl, rfl⟩, fun h => absurd h h5, fun h => absurd h he, fun h => absurd h he⟩
theorem followF_ok (l : List SetD) (ty cls : Int) : ∀ (n : Nat) (here : List UInt8) (seen : List (List UInt8)) (path : List SetD), n + path.length = 9 → path.length ≤ 8 → FP l ty cls path here (followF l ty cls n here seen path)
  | 0, here, seen, path, h, h8 => absurd h (by omega)
  | n + 1, here, seen, path, h, h8 => by
    simp only [followF]
    by_cases h5 : ty = 5
    · rw [if_pos h5]
      exact ⟨fun h => absurd rfl h, fun _ => rfl, fun _ => rfl, fun _ h => absurd h5 h⟩
    · rw [if_neg h5]
      rcases hf : findS l here 5 cls with _ | a
      · exact ⟨fun h => absurd rfl h, fun h => absurd h h5, fun _ => rfl, fun _ _ => hf⟩
      · dsimp only
        by_cases hp : path.length = 8
        · rw [if_pos hp]; exact FP.bad (by omega) h5
        · rw [if_neg hp]
          rcases ht : targetS a with _ | next
          · exact FP.bad (by omega) h5
          · dsimp only
            by_cases hb : (findS l here ty cls).isSome = true
            · rw [if_pos hb]; exact FP.bad (by omega) h5
            · rw [if_neg hb]
              by_cases hc : seen.contains next = true
              · rw [if_pos hc]; exact FP.bad (by omega) h5
              · rw [if_neg hc]
                have ih := followF_ok l ty cls n next (seen ++ [next]) (path ++ [a]) (by simp; omega) (by simp; omega)
                exact ⟨ih.1, fun h => absurd h h5, ih.2.2.1, ih.2.2.2⟩
theorem follow_ok (l : List SetD) (n : List UInt8) (ty cls : Int) : FolOk l n ty cls (followOf n ty cls l) := by
  unfold followOf
  split
  · obtain ⟨h1, h2, h3, h4⟩ := followF_ok l ty cls 9 (fold n) [fold n] [] rfl (by simp)
    refine ⟨h1, fun h => .inl (by rw [h2 h]), h3, h4, fun _ h => by rw [h2 h]; exact ⟨rfl, rfl⟩⟩
  · exact ⟨fun _ => ⟨rfl, rfl, rfl⟩, fun _ => .inr rfl, (fun h => by cases h), (fun h => by cases h), (fun h => by cases h)⟩
theorem followF_here (l : List SetD) (ty cls : Int) : ∀ (n : Nat) (here : List UInt8) (seen : List (List UInt8)) (path : List SetD), here.length ≤ 255 → (followF l ty cls n here seen path).here.length ≤ 255
  | 0, _, _, _, _ => by simp [followF, FolR.bad]
  | n + 1, here, seen, path, h => by
    simp only [followF]
    split
    · exact h
    · split
      · exact h
      · split
        · simp [FolR.bad]
        · split
          · simp [FolR.bad]
          · rename_i next ht
            split
            · simp [FolR.bad]
            · split
              · simp [FolR.bad]
              · exact followF_here l ty cls n next _ _ (targetS_le _ _ ht)
theorem follow_here (n : List UInt8) (ty cls : Int) (l : List SetD) : (followOf n ty cls l).here.length ≤ 255 := by
  unfold followOf
  split
  · exact followF_here l ty cls 9 _ _ _ (fold_le n)
  · simp [FolR.bad]
end Go.Proofs.YtcpikbanghoflaaGreatDoor
namespace Go.Proofs.YtcpikbanghoflaaGreatDoor
set_option linter.unusedSimpArgs false
set_option linter.unusedVariables false

/-- The sets of a chain, one by one, from a name to where it ends. -/
def Way (l : List SetD) (cls : Int) : List UInt8 → List (List UInt8) → List SetD → List UInt8 → Prop
  | here, _, [], at_ => here = at_
  | here, seen, a :: rest, at_ => findS l here 5 cls = some a ∧ a.name = here ∧ ∃ d, a.data = [d] ∧ seen.contains d = false ∧ Way l cls d (seen ++ [d]) rest at_
theorem target_datum {s : SetD} {next : List UInt8} (h : targetS s = some next) : ∃ d, s.data = [d] ∧ may d = true ∧ next = fold d := by
  unfold targetS at h
  split at h
  · rename_i d hd
    refine ⟨d, hd, ?_⟩
    rw [rnames_name (by simp)] at h
    by_cases hm : may d = true
    · rw [if_pos hm] at h
      simp only [Option.some.injEq] at h
      exact ⟨hm, h.symm⟩
    · rw [if_neg hm] at h; simp at h
  · cases h
theorem find_same {l : List SetD} {n : List UInt8} {k c : Int} {s : SetD} (h : findS l n k c = some s) : s.typ = k ∧ s.cls = c ∧ low s.name = low n := by
  have := List.find?_some h
  unfold hitS sameN at this
  simp only [Bool.and_eq_true, beq_iff_eq] at this
  exact ⟨this.1.1, this.1.2, this.2.2⟩
theorem followF_way (l : List SetD) (ty cls : Int) (hname : ∀ s ∈ l, low s.name = s.name) (hdat : ∀ s ∈ l, s.typ = 5 → ∀ d ∈ s.data, may d = true → fold d = d) :
    ∀ (n : Nat) (here : List UInt8) (seen : List (List UInt8)) (path : List SetD), n + path.length = 9 → path.length ≤ 8 → low here = here → (followF l ty cls n here seen path).err = 0 →
      ∃ more, (followF l ty cls n here seen path).path = path ++ more ∧ path.length + more.length ≤ 8 ∧ Way l cls here seen more (followF l ty cls n here seen path).here
  | 0, here, seen, path, h, h8, _, _ => absurd h (by omega)
  | n + 1, here, seen, path, h, h8, hh, he => by
    simp only [followF] at he ⊢
    by_cases h5 : ty = 5
    · rw [if_pos h5] at he ⊢
      exact ⟨[], by simp, by simpa using h8, rfl⟩
    · rw [if_neg h5] at he ⊢
      rcases hf : findS l here 5 cls with _ | a
      · exact ⟨[], by simp, by simpa using h8, rfl⟩
      · rw [hf] at he
        dsimp only at he ⊢
        by_cases hp : path.length = 8
        · rw [if_pos hp] at he; cases he
        · rw [if_neg hp] at he ⊢
          rcases ht : targetS a with _ | next
          · rw [ht] at he; cases he
          · rw [ht] at he
            dsimp only at he ⊢
            by_cases hb : (findS l here ty cls).isSome = true
            · rw [if_pos hb] at he; cases he
            · rw [if_neg hb] at he ⊢
              by_cases hc : seen.contains next = true
              · rw [if_pos hc] at he; cases he
              · rw [if_neg hc] at he ⊢
                have hfs := find_same hf
                have ham := findS_mem hf
                obtain ⟨d, hd1, hd2, hd3⟩ := target_datum ht
                have hdf : fold d = d := hdat a ham hfs.1 d (by rw [hd1]; simp) hd2
                rw [hdf] at hd3
                subst hd3
                have hlow : low next = next := by
                  have : fold next = low next := by unfold fold; rw [if_pos hd2]
                  rw [← this]; exact hdf
                obtain ⟨more, h1, h2, h3⟩ := followF_way l ty cls hname hdat n next (seen ++ [next]) (path ++ [a]) (by simp; omega) (by simp; omega) hlow he
                refine ⟨a :: more, by rw [h1]; simp, by simp at h2 ⊢; omega, hf, ?_, next, hd1, by simpa using hc, h3⟩
                rw [← hname a ham, hfs.2.2, hh]
end Go.Proofs.YtcpikbanghoflaaGreatDoor
namespace Go.Proofs.YtcpikbanghoflaaGreatDoor
set_option linter.unusedSimpArgs false
set_option linter.unusedVariables false

theorem group_names {l : List RecD} (hB : ∀ r ∈ l, (0 ≤ r.typ ∧ r.typ ≤ 65535) ∧ (0 ≤ r.cls ∧ r.cls ≤ 65535)) : ∀ s ∈ groupR l, may s.name = true ∧ low s.name = s.name := by
  intro s hs
  have hm := selF_mem _ _ _ hs
  rw [← clean_raw l l.length (Nat.le_refl _)] at hm
  obtain ⟨t, ht, rfl⟩ := List.mem_map.1 hm
  obtain ⟨B, hBB⟩ : ∃ B, ∀ r ∈ l, r.data.length ≤ B := by
    clear hs hm ht hB
    induction l with
    | nil => exact ⟨0, by simp⟩
    | cons a l ih =>
      obtain ⟨B, hB⟩ := ih
      exact ⟨max B a.data.length, fun r hr => by
        rcases List.mem_cons.1 hr with rfl | h
        · omega
        · have := hB r h; omega⟩
  exact (rawTo_bd l B (fun r hr => ⟨hBB r hr, hB r hr⟩) l.length (Nat.le_refl _) t ht).1
theorem groupTo_src (l : List RecD) : ∀ k, k ≤ l.length → ∀ s ∈ groupTo l k, ∀ d ∈ s.data, ∃ y, rmay s.typ y = true ∧ d = rfold s.typ y
  | 0, _ => by simp [groupTo]
  | k + 1, h => by
    rw [groupTo_step l k (by omega)]
    have ih := groupTo_src l k (by omega)
    intro s hs d hd
    unfold addR at hs
    split at hs
    · rename_i hok
      have hrm : rmay l[k].typ l[k].data = true := by unfold okRec at hok; simp only [Bool.and_eq_true] at hok; exact hok.2
      split at hs
      · rcases List.mem_append.1 hs with h1 | h1
        · exact ih s h1 d hd
        · rw [List.mem_singleton] at h1; subst h1
          simp only [List.mem_singleton] at hd
          exact ⟨l[k].data, hrm, hd⟩
      · rename_i hge
        obtain ⟨t, ht, hkt⟩ := atTo_ge _ (Nat.le_refl _) (show 0 ≤ atTo (keyM (fold l[k].name) l[k].typ l[k].cls) (groupTo l k) (groupTo l k).length by omega)
        obtain ⟨i, hi, rfl⟩ := List.getElem_of_mem hs
        rw [List.getElem_modify] at hd ⊢
        rw [List.length_modify] at hi
        split at hd
        · rename_i e
          rw [if_pos e] at *
          have hti : t = (groupTo l k)[i] := by
            rw [e, List.getElem?_eq_getElem hi] at ht
            injection ht with ht; exact ht.symm
          have hty : (groupTo l k)[i].typ = l[k].typ := by
            rw [keyM_iff] at hkt
            rw [← hti]
            simp only [keyT, Prod.mk.injEq] at hkt
            exact hkt.2.1
          rcases putS_mem hd with h2 | h2
          · exact ih _ (List.getElem_mem hi) d h2
          · exact ⟨l[k].data, by show rmay (groupTo l k)[i].typ _ = true; rw [hty]; exact hrm, by show d = rfold (groupTo l k)[i].typ _; rw [hty]; exact h2⟩
        · rename_i e
          rw [if_neg e]
          exact ih _ (List.getElem_mem hi) d hd
    · exact ih s hs d hd
theorem rfold_name {k : Int} (hk : k = 2 ∨ k = 5 ∨ k = 12) {y : List UInt8} (h : rmay k y = true) : may y = true ∧ rfold k y = fold y := by
  unfold rmay at h
  rw [wholeOf_name hk] at h
  by_cases hm : may y = true
  · refine ⟨hm, ?_⟩
    unfold rfold partsOf
    rw [wholeOf_name hk, if_pos hm]
    simp
  · rw [if_neg hm] at h; cases h
theorem fold_of_may {n : List UInt8} (h : may n = true) : fold n = low n := by
  unfold fold
  rw [if_pos h]
theorem group_data {l : List RecD} : ∀ s ∈ groupR l, s.typ = 5 → ∀ d ∈ s.data, may d = true → fold d = d := by
  intro s hs ht d hd _
  obtain ⟨y, h1, h2⟩ := groupTo_src l l.length (Nat.le_refl _) s (selF_mem _ _ _ hs) d hd
  rw [ht] at h1 h2
  obtain ⟨hm, hr⟩ := rfold_name (by simp) h1
  rw [h2, hr]
  have hf := fold_may hm
  exact (fold_of_may hf.1).trans hf.2
theorem follow_way (n : List UInt8) (ty cls : Int) (l : List RecD) (hB : ∀ r ∈ l, (0 ≤ r.typ ∧ r.typ ≤ 65535) ∧ (0 ≤ r.cls ∧ r.cls ≤ 65535)) (h : (followOf n ty cls (groupR l)).err = 0) :
    (followOf n ty cls (groupR l)).path.length ≤ 8 ∧ Way (groupR l) cls (fold n) [fold n] (followOf n ty cls (groupR l)).path (followOf n ty cls (groupR l)).here := by
  unfold followOf at *
  by_cases hm : may n = true
  · rw [if_pos hm] at *
    obtain ⟨more, h1, h2, h3⟩ := followF_way (groupR l) ty cls (fun s hs => (group_names hB s hs).2) group_data 9 (fold n) [fold n] [] rfl (by simp) (fold_may hm).2 h
    rw [List.nil_append] at h1
    rw [h1]
    exact ⟨by simpa using h2, h3⟩
  · rw [if_neg hm] at h; cases h
end Go.Proofs.YtcpikbanghoflaaGreatDoor
namespace Go.Proofs.YtcpikbanghoflaaGreatDoor
set_option linter.unusedSimpArgs false
set_option linter.unusedVariables false

abbrev KeyD := List UInt8 × Int × Int
def recK (x : RecD) : KeyD := (fold x.name, x.typ, x.cls)
/-- The records of a key. -/
def ofK (l : List RecD) (K : KeyD) : List RecD := l.filter fun x => okRec x && decide (recK x = K)
def minT (l : List RecD) : Int := l.foldl (fun m x => min m (timeT x.ttl)) 2147483647
def datT (l : List RecD) : List (List UInt8) := canon (l.map fun x => rfold x.typ x.data)
def setK (l : List RecD) (K : KeyD) : SetD := ⟨K.1, K.2.1, K.2.2, minT (ofK l K), datT (ofK l K)⟩

theorem timeT_le (t : Int) : timeT t ≤ 2147483647 := by unfold timeT; split <;> omega
theorem mem_ofK {l : List RecD} {K : KeyD} {x : RecD} : x ∈ ofK l K ↔ x ∈ l ∧ okRec x = true ∧ recK x = K := by
  unfold ofK; simp [List.mem_filter, and_assoc]
theorem ofK_snoc_in {l : List RecD} {x : RecD} {K : KeyD} (h1 : okRec x = true) (h2 : recK x = K) : ofK (l ++ [x]) K = ofK l K ++ [x] := by
  unfold ofK; rw [List.filter_append]; simp [List.filter_cons, h1, h2]
theorem ofK_snoc_out {l : List RecD} {x : RecD} {K : KeyD} (h : okRec x = false ∨ recK x ≠ K) : ofK (l ++ [x]) K = ofK l K := by
  unfold ofK; rw [List.filter_append]
  rcases h with h | h <;> simp [List.filter_cons, h]
theorem minT_snoc (l : List RecD) (x : RecD) : minT (l ++ [x]) = min (minT l) (timeT x.ttl) := by unfold minT; rw [List.foldl_append]; rfl
theorem datT_snoc (l : List RecD) (x : RecD) : datT (l ++ [x]) = putS (datT l) (rfold x.typ x.data) := by
  unfold datT; rw [List.map_append]; exact canon_snoc _ _

structure CharG (L : List SetD) (P : List RecD) : Prop where
  has : ∀ s ∈ L, ofK P (keyT s) ≠ [] ∧ s = setK P (keyT s)
  all : ∀ K, ofK P K ≠ [] → ∃ s ∈ L, keyT s = K
  nodup : (L.map keyT).Nodup

theorem setK_out {P : List RecD} {x : RecD} {K : KeyD} (h : okRec x = false ∨ recK x ≠ K) : setK (P ++ [x]) K = setK P K := by
  unfold setK; rw [ofK_snoc_out h]
theorem CharG.skip {L : List SetD} {P : List RecD} (h : CharG L P) {x : RecD} (hx : okRec x = false) : CharG L (P ++ [x]) where
  has s hs := by rw [ofK_snoc_out (.inl hx), setK_out (.inl hx)]; exact h.has s hs
  all K hK := by rw [ofK_snoc_out (.inl hx)] at hK; exact h.all K hK
  nodup := h.nodup
theorem CharG.add {L : List SetD} {P : List RecD} (h : CharG L P) (x : RecD) : CharG (addR L x) (P ++ [x]) := by
  unfold addR
  by_cases hx : okRec x = true
  · rw [if_pos hx]
    have hneg : ∀ K, recK x ≠ K → ofK (P ++ [x]) K = ofK P K := fun K e => ofK_snoc_out (.inr e)
    by_cases ha : atTo (keyM (fold x.name) x.typ x.cls) L L.length < 0
    · rw [if_pos ha]
      have hno : ∀ s ∈ L, keyT s ≠ recK x := fun s hs e => by
        obtain ⟨i, hi, rfl⟩ := List.getElem_of_mem hs
        have := atTo_neg L.length (Nat.le_refl _) ha i hi hi
        rw [keyM_iff.2 e] at this; cases this
      have h0 : ofK P (recK x) = [] := by
        by_cases e : ofK P (recK x) = []
        · exact e
        · obtain ⟨s, hs, hk⟩ := h.all _ e; exact absurd hk (hno s hs)
      have hset : setK (P ++ [x]) (recK x) = ⟨fold x.name, x.typ, x.cls, timeT x.ttl, [rfold x.typ x.data]⟩ := by
        unfold setK
        rw [ofK_snoc_in hx rfl, h0, List.nil_append]
        have := timeT_le x.ttl
        have e1 : minT [x] = timeT x.ttl := by unfold minT; simp only [List.foldl_cons, List.foldl_nil]; omega
        have e2 : datT [x] = [rfold x.typ x.data] := canon_one _
        rw [e1, e2]; rfl
      constructor
      · intro s hs
        rcases List.mem_append.1 hs with h1 | h1
        · have hne := hno s h1
          rw [hneg _ (Ne.symm hne), setK_out (.inr (Ne.symm hne))]
          exact h.has s h1
        · rw [List.mem_singleton] at h1
          have hk : keyT s = recK x := by rw [h1]; rfl
          rw [hk, ofK_snoc_in hx rfl]
          exact ⟨by simp, by rw [hset]; exact h1⟩
      · intro K hK
        by_cases e : recK x = K
        · exact ⟨⟨fold x.name, x.typ, x.cls, timeT x.ttl, [rfold x.typ x.data]⟩, by simp, e⟩
        · rw [hneg K e] at hK
          obtain ⟨s, hs, hk⟩ := h.all K hK
          exact ⟨s, by simp [hs], hk⟩
      · rw [List.map_append, List.nodup_append]
        refine ⟨h.nodup, by simp, fun a ha b hb => ?_⟩
        obtain ⟨s, hs, rfl⟩ := List.mem_map.1 ha
        simp only [List.map_cons, List.map_nil, List.mem_singleton] at hb
        subst hb
        exact hno s hs
    · rw [if_neg ha]
      obtain ⟨t, ht, hkt⟩ := atTo_ge _ (Nat.le_refl _) (show 0 ≤ atTo (keyM (fold x.name) x.typ x.cls) L L.length by omega)
      generalize (atTo (keyM (fold x.name) x.typ x.cls) L L.length).toNat = i at *
      have hi : i < L.length := (List.getElem?_eq_some_iff.1 ht).1
      have hti : L[i] = t := (List.getElem?_eq_some_iff.1 ht).2
      have hk : keyT t = recK x := keyM_iff.1 hkt
      have htm : t ∈ L := hti ▸ List.getElem_mem hi
      have hup : updS (timeT x.ttl) (rfold x.typ x.data) t = setK (P ++ [x]) (recK x) := by
        have := (h.has t htm).2
        rw [hk] at this
        rw [this]
        unfold setK updS
        rw [ofK_snoc_in hx rfl, minT_snoc, datT_snoc]
      have hkm : (L.modify i (updS (timeT x.ttl) (rfold x.typ x.data))).map keyT = L.map keyT := by
        apply List.ext_getElem?
        intro j
        rw [List.getElem?_map, List.getElem?_map, List.getElem?_modify]
        by_cases e : i = j
        · subst e; rw [ht]; simp [updS, keyT]
        · simp [e]
      constructor
      · intro s hs
        obtain ⟨j, hj, rfl⟩ := List.getElem_of_mem hs
        rw [List.length_modify] at hj
        rw [List.getElem_modify]
        by_cases e : i = j
        · subst e
          rw [if_pos rfl, hti]
          have hk2 : keyT (updS (timeT x.ttl) (rfold x.typ x.data) t) = recK x := hk
          rw [hk2]
          exact ⟨by rw [ofK_snoc_in hx rfl]; simp, hup⟩
        · rw [if_neg e]
          have hne : recK x ≠ keyT L[j] := fun e2 => by
            rw [← hk, ← hti] at e2
            have h1 := List.getElem_map keyT (l := L) (i := i) (h := by simpa using hi)
            have h2 := List.getElem_map keyT (l := L) (i := j) (h := by simpa using hj)
            exact e ((List.getElem_inj h.nodup).1 (by rw [h1, h2]; exact e2))
          rw [hneg _ hne, setK_out (.inr hne)]
          exact h.has _ (List.getElem_mem hj)
      · intro K hK
        have : K ∈ (L.modify i (updS (timeT x.ttl) (rfold x.typ x.data))).map keyT := by
          rw [hkm]
          by_cases e : recK x = K
          · rw [← e, ← hk]; exact List.mem_map_of_mem htm
          · rw [hneg K e] at hK
            obtain ⟨s, hs, hk⟩ := h.all K hK
            rw [← hk]; exact List.mem_map_of_mem hs
        obtain ⟨s, hs, e⟩ := List.mem_map.1 this
        exact ⟨s, hs, e⟩
      · rw [hkm]; exact h.nodup
  · rw [if_neg hx]
    exact h.skip (by simpa using hx)
theorem char_to (l : List RecD) : ∀ k, k ≤ l.length → CharG (groupTo l k) (l.take k)
  | 0, _ => ⟨by simp [groupTo], by simp [ofK], by simp [groupTo]⟩
  | k + 1, h => by rw [groupTo_step l k (by omega), take_snoc l k (by omega)]; exact (char_to l k (by omega)).add _

/-! ### Rising rows -/
def RiseS (l : List SetD) : Prop := l.Pairwise fun a b => cmpK a b < 0
theorem rise_ext : ∀ {l m : List SetD}, RiseS l → RiseS m → (∀ x, x ∈ l ↔ x ∈ m) → l = m
  | [], [], _, _, _ => rfl
  | [], b :: m, _, _, h => absurd ((h b).2 (by simp)) (by simp)
  | a :: l, [], _, _, h => absurd ((h a).1 (by simp)) (by simp)
  | a :: l, b :: m, hl, hm, h => by
    have hl' := List.pairwise_cons.1 hl
    have hm' := List.pairwise_cons.1 hm
    have hab : a = b := by
      rcases List.mem_cons.1 ((h a).1 (by simp)) with e | e
      · exact e
      · rcases List.mem_cons.1 ((h b).2 (by simp)) with e' | e'
        · exact e'.symm
        · have h1 := hm'.1 a e
          have h2 := hl'.1 b e'
          have h3 := good_cmpK.anti a b
          omega
    subst hab
    have hirr : ∀ x, cmpK x x = 0 := good_cmpK.zero
    rw [rise_ext hl'.2 hm'.2 (fun x => ?_)]
    constructor
    · intro hx
      rcases List.mem_cons.1 ((h x).1 (by simp [hx])) with e | e
      · subst e; have := hl'.1 x hx; rw [hirr] at this; omega
      · exact e
    · intro hx
      rcases List.mem_cons.1 ((h x).2 (by simp [hx])) with e | e
      · subst e; have := hm'.1 x hx; rw [hirr] at this; omega
      · exact e
theorem keyT_of_zero {a b : SetD} (ha : may a.name = true ∧ low a.name = a.name) (hb : may b.name = true ∧ low b.name = b.name) (h0 : cmpK a b = 0) : keyT a = keyT b := by
  unfold cmpK at h0
  by_cases e1 : cmpRev (keyL a.name) (keyL b.name) = 0
  · rw [if_pos e1] at h0
    by_cases e2 : cmpI a.typ b.typ = 0
    · rw [if_pos e2] at h0
      have hn : a.name = b.name := key_inj ha hb (cmpRev_zero _ _ e1)
      simp [keyT, hn, cmpI_zero e2, cmpI_zero h0]
    · rw [if_neg e2] at h0; exact absurd h0 e2
  · rw [if_neg e1] at h0; exact absurd h0 e1
theorem char_names {L : List SetD} {P : List RecD} (h : CharG L P) : ∀ s ∈ L, may s.name = true ∧ low s.name = s.name := fun s hs => by
  obtain ⟨h1, _⟩ := h.has s hs
  obtain ⟨x, hx⟩ := List.exists_mem_of_ne_nil _ h1
  obtain ⟨_, hok, hk⟩ := mem_ofK.1 hx
  have hm : may x.name = true := by unfold okRec at hok; simp only [Bool.and_eq_true] at hok; exact hok.1
  have e : s.name = fold x.name := (congrArg Prod.fst hk).symm
  rw [e]
  exact fold_may hm
theorem group_perm (l : List RecD) : (groupR l).Perm (groupTo l l.length) ∧ RisesW (groupR l) :=
  selF_spec l.length (groupTo l l.length) (groupTo_len l l.length (Nat.le_refl _)) (fun s hs => (char_names (char_to l l.length (Nat.le_refl _)) s hs).1)
/-- What Group's sets are. -/
theorem group_mem (l : List RecD) (s : SetD) : s ∈ groupR l ↔ ofK l (keyT s) ≠ [] ∧ s = setK l (keyT s) := by
  have hc := char_to l l.length (Nat.le_refl _)
  rw [List.take_length] at hc
  rw [(group_perm l).1.mem_iff]
  constructor
  · exact hc.has s
  · rintro ⟨h1, h2⟩
    obtain ⟨t, ht, hk⟩ := hc.all _ h1
    have := (hc.has t ht).2
    rw [hk, ← h2] at this
    exact this ▸ ht
theorem group_name {l : List RecD} {s : SetD} (hs : s ∈ groupR l) : may s.name = true ∧ low s.name = s.name := by
  have hc := char_to l l.length (Nat.le_refl _)
  exact char_names hc s ((group_perm l).1.mem_iff.1 hs)
theorem group_rise (l : List RecD) : RiseS (groupR l) := by
  have hc := char_to l l.length (Nat.le_refl _)
  have hn : ((groupR l).map keyT).Nodup := ((group_perm l).1.map keyT).nodup_iff.2 hc.nodup
  have hr := (group_perm l).2
  unfold RiseS
  unfold RisesW at hr
  rw [List.pairwise_iff_getElem] at hr ⊢
  intro i j hi hj hij
  have h1 := hr i j hi hj hij
  have h2 := good_cmpK.anti (groupR l)[i] (groupR l)[j]
  rcases Int.lt_or_le (cmpK (groupR l)[i] (groupR l)[j]) 0 with h | h
  · exact h
  · have h0 : cmpK (groupR l)[i] (groupR l)[j] = 0 := by omega
    have hk := keyT_of_zero (group_name (List.getElem_mem hi)) (group_name (List.getElem_mem hj)) h0
    have := List.pairwise_iff_getElem.1 hn i j (by simpa using hi) (by simpa using hj) hij
    simp only [List.getElem_map] at this
    exact absurd hk this
/-- The same records of each key make the same sets. -/
theorem group_congr {l m : List RecD} (h : ∀ K, (ofK l K ≠ [] ↔ ofK m K ≠ []) ∧ (ofK l K ≠ [] → setK l K = setK m K)) : groupR l = groupR m := by
  refine rise_ext (group_rise l) (group_rise m) (fun s => ?_)
  rw [group_mem, group_mem]
  constructor
  · rintro ⟨h1, h2⟩; exact ⟨(h _).1.1 h1, h2.trans ((h _).2 h1)⟩
  · rintro ⟨h1, h2⟩; have h3 := (h _).1.2 h1; exact ⟨h3, h2.trans ((h _).2 h3).symm⟩
/-! ### minT and datT hang on the members alone -/
theorem minT_le (l : List RecD) : minT l ≤ 2147483647 ∧ ∀ x ∈ l, minT l ≤ timeT x.ttl := by
  have key : ∀ (l : List RecD) (m : Int), l.foldl (fun m x => min m (timeT x.ttl)) m ≤ m ∧ ∀ x ∈ l, l.foldl (fun m x => min m (timeT x.ttl)) m ≤ timeT x.ttl := by
    intro l
    induction l with
    | nil => intro m; simp
    | cons a l ih =>
      intro m
      rw [List.foldl_cons]
      obtain ⟨h1, h2⟩ := ih (min m (timeT a.ttl))
      refine ⟨by omega, fun x hx => ?_⟩
      rcases List.mem_cons.1 hx with rfl | hx
      · omega
      · exact h2 x hx
  exact key l _
theorem minT_in (l : List RecD) : minT l = 2147483647 ∨ ∃ x ∈ l, minT l = timeT x.ttl := by
  have key : ∀ (l : List RecD) (m : Int), l.foldl (fun m x => min m (timeT x.ttl)) m = m ∨ ∃ x ∈ l, l.foldl (fun m x => min m (timeT x.ttl)) m = timeT x.ttl := by
    intro l
    induction l with
    | nil => intro m; simp
    | cons a l ih =>
      intro m
      rw [List.foldl_cons]
      rcases ih (min m (timeT a.ttl)) with h | ⟨x, hx, h⟩
      · rw [h]
        by_cases e : m ≤ timeT a.ttl
        · left; omega
        · right; exact ⟨a, by simp, by omega⟩
      · right; exact ⟨x, by simp [hx], h⟩
  exact key l _
theorem minT_mem {l m : List RecD} (h : ∀ x, x ∈ l ↔ x ∈ m) : minT l = minT m := by
  have a := minT_le l
  have b := minT_le m
  rcases minT_in l with h1 | ⟨x, hx, h1⟩
  · rcases minT_in m with h2 | ⟨y, hy, h2⟩
    · omega
    · have := a.2 y ((h y).2 hy); omega
  · have h3 := b.2 x ((h x).1 hx)
    rcases minT_in m with h2 | ⟨y, hy, h2⟩
    · omega
    · have := a.2 y ((h y).2 hy); omega
theorem canon_mem {l m : List (List UInt8)} (h : ∀ x, x ∈ l ↔ x ∈ m) : canon l = canon m :=
  asc_ext (canon_asc l) (canon_asc m) (fun x => by rw [mem_canon, mem_canon]; exact h x)
theorem datT_mem {l m : List RecD} (h : ∀ x, x ∈ l ↔ x ∈ m) : datT l = datT m :=
  canon_mem fun d => by
    simp only [List.mem_map]
    constructor
    · rintro ⟨x, hx, rfl⟩; exact ⟨x, (h x).1 hx, rfl⟩
    · rintro ⟨x, hx, rfl⟩; exact ⟨x, (h x).2 hx, rfl⟩
theorem ofK_mem {l m : List RecD} (h : ∀ x, x ∈ l ↔ x ∈ m) (K : KeyD) : ∀ x, x ∈ ofK l K ↔ x ∈ ofK m K := fun x => by rw [mem_ofK, mem_ofK, h x]
theorem ne_nil_mem {l m : List RecD} (h : ∀ x, x ∈ l ↔ x ∈ m) (hl : l ≠ []) : m ≠ [] := by
  obtain ⟨x, hx⟩ := List.exists_mem_of_ne_nil _ hl
  intro e; rw [e] at h; exact absurd ((h x).1 hx) (by simp)
theorem setK_mem {l m : List RecD} (h : ∀ x, x ∈ l ↔ x ∈ m) (K : KeyD) : setK l K = setK m K := by
  unfold setK; rw [minT_mem (ofK_mem h K), datT_mem (ofK_mem h K)]
/-- THE STAGE'S THEOREM, plain: the same records, in whatever row and however often, make the same sets. -/
theorem group_set {l m : List RecD} (h : ∀ x, x ∈ l ↔ x ∈ m) : groupR l = groupR m :=
  group_congr fun K => ⟨⟨ne_nil_mem (ofK_mem h K), ne_nil_mem (fun x => (ofK_mem h K x).symm)⟩, fun _ => setK_mem h K⟩
/-! ### Find among Group's sets -/
theorem hitS_iff {n : List UInt8} {k c : Int} {s : SetD} (hs : may s.name = true ∧ low s.name = s.name) (hn : may n = true) : hitS n k c s = true ↔ keyT s = (low n, k, c) := by
  unfold hitS sameN
  simp only [hs.1, hs.2, hn, keyT, Bool.and_eq_true, beq_iff_eq, Prod.mk.injEq, Bool.true_and]
  constructor
  · rintro ⟨⟨h1, h2⟩, h3⟩; exact ⟨h3, h1, h2⟩
  · rintro ⟨h3, h1, h2⟩; exact ⟨⟨h1, h2⟩, h3⟩
theorem find_group (l : List RecD) (n : List UInt8) (k c : Int) (hn : may n = true) :
    findS (groupR l) n k c = if ofK l (low n, k, c) = [] then none else some (setK l (low n, k, c)) := by
  by_cases h : ofK l (low n, k, c) = []
  · rw [if_pos h]
    unfold findS
    rw [List.find?_eq_none]
    intro s hs e
    rw [hitS_iff (group_name hs) hn] at e
    have := ((group_mem l s).1 hs).1
    rw [e] at this; exact this h
  · rw [if_neg h]
    rcases hf : findS (groupR l) n k c with _ | s
    · unfold findS at hf
      rw [List.find?_eq_none] at hf
      have hm : setK l (low n, k, c) ∈ groupR l := (group_mem l _).2 ⟨h, rfl⟩
      exact absurd ((hitS_iff (group_name hm) hn).2 rfl) (hf _ hm)
    · have hm := findS_mem hf
      have hh : hitS n k c s = true := List.find?_some hf
      have e := (hitS_iff (group_name hm) hn).1 hh
      have := ((group_mem l s).1 hm).2
      rw [e] at this
      rw [this]
theorem find_bad (l : List SetD) (n : List UInt8) (k c : Int) (hn : may n = false) : findS l n k c = none := by
  unfold findS
  rw [List.find?_eq_none]
  intro s _ e
  unfold hitS sameN at e
  rw [hn] at e
  simp at e
end Go.Proofs.YtcpikbanghoflaaGreatDoor
namespace Go.Proofs.YtcpikbanghoflaaGreatDoor
set_option linter.unusedSimpArgs false
set_option linter.unusedVariables false
set_option maxRecDepth 100000

/-- The parts of whole data, said without places. -/
inductive Gr : List Chk → List UInt8 → List (List UInt8 × Bool) → Prop
  | nil : Gr [] [] []
  | num {n : Nat} {cs : List Chk} {a r : List UInt8} {ps : List (List UInt8 × Bool)} (ha : a.length = n) (h : Gr cs r ps) : Gr (⟨0, n⟩ :: cs) (a ++ r) ((a, false) :: ps)
  | name {n : Nat} {cs : List Chk} {a r : List UInt8} {ps : List (List UInt8 × Bool)} (ha : may a = true) (h : Gr cs r ps) : Gr (⟨1, n⟩ :: cs) (a ++ r) ((a, true) :: ps)
  | texts {n : Nat} {a : List UInt8} (ha : textsOk a = true) : Gr [⟨2, n⟩] a [(a, false)]
  | rest {n : Nat} {a : List UInt8} : Gr [⟨3, n⟩] a [(a, false)]

def bare (p : Pc) : List UInt8 × Bool := (p.text, p.nm)
def GoodC (cs : List Chk) : Prop := ∀ i (hi : i < cs.length), cs[i].kind = 0 ∨ cs[i].kind = 1 ∨ ((cs[i].kind = 2 ∨ cs[i].kind = 3) ∧ i + 1 = cs.length)
theorem GoodC.tail {c : Chk} {cs : List Chk} (h : GoodC (c :: cs)) : GoodC cs := fun i hi => by
  have := h (i + 1) (by simp; omega)
  simp only [List.getElem_cons_succ, List.length_cons] at this
  omega

/-- Whole data reads by the rows of its parts. -/
theorem gr_of_split (msg : List UInt8) : ∀ (cs : List Chk) (pos : Nat), GoodC cs → pos ≤ msg.length → (splitL cs msg pos).2 = 0 → textOf (splitL cs msg pos).1 = msg.drop pos → Gr cs (msg.drop pos) ((splitL cs msg pos).1.map bare)
  | [], pos, _, hp, h, ht => by
    simp only [splitL] at h ht ⊢
    by_cases hlt : pos < msg.length
    · rw [if_pos hlt] at h; simp at h
    · rw [if_neg hlt, List.drop_of_length_le (by omega)]; exact Gr.nil
  | c :: cs, pos, hg, hp, h, ht => by
    obtain ⟨k, n⟩ := c
    by_cases h1 : (runChk ⟨k, n⟩ msg pos).2 = 0
    · by_cases h2 : (splitL cs msg (runChk ⟨k, n⟩ msg pos).1.next).2 = 0
      · rw [splitL_cons_ok h1 h2] at ht ⊢
        have hbd := (runChk_bd ⟨k, n⟩ msg pos hp h1).1
        simp only [textOf, List.flatMap_cons] at ht
        have g0 := hg 0 (by simp)
        simp only [List.getElem_cons_zero, List.length_cons, Nat.zero_add] at g0
        rcases g0 with rfl | rfl | ⟨g0, g1⟩
        · -- a number
          by_cases hs : msg.length - pos < n
          · simp [runChk, hs] at h1
          · have hr : runChk ⟨0, n⟩ msg pos = (⟨(msg.drop pos).take n, false, pos + n⟩, 0) := by simp [runChk, hs]
            rw [hr] at ht h2 hbd ⊢
            dsimp only at ht h2 hbd ⊢
            have e : msg.drop pos = (msg.drop pos).take n ++ msg.drop (pos + n) := by rw [← List.drop_drop, List.take_append_drop]
            have ht2 : textOf (splitL cs msg (pos + n)).1 = msg.drop (pos + n) := by
              rw [e] at ht
              have : ((msg.drop pos).take n ++ msg.drop (pos + n)).take n = (msg.drop pos).take n := by rw [← e]
              rw [this] at ht
              exact List.append_cancel_left ht
            have ih := gr_of_split msg cs (pos + n) hg.tail hbd h2 ht2
            conv => enter [2]; rw [e]
            exact Gr.num (by rw [List.length_take, List.length_drop]; omega) ih
        · -- a name
          by_cases hs : (readN msg pos).2.2 = 0
          · have hr : runChk ⟨1, n⟩ msg pos = (⟨(readN msg pos).1, true, (readN msg pos).2.1⟩, 0) := by simp [runChk, hs]
            have hv := readN_valid hs
            rw [hr] at ht h2 hbd ⊢
            dsimp only at ht h2 hbd ⊢
            have hpre : (msg.drop pos).take (readN msg pos).1.length = (readN msg pos).1 := by rw [← ht]; simp
            have hpl := readN_plain hpre hv
            have hnx : (readN msg pos).2.1 = pos + (readN msg pos).1.length := by
              have := congrArg (fun x => x.2.1) hpl; exact this
            rw [hnx] at h2 ht hbd ⊢
            generalize (readN msg pos).1 = a at *
            have e : msg.drop pos = a ++ msg.drop (pos + a.length) := by
              conv => lhs; rw [← List.take_append_drop a.length (msg.drop pos), hpre, List.drop_drop]
            have ht2 : textOf (splitL cs msg (pos + a.length)).1 = msg.drop (pos + a.length) := by
              rw [e] at ht; exact List.append_cancel_left ht
            have ih := gr_of_split msg cs (pos + a.length) hg.tail hbd h2 ht2
            conv => enter [2]; rw [e]
            exact Gr.name hv ih
          · simp [runChk, hs] at h1
        · have hcs : cs = [] := List.eq_nil_of_length_eq_zero (by omega)
          subst hcs
          rcases g0 with rfl | rfl
          · by_cases hs : textsOk (msg.drop pos) = true
            · have hr : runChk ⟨2, n⟩ msg pos = (⟨msg.drop pos, false, msg.length⟩, 0) := by simp [runChk, hs]
              rw [hr]
              simp only [splitL, Nat.lt_irrefl, if_false, List.map_cons, List.map_nil, bare]
              exact Gr.texts hs
            · simp [runChk, hs] at h1
          · have hr : runChk ⟨3, n⟩ msg pos = (⟨msg.drop pos, false, msg.length⟩, 0) := by simp [runChk]
            rw [hr]
            simp only [splitL, Nat.lt_irrefl, if_false, List.map_cons, List.map_nil, bare]
            exact Gr.rest
      · rw [splitL_cons_bad2 h1 h2] at h; exact absurd h h2
    · rw [splitL_cons_bad h1] at h; exact absurd h h1
/-- And what has such rows is whole. -/
theorem split_of_gr : ∀ {cs : List Chk} {d : List UInt8} {ps : List (List UInt8 × Bool)}, Gr cs d ps → ∀ (pre : List UInt8), (splitL cs (pre ++ d) pre.length).2 = 0 ∧ (splitL cs (pre ++ d) pre.length).1.map bare = ps
  | _, _, _, .nil, pre => by simp [splitL]
  | _, _, _, .num (n := n) (cs := cs) (a := a) (r := r) ha h, pre => by
    have ih := split_of_gr h (pre ++ a)
    rw [List.append_assoc, List.length_append] at ih
    have hr : runChk ⟨0, n⟩ (pre ++ (a ++ r)) pre.length = (⟨a, false, pre.length + n⟩, 0) := by
      have h1 : ¬ (pre ++ (a ++ r)).length - pre.length < n := by simp; omega
      have h2 : ((pre ++ (a ++ r)).drop pre.length).take n = a := by rw [List.drop_left, ← ha, List.take_left]
      simp only [runChk, if_neg h1, h2]
    rw [ha] at ih
    have h2 : (splitL cs (pre ++ (a ++ r)) (runChk ⟨0, n⟩ (pre ++ (a ++ r)) pre.length).1.next).2 = 0 := by rw [hr]; exact ih.1
    rw [splitL_cons_ok (by rw [hr]) h2, hr]
    exact ⟨rfl, by simp only [List.map_cons]; rw [ih.2]; rfl⟩
  | _, _, _, .name (n := n) (cs := cs) (a := a) (r := r) ha h, pre => by
    have ih := split_of_gr h (pre ++ a)
    rw [List.append_assoc, List.length_append] at ih
    have hp := readN_plain (msg := pre ++ (a ++ r)) (n := a) (p := pre.length) (by rw [List.drop_left, List.take_left]) ha
    have hr : runChk ⟨1, n⟩ (pre ++ (a ++ r)) pre.length = (⟨a, true, pre.length + a.length⟩, 0) := by simp [runChk, hp]
    have h2 : (splitL cs (pre ++ (a ++ r)) (runChk ⟨1, n⟩ (pre ++ (a ++ r)) pre.length).1.next).2 = 0 := by rw [hr]; exact ih.1
    rw [splitL_cons_ok (by rw [hr]) h2, hr]
    exact ⟨rfl, by simp only [List.map_cons]; rw [ih.2]; rfl⟩
  | _, _, _, .texts (n := n) (a := a) ha, pre => by
    have hr : runChk ⟨2, n⟩ (pre ++ a) pre.length = (⟨a, false, (pre ++ a).length⟩, 0) := by simp [runChk, ha]
    have h2 : (splitL [] (pre ++ a) (runChk ⟨2, n⟩ (pre ++ a) pre.length).1.next).2 = 0 := by rw [hr]; simp [splitL]
    rw [splitL_cons_ok (by rw [hr]) h2, hr]
    exact ⟨rfl, by simp [splitL, bare]⟩
  | _, _, _, .rest (n := n) (a := a), pre => by
    have hr : runChk ⟨3, n⟩ (pre ++ a) pre.length = (⟨a, false, (pre ++ a).length⟩, 0) := by simp [runChk]
    have h2 : (splitL [] (pre ++ a) (runChk ⟨3, n⟩ (pre ++ a) pre.length).1.next).2 = 0 := by rw [hr]; simp [splitL]
    rw [splitL_cons_ok (by rw [hr]) h2, hr]
    exact ⟨rfl, by simp [splitL, bare]⟩
theorem checksOf_good (k : Int) : GoodC (checksOf k) := by
  unfold checksOf GoodC
  repeat' split
  all_goals
    intro i hi
    simp only [List.length_cons, List.length_nil] at hi
    rcases i with _ | _ | _ | i <;> first | omega | simp
theorem gr_text : ∀ {cs : List Chk} {d : List UInt8} {ps : List (List UInt8 × Bool)}, Gr cs d ps → ps.flatMap Prod.fst = d
  | _, _, _, .nil => rfl
  | _, _, _, .num _ h => by rw [List.flatMap_cons, gr_text h]
  | _, _, _, .name _ h => by rw [List.flatMap_cons, gr_text h]
  | _, _, _, .texts _ => by simp
  | _, _, _, .rest => by simp
theorem bare_text (l : List Pc) : (l.map bare).flatMap Prod.fst = textOf l := by
  induction l with
  | nil => rfl
  | cons p l ih => rw [List.map_cons, List.flatMap_cons, ih]; rfl
def foldB (ps : List (List UInt8 × Bool)) : List UInt8 := ps.flatMap fun p => if p.2 then fold p.1 else p.1
theorem bare_fold (l : List Pc) : (l.flatMap fun p => if p.nm then fold p.text else p.text) = foldB (l.map bare) := by
  induction l with
  | nil => rfl
  | cons p l ih => rw [List.flatMap_cons, ih]; rfl
/-- Whole data, by its rows. -/
theorem whole_gr {k : Int} {d : List UInt8} : rmay k d = true ↔ k ≠ 41 ∧ ∃ ps, Gr (checksOf k) d ps := by
  unfold rmay
  constructor
  · intro h
    by_cases hc : (splitOf d 0 k).2 = 0 ∧ textOf (splitOf d 0 k).1 = d
    · by_cases h41 : k = 41
      · subst h41; simp [splitOf] at hc
      · unfold splitOf at hc
        rw [if_neg h41] at hc
        exact ⟨h41, _, gr_of_split d (checksOf k) 0 (checksOf_good k) (by omega) hc.1 hc.2⟩
    · rw [whole_bad hc] at h; simp at h
  · rintro ⟨h41, ps, h⟩
    have := split_of_gr h []
    simp only [List.nil_append, List.length_nil] at this
    rw [whole_good]
    · rfl
    · unfold splitOf; rw [if_neg h41]
      exact ⟨this.1, by rw [← bare_text, this.2]; exact gr_text h⟩
theorem rfold_gr {k : Int} {d : List UInt8} {ps : List (List UInt8 × Bool)} (h41 : k ≠ 41) (h : Gr (checksOf k) d ps) : rfold k d = foldB ps := by
  have := split_of_gr h []
  simp only [List.nil_append, List.length_nil] at this
  have hw : wholeOf k d = some (splitOf d 0 k).1 := whole_good (by unfold splitOf; rw [if_neg h41]; exact ⟨this.1, by rw [← bare_text, this.2]; exact gr_text h⟩)
  unfold rfold partsOf
  rw [hw]
  have hs : splitOf d 0 k = splitL (checksOf k) d 0 := by unfold splitOf; rw [if_neg h41]
  rw [Option.getD_some, bare_fold, hs, this.2]
/-- A turn of names (that stay names) turns whole data into whole data. -/
theorem gr_map {f : List UInt8 → List UInt8} (hf : ∀ a, may a = true → may (f a) = true) : ∀ {cs : List Chk} {d : List UInt8} {ps : List (List UInt8 × Bool)}, Gr cs d ps → Gr cs ((ps.map fun p => if p.2 then (f p.1, true) else p).flatMap Prod.fst) (ps.map fun p => if p.2 then (f p.1, true) else p)
  | _, _, _, .nil => Gr.nil
  | _, _, _, .num ha h => by
    rw [List.map_cons, List.flatMap_cons]
    exact Gr.num ha (gr_map hf h)
  | _, _, _, .name ha h => by
    rw [List.map_cons, List.flatMap_cons]
    exact Gr.name (hf _ ha) (gr_map hf h)
  | _, _, _, .texts (a := a) ha => by
    simp only [List.map_cons, List.map_nil, List.flatMap_cons, List.flatMap_nil, List.append_nil]
    exact Gr.texts ha
  | _, _, _, .rest => by
    simp only [List.map_cons, List.map_nil, List.flatMap_cons, List.flatMap_nil, List.append_nil]
    exact Gr.rest
theorem gr_names : ∀ {cs : List Chk} {d : List UInt8} {ps : List (List UInt8 × Bool)}, Gr cs d ps → ∀ p ∈ ps, p.2 = true → may p.1 = true
  | _, _, _, .nil, p, hp, _ => by simp at hp
  | _, _, _, .num _ h, p, hp, h2 => by
    rcases List.mem_cons.1 hp with rfl | hp
    · cases h2
    · exact gr_names h p hp h2
  | _, _, _, .name ha h, p, hp, h2 => by
    rcases List.mem_cons.1 hp with rfl | hp
    · exact ha
    · exact gr_names h p hp h2
  | _, _, _, .texts _, p, hp, h2 => by rw [List.mem_singleton] at hp; subst hp; cases h2
  | _, _, _, .rest, p, hp, h2 => by rw [List.mem_singleton] at hp; subst hp; cases h2
theorem foldB_map (f : List UInt8 → List UInt8) (ps : List (List UInt8 × Bool)) : (ps.map fun p => if p.2 then (f p.1, true) else p).flatMap Prod.fst = ps.flatMap fun p => if p.2 then f p.1 else p.1 := by
  induction ps with
  | nil => rfl
  | cons p ps ih =>
    rw [List.map_cons, List.flatMap_cons, List.flatMap_cons, ih]
    congr 1
    split <;> rfl
/-- Folded data is data, and is folded. -/
theorem rfold_idem {k : Int} {d : List UInt8} (h : rmay k d = true) : rmay k (rfold k d) = true ∧ rfold k (rfold k d) = rfold k d := by
  obtain ⟨h41, ps, hg⟩ := whole_gr.1 h
  have e := rfold_gr h41 hg
  have hm := gr_map (f := fold) (fun a ha => (fold_may ha).1) hg
  rw [foldB_map] at hm
  have e2 : rfold k d = (ps.flatMap fun p => if p.2 then fold p.1 else p.1) := e
  rw [← e2] at hm
  refine ⟨whole_gr.2 ⟨h41, _, hm⟩, ?_⟩
  rw [rfold_gr h41 hm]
  unfold foldB
  rw [e2]
  have hn := gr_names hg
  clear hm e e2 hg
  induction ps with
  | nil => rfl
  | cons p ps ih =>
    rw [List.map_cons, List.flatMap_cons, List.flatMap_cons, ih (fun q hq => hn q (by simp [hq]))]
    congr 1
    obtain ⟨a, b⟩ := p
    cases b
    · rfl
    · have ha := hn (a, true) (by simp) rfl
      have hf := fold_may ha
      exact (fold_of_may hf.1).trans hf.2
end Go.Proofs.YtcpikbanghoflaaGreatDoor
namespace Go.Proofs.YtcpikbanghoflaaGreatDoor
set_option linter.unusedSimpArgs false
set_option linter.unusedVariables false
open Go.RowKit
set_option maxRecDepth 100000

theorem rrset_groupR (lo : Nat) (v : Value) (l : List RecD) (w : World) (hg : Laid w) (h : Recs w lo v l) (hbd : RecsBd l) (hok : RecsOk l) :
    Calls Tryz.prog 26 #[v] w (GroupPost (groupR l) w) := by
  refine (rrset_group lo v l w hg h hbd hok).mono ?_
  rintro e w' ⟨v, R, rfl, hp, hr, ho, hE⟩
  have hR : R = groupR l := group_eq l 300000 (fun r hr => ⟨(hbd.2 r hr).2, hok r hr⟩) R hp hr
  subst hR
  exact ⟨v, rfl, ho, hE⟩

theorem strs_bytes (l : List (List UInt8)) (j : Nat) (h : j < l.length) : Value.string ((l.map fun x => ByteArray.mk x.toArray).getD j ByteArray.empty) = S l[j] := by simp [h]
theorem map_mk_inj {a b : List (List UInt8)} : (a.map fun x => ByteArray.mk x.toArray) = (b.map fun x => ByteArray.mk x.toArray) ↔ a = b := by
  constructor
  · intro h
    induction a generalizing b with
    | nil => cases b with
      | nil => rfl
      | cons y b => cases h
    | cons x a ih => cases b with
      | nil => cases h
      | cons y b =>
        simp only [List.map_cons, List.cons.injEq, ByteArray.mk.injEq] at h
        rw [ih h.2]
        have := h.1
        simp at this
        rw [this]
  · rintro rfl; rfl
end Go.Proofs.YtcpikbanghoflaaGreatDoor
