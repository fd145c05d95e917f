/- Contracts of functions and plain lemmas that the proofs of this seat share (joined texts). No condition. -/
import Derived.Test.YtdnpmapelmjfpaaGreatDoorRi
import Derived.Test.YtdnpmapelmjfpaaGreatDoorRd
import Derived.Test.YtdnpmapelmjfpaaGreatDoorRa
namespace Go.Proofs.YtdnpmapelmjfpaaGreatDoor
set_option linter.unusedSimpArgs false
set_option linter.unusedVariables false
theorem bl_lt : ∀ a b : List UInt8, bl a b = decide (a < b)
  | [], [] => by simp [bl, Op.bytesLess]
  | [], _ :: _ => by simp [bl, Op.bytesLess]
  | _ :: _, [] => by simp [bl, Op.bytesLess]
  | x :: a, y :: b => by
    have ih := bl_lt a b
    simp only [bl, Op.bytesLess] at *
    rw [ih]
    rw [Bool.eq_iff_iff]
    simp [List.cons_lt_cons_iff]
def Asc (l : List (List UInt8)) : Prop := l.Pairwise fun a b => bl a b = true
theorem asc_ext : ∀ {l m : List (List UInt8)}, Asc l → Asc m → (∀ x, x ∈ l ↔ x ∈ m) → l = m
  | [], [], _, _, _ => rfl
  | [], b :: m, _, _, h => absurd ((h b).2 (by simp)) (by simp)
  | a :: l, [], _, _, h => absurd ((h a).1 (by simp)) (by simp)
  | a :: l, b :: m, hl, hm, h => by
    have hl' := List.pairwise_cons.1 hl
    have hm' := List.pairwise_cons.1 hm
    have hab : a = b := by
      rcases List.mem_cons.1 ((h a).1 (by simp)) with e | e
      · exact e
      · rcases List.mem_cons.1 ((h b).2 (by simp)) with e' | e'
        · exact e'.symm
        · have h1 := hm'.1 a e
          have h2 := hl'.1 b e'
          have := (bl_asym a b h2).1
          rw [h1] at this; cases this
    subst hab
    have : l = m := by
      refine asc_ext hl'.2 hm'.2 (fun x => ?_)
      have hx := h x
      simp only [List.mem_cons] at hx
      constructor
      · intro hxl
        rcases hx.1 (.inr hxl) with e | e
        · subst e
          have := hl'.1 x hxl
          rw [bl_irr] at this; cases this
        · exact e
      · intro hxm
        rcases hx.2 (.inr hxm) with e | e
        · subst e
          have := hm'.1 x hxm
          rw [bl_irr] at this; cases this
        · exact e
    rw [this]
theorem insB_asc {l : List (List UInt8)} {s : List UInt8} (h : Asc l) (hn : s ∉ l) : Asc (insB l s) := by
  induction l with
  | nil => simp [insB, Asc]
  | cons a l ih =>
    have h' := List.pairwise_cons.1 h
    simp only [insB]
    split
    · rename_i hb
      refine List.pairwise_cons.2 ⟨fun x hx => ?_, h⟩
      rcases List.mem_cons.1 hx with rfl | hx
      · exact hb
      · exact bl_trans _ _ _ hb (h'.1 x hx)
    · rename_i hb
      have hne : s ≠ a := fun e => hn (by simp [e])
      have hba : bl a s = true := by
        rcases hc : bl a s with _ | _
        · exact absurd (bl_total a s hc (by simpa using hb)).symm hne
        · rfl
      refine List.pairwise_cons.2 ⟨fun x hx => ?_, ih h'.2 (fun hm => hn (by simp [hm]))⟩
      rcases insB_mem hx with hx | rfl
      · exact h'.1 x hx
      · exact hba
theorem mem_insB {l : List (List UInt8)} {s x : List UInt8} : x ∈ insB l s ↔ x ∈ l ∨ x = s := by
  induction l with
  | nil => simp [insB]
  | cons a l ih =>
    simp only [insB]
    split
    · simp only [List.mem_cons]
      constructor
      · rintro (h | h | h)
        · exact .inr h
        · exact .inl (.inl h)
        · exact .inl (.inr h)
      · rintro ((h | h) | h)
        · exact .inr (.inl h)
        · exact .inr (.inr h)
        · exact .inl h
    · simp only [List.mem_cons, ih]
      constructor
      · rintro (h | h | h)
        · exact .inl (.inl h)
        · exact .inl (.inr h)
        · exact .inr h
      · rintro ((h | h) | h)
        · exact .inl h
        · exact .inr (.inl h)
        · exact .inr (.inr h)
theorem putS_asc {l : List (List UInt8)} {s : List UInt8} (h : Asc l) : Asc (putS l s) := by
  unfold putS
  split
  · exact h
  · rename_i hc
    exact insB_asc h (fun hm => hc (by rw [List.contains_iff_mem]; exact hm))
theorem mem_putS {l : List (List UInt8)} {s x : List UInt8} : x ∈ putS l s ↔ x ∈ l ∨ x = s := by
  unfold putS
  split
  · rename_i hc
    rw [List.contains_iff_mem] at hc
    constructor
    · exact .inl
    · rintro (h | rfl)
      · exact h
      · exact hc
  · exact mem_insB

theorem sortB_asc (l : List (List UInt8)) : (sortB l).Pairwise fun a b => bl b a = false := by
  have := List.pairwise_mergeSort (le := fun x y : List UInt8 => decide (x ≤ y)) (fun a b c h1 h2 => by
      simp only [decide_eq_true_eq] at *; exact List.le_trans h1 h2) (fun a b => by
      simp only [Bool.or_eq_true, decide_eq_true_eq]; exact List.le_total a b) l
  refine this.imp ?_
  intro a b h
  rw [bl_lt]
  simp only [decide_eq_true_eq, decide_eq_false_iff_not] at *
  exact List.not_lt.2 h
theorem mem_compact {l : List (List UInt8)} {x : List UInt8} : x ∈ Lib.compact l ↔ x ∈ l := by
  unfold Lib.compact Lib.compactUpTo
  rw [List.mem_map]
  constructor
  · rintro ⟨j, hj, rfl⟩
    have hjl : j < l.length := by simpa using (List.mem_filter.1 hj).1
    rw [getElem!_pos l.toArray j (by simpa using hjl)]
    simp
  · intro hx
    obtain ⟨i, hi, rfl⟩ := List.getElem_of_mem hx
    have key : ∀ (m i : Nat) (hi : i < l.length), i < m → ∃ j, j ∈ (List.range l.length).filter (Lib.keeps l.toArray) ∧ l.toArray[j]! = l[i] := by
      intro m
      induction m with
      | zero => intro i _ h; omega
      | succ m ih =>
        intro i hi h
        by_cases hk : Lib.keeps l.toArray i = true
        · exact ⟨i, List.mem_filter.2 ⟨List.mem_range.2 hi, hk⟩, by rw [getElem!_pos l.toArray i (by simpa using hi)]; simp⟩
        · unfold Lib.keeps at hk
          simp only [decide_eq_true_eq, not_or, Decidable.not_not] at hk
          obtain ⟨j, h1, h2⟩ := ih (i - 1) (by omega) (by omega)
          refine ⟨j, h1, h2.trans ?_⟩
          have h3 := hk.2
          rw [getElem!_pos l.toArray i (by simpa using hi), getElem!_pos l.toArray (i - 1) (by simp; omega)] at h3
          simpa using h3.symm
    obtain ⟨j, h1, h2⟩ := key (i + 1) i hi (by omega)
    exact ⟨j, h1, h2⟩
theorem compact_asc (l : List (List UInt8)) (hs : l.Pairwise fun a b => bl b a = false) : Asc (Lib.compact l) := by
  unfold Lib.compact Lib.compactUpTo Asc
  rw [List.pairwise_map]
  have hr : ((List.range l.length).filter (Lib.keeps l.toArray)).Pairwise (· < ·) := List.Pairwise.filter _ List.pairwise_lt_range
  refine hr.imp_of_mem ?_
  intro i j hi hj hij
  have hil : i < l.length := by simpa using (List.mem_filter.1 hi).1
  have hjl : j < l.length := by simpa using (List.mem_filter.1 hj).1
  have hk := (List.mem_filter.1 hj).2
  unfold Lib.keeps at hk
  simp only [decide_eq_true_eq] at hk
  rw [getElem!_pos l.toArray i (by simpa using hil), getElem!_pos l.toArray j (by simpa using hjl)]
  have hne : l[j] ≠ l[j - 1] := by
    rcases hk with h | h
    · omega
    · rw [getElem!_pos l.toArray j (by simpa using hjl), getElem!_pos l.toArray (j - 1) (by simp; omega)] at h
      simpa using h
  have hs' := List.pairwise_iff_getElem.1 hs
  have h1 : bl l[j] l[j - 1] = false := hs' (j - 1) j (by omega) hjl (by omega)
  have h2 : bl l[j - 1] l[j] = true := by
    rcases hc : bl l[j - 1] l[j] with _ | _
    · exact absurd (bl_total _ _ hc h1).symm hne
    · rfl
  show bl l[i] l[j] = true
  rcases Nat.eq_or_lt_of_le (show i ≤ j - 1 by omega) with e | e
  · subst e; exact h2
  · have h3 : bl l[j - 1] l[i] = false := hs' i (j - 1) hil (by omega) e
    rcases hc : bl l[i] l[j - 1] with _ | _
    · rw [bl_total _ _ hc h3]; exact h2
    · exact bl_trans _ _ _ hc h2
def canon (l : List (List UInt8)) : List (List UInt8) := Lib.compact (sortB l)
theorem mem_sortB {l : List (List UInt8)} {x : List UInt8} : x ∈ sortB l ↔ x ∈ l := by unfold sortB; exact List.mem_mergeSort
theorem canon_asc (l : List (List UInt8)) : Asc (canon l) := compact_asc _ (sortB_asc l)
theorem mem_canon {l : List (List UInt8)} {x : List UInt8} : x ∈ canon l ↔ x ∈ l := mem_compact.trans mem_sortB
theorem canon_snoc (l : List (List UInt8)) (d : List UInt8) : canon (l ++ [d]) = putS (canon l) d :=
  asc_ext (canon_asc _) (putS_asc (canon_asc _)) (fun x => by rw [mem_canon, mem_putS, mem_canon]; simp)
theorem canon_one (d : List UInt8) : canon [d] = [d] :=
  asc_ext (canon_asc _) (by simp [Asc]) (fun x => by rw [mem_canon])
theorem clean_canon (s : SetD) : cleanS s = { s with data := canon s.data } := rfl

theorem atTo_clean (n : List UInt8) (t c : Int) (L : List SetD) : ∀ k, k ≤ L.length → atTo (keyM n t c) (L.map cleanS) k = atTo (keyM n t c) L k
  | 0, _ => rfl
  | k + 1, h => by
    simp only [atTo]
    rw [atTo_clean n t c L k (by omega)]
    have h1 : (L.map cleanS).getD k SetD.zero = cleanS L[k] := by simp [show k < L.length by omega]
    have h2 : L.getD k SetD.zero = L[k] := by simp [show k < L.length by omega]
    rw [h1, h2]
    rfl
theorem clean_upd (t : Int) (d : List UInt8) (s : SetD) : cleanS (updP t d s) = updS t d (cleanS s) := by
  simp only [clean_canon, updP, updS, canon_snoc]
theorem map_modify (f : SetD → SetD) (g h : SetD → SetD) (hc : ∀ s, f (g s) = h (f s)) (L : List SetD) (k : Nat) : (L.modify k g).map f = (L.map f).modify k h := by
  apply List.ext_getElem?
  intro i
  simp only [List.getElem?_map, List.getElem?_modify]
  cases L[i]? with
  | none => rfl
  | some s =>
    by_cases e : k = i
    · simp [e, hc]
    · simp [e]
theorem clean_add (L : List SetD) (x : RecD) : (addP L x).map cleanS = addR (L.map cleanS) x := by
  unfold addP addR
  rw [List.length_map, atTo_clean _ _ _ L _ (Nat.le_refl _)]
  split
  · split
    · rw [List.map_append]
      simp [clean_canon, canon_one]
    · exact map_modify _ _ _ (clean_upd _ _) L _
  · rfl
theorem clean_raw (l : List RecD) : ∀ k, k ≤ l.length → (rawTo l k).map cleanS = groupTo l k
  | 0, _ => rfl
  | k + 1, h => by rw [rawTo_step l k (by omega), groupTo_step l k (by omega), clean_add, clean_raw l k (by omega)]

theorem rises_ext : ∀ {l m : List SetD}, RisesW l → RisesW m → l.Perm m → (∀ a ∈ l, ∀ b ∈ l, cmpK a b = 0 → a = b) → l = m
  | [], m, _, _, hp, _ => (List.nil_perm.1 hp).symm
  | a :: l, [], _, _, hp, _ => absurd hp.length_eq (by simp)
  | a :: l, b :: m, hl, hm, hp, hu => by
    have hl' := List.pairwise_cons.1 hl
    have hm' := List.pairwise_cons.1 hm
    have hb : b ∈ a :: l := hp.mem_iff.2 (by simp)
    have hab : a = b := by
      rcases List.mem_cons.1 (hp.mem_iff.1 (show a ∈ a :: l by simp)) with e | e
      · exact e
      · rcases List.mem_cons.1 hb with e' | e'
        · exact e'.symm
        · have h1 := hm'.1 a e
          have h2 := hl'.1 b e'
          have h3 := good_cmpK.anti a b
          exact hu a (by simp) b hb (by omega)
    subst hab
    rw [rises_ext hl'.2 hm'.2 (List.Perm.cons_inv hp) (fun x hx y hy => hu x (by simp [hx]) y (by simp [hy]))]
theorem minTo_min (l : List SetD) (hm : ∀ s ∈ l, may s.name = true) : ∀ i, 0 < i → i ≤ l.length → ∀ j (hj : j < i) (hjl : j < l.length) (hml : minTo l i < l.length), ¬ cmpK l[j] l[minTo l i] < 0
  | 0, h, _ => absurd h (by omega)
  | i + 1, _, hi => by
    intro j hj hjl hml
    by_cases h0 : i = 0
    · subst h0
      have e1 : minTo l 1 = 0 := rfl
      have e2 : j = 0 := by omega
      subst e2
      simp only [e1]
      rw [good_cmpK.zero]; omega
    · have ih := minTo_min l hm i (by omega) (by omega)
      have hmi := minTo_lt l i (by omega)
      have hgi : l.getD i SetD.zero = l[i] := by simp [show i < l.length by omega]
      have hgm : l.getD (minTo l i) SetD.zero = l[minTo l i] := by simp [show minTo l i < l.length by omega]
      have hu : minTo l (i + 1) = if beforeS l[i] l[minTo l i] then i else minTo l i := by
        conv => lhs; unfold minTo
        rw [if_neg h0, hgi, hgm]
      have hbk := beforeS_key (hm l[i] (List.getElem_mem _)) (hm l[minTo l i] (List.getElem_mem _))
      by_cases hb : beforeS l[i] l[minTo l i] = true
      · rw [if_pos hb] at hu
        rw [hbk, decide_eq_true_eq] at hb
        simp only [hu]
        rcases Nat.eq_or_lt_of_le (Nat.le_of_lt_succ hj) with e | e
        · subst e; rw [good_cmpK.zero]; omega
        · have h1 := ih j e hjl (by omega)
          have h2 := good_cmpK.anti l[j] l[minTo l i]
          have h3 := good_cmpK.trlt hb (show cmpK l[minTo l i] l[j] ≤ 0 by omega)
          have h4 := good_cmpK.anti l[i] l[j]
          omega
      · rw [if_neg hb] at hu
        rw [hbk, decide_eq_true_eq] at hb
        simp only [hu]
        rcases Nat.eq_or_lt_of_le (Nat.le_of_lt_succ hj) with e | e
        · subst e; exact hb
        · exact ih j e hjl (by omega)
theorem take_drop_perm {l : List SetD} {m : Nat} (h : m < l.length) : (l[m] :: (l.take m ++ l.drop (m + 1))).Perm l := by
  have h1 : (l[m] :: (l.take m ++ l.drop (m + 1))).Perm (l.take m ++ l[m] :: l.drop (m + 1)) := List.perm_middle.symm
  rw [← List.drop_eq_getElem_cons h, List.take_append_drop] at h1
  exact h1
theorem selF_spec : ∀ (n : Nat) (l : List SetD), l.length ≤ n → (∀ s ∈ l, may s.name = true) → (selF n l).Perm l ∧ RisesW (selF n l)
  | 0, l, h, _ => by
    have : l = [] := List.eq_nil_of_length_eq_zero (by omega)
    subst this; exact ⟨List.Perm.refl _, List.Pairwise.nil⟩
  | n + 1, l, h, hm => by
    unfold selF
    split
    · rename_i h0
      have : l = [] := List.eq_nil_of_length_eq_zero h0
      subst this; exact ⟨List.Perm.refl _, List.Pairwise.nil⟩
    · rename_i h0
      have hml := minTo_lt l l.length (by omega)
      have hg : l.getD (minTo l l.length) SetD.zero = l[minTo l l.length] := by simp [hml]
      have hp := take_drop_perm hml
      have hr : ∀ s ∈ l.take (minTo l l.length) ++ l.drop (minTo l l.length + 1), s ∈ l := fun s hs => by
        rcases List.mem_append.1 hs with h | h
        · exact List.mem_of_mem_take h
        · exact List.mem_of_mem_drop h
      obtain ⟨ih1, ih2⟩ := selF_spec n (l.take (minTo l l.length) ++ l.drop (minTo l l.length + 1)) (by rw [List.length_append, List.length_take, List.length_drop]; omega) (fun s hs => hm s (hr s hs))
      rw [hg]
      refine ⟨(ih1.cons _).trans hp, List.pairwise_cons.2 ⟨fun s hs => ?_, ih2⟩⟩
      have hs' := hr s (ih1.mem_iff.1 hs)
      obtain ⟨j, hj, rfl⟩ := List.getElem_of_mem hs'
      exact minTo_min l hm l.length (by omega) (Nat.le_refl _) j hj hj hml

theorem key_inj {a b : List UInt8} (ha : may a = true ∧ low a = a) (hb : may b = true ∧ low b = b) (h : keyL a = keyL b) : a = b := by
  have key : ∀ n : List UInt8, (may n = true ∧ low n = n) → n = bytesOf (keyL n).reverse := fun n hn => by
    have hm := hn.1
    unfold may at hm
    rcases hx : labelsOf n with _ | x
    · rw [hx] at hm; cases hm
    · have h1 := fold_labels hx
      have h2 : fold n = n := by unfold fold; rw [if_pos hn.1]; exact hn.2
      unfold keyL
      rw [hx, List.reverse_reverse]
      exact h2.symm.trans h1
  rw [key a ha, key b hb, h]
theorem group_eq (l : List RecD) (B : Nat) (hB : ∀ r ∈ l, r.data.length ≤ B ∧ (0 ≤ r.typ ∧ r.typ ≤ 65535) ∧ (0 ≤ r.cls ∧ r.cls ≤ 65535)) (R : List SetD) (hp : R.Perm ((rawTo l l.length).map cleanS)) (hr : RisesW R) : R = groupR l := by
  have hbd := rawTo_bd l B hB l.length (Nat.le_refl _)
  have hnd := rawTo_nodup l l.length (Nat.le_refl _)
  have hcr := clean_raw l l.length (Nat.le_refl _)
  have hmg : ∀ s ∈ groupTo l l.length, (may s.name = true ∧ low s.name = s.name) := fun s hs => by
    rw [← hcr] at hs
    obtain ⟨t, ht, rfl⟩ := List.mem_map.1 hs
    exact (hbd t ht).1
  have hng : ((groupTo l l.length).map keyT).Nodup := by
    rw [← hcr, List.map_map]
    exact hnd
  rw [hcr] at hp
  obtain ⟨h1, h2⟩ := selF_spec l.length (groupTo l l.length) (groupTo_len l l.length (Nat.le_refl _)) (fun s hs => (hmg s hs).1)
  refine rises_ext hr h2 (hp.trans h1.symm) (fun a ha b hb h0 => ?_)
  have ha' := hp.mem_iff.1 ha
  have hb' := hp.mem_iff.1 hb
  have hkey : keyT a = keyT b := by
    unfold cmpK at h0
    by_cases e1 : cmpRev (keyL a.name) (keyL b.name) = 0
    · rw [if_pos e1] at h0
      by_cases e2 : cmpI a.typ b.typ = 0
      · rw [if_pos e2] at h0
        have hn : a.name = b.name := key_inj (hmg a ha') (hmg b hb') (cmpRev_zero _ _ e1)
        simp [keyT, hn, cmpI_zero e2, cmpI_zero h0]
      · rw [if_neg e2] at h0; exact absurd h0 e2
    · rw [if_neg e1] at h0; exact absurd h0 e1
  obtain ⟨i, hi, rfl⟩ := List.getElem_of_mem ha'
  obtain ⟨j, hj, rfl⟩ := List.getElem_of_mem hb'
  rcases Nat.lt_trichotomy i j with h | h | h
  · have := List.pairwise_iff_getElem.1 hng i j (by simpa using hi) (by simpa using hj) h
    simp only [List.getElem_map] at this
    exact absurd hkey this
  · subst h; rfl
  · have := List.pairwise_iff_getElem.1 hng j i (by simpa using hj) (by simpa using hi) h
    simp only [List.getElem_map] at this
    exact absurd hkey.symm this
def FP (l : List SetD) (ty cls : Int) (path : List SetD) (here : List UInt8) (R : FolR) : Prop :=
  (R.err ≠ 0 → R.path = [] ∧ R.here = [] ∧ R.fin = []) ∧ (ty = 5 → R = ⟨path, here, (findS l here ty cls).toList, 0⟩) ∧ (R.err = 0 → R.fin = (findS l R.here ty cls).toList) ∧ (R.err = 0 → ty ≠ 5 → findS l R.here 5 cls = none)
theorem FP.bad {l : List SetD} {ty cls : Int} {path : List SetD} {here : List UInt8} {e : Nat} (he : e ≠ 0) (h5 : ty ≠ 5) : FP l ty cls path here (FolR.bad e) :=
  ⟨fun _ => ⟨rfl, rfl, rfl⟩, fun h => absurd h h5, fun h => absurd h he, fun h => absurd h he⟩
theorem followF_here (l : List SetD) (ty cls : Int) : ∀ (n : Nat) (here : List UInt8) (seen : List (List UInt8)) (path : List SetD), here.length ≤ 255 → (followF l ty cls n here seen path).here.length ≤ 255
  | 0, _, _, _, _ => by simp [followF, FolR.bad]
  | n + 1, here, seen, path, h => by
    simp only [followF]
    split
    · exact h
    · split
      · exact h
      · split
        · simp [FolR.bad]
        · split
          · simp [FolR.bad]
          · rename_i next ht
            split
            · simp [FolR.bad]
            · split
              · simp [FolR.bad]
              · exact followF_here l ty cls n next _ _ (targetS_le _ _ ht)
theorem follow_here (n : List UInt8) (ty cls : Int) (l : List SetD) : (followOf n ty cls l).here.length ≤ 255 := by
  unfold followOf
  split
  · exact followF_here l ty cls 9 _ _ _ (fold_le n)
  · simp [FolR.bad]
theorem fold_of_may {n : List UInt8} (h : may n = true) : fold n = low n := by
  unfold fold
  rw [if_pos h]
abbrev KeyD := List UInt8 × Int × Int
def recK (x : RecD) : KeyD := (fold x.name, x.typ, x.cls)
def ofK (l : List RecD) (K : KeyD) : List RecD := l.filter fun x => okRec x && decide (recK x = K)
def minT (l : List RecD) : Int := l.foldl (fun m x => min m (timeT x.ttl)) 2147483647
def datT (l : List RecD) : List (List UInt8) := canon (l.map fun x => rfold x.typ x.data)
def setK (l : List RecD) (K : KeyD) : SetD := ⟨K.1, K.2.1, K.2.2, minT (ofK l K), datT (ofK l K)⟩

theorem timeT_le (t : Int) : timeT t ≤ 2147483647 := by unfold timeT; split <;> omega
theorem mem_ofK {l : List RecD} {K : KeyD} {x : RecD} : x ∈ ofK l K ↔ x ∈ l ∧ okRec x = true ∧ recK x = K := by
  unfold ofK; simp [List.mem_filter, and_assoc]
theorem ofK_snoc_in {l : List RecD} {x : RecD} {K : KeyD} (h1 : okRec x = true) (h2 : recK x = K) : ofK (l ++ [x]) K = ofK l K ++ [x] := by
  unfold ofK; rw [List.filter_append]; simp [List.filter_cons, h1, h2]
theorem ofK_snoc_out {l : List RecD} {x : RecD} {K : KeyD} (h : okRec x = false ∨ recK x ≠ K) : ofK (l ++ [x]) K = ofK l K := by
  unfold ofK; rw [List.filter_append]
  rcases h with h | h <;> simp [List.filter_cons, h]
theorem minT_snoc (l : List RecD) (x : RecD) : minT (l ++ [x]) = min (minT l) (timeT x.ttl) := by unfold minT; rw [List.foldl_append]; rfl
theorem datT_snoc (l : List RecD) (x : RecD) : datT (l ++ [x]) = putS (datT l) (rfold x.typ x.data) := by
  unfold datT; rw [List.map_append]; exact canon_snoc _ _

structure CharG (L : List SetD) (P : List RecD) : Prop where
  has : ∀ s ∈ L, ofK P (keyT s) ≠ [] ∧ s = setK P (keyT s)
  all : ∀ K, ofK P K ≠ [] → ∃ s ∈ L, keyT s = K
  nodup : (L.map keyT).Nodup

theorem setK_out {P : List RecD} {x : RecD} {K : KeyD} (h : okRec x = false ∨ recK x ≠ K) : setK (P ++ [x]) K = setK P K := by
  unfold setK; rw [ofK_snoc_out h]
theorem CharG.skip {L : List SetD} {P : List RecD} (h : CharG L P) {x : RecD} (hx : okRec x = false) : CharG L (P ++ [x]) where
  has s hs := by rw [ofK_snoc_out (.inl hx), setK_out (.inl hx)]; exact h.has s hs
  all K hK := by rw [ofK_snoc_out (.inl hx)] at hK; exact h.all K hK
  nodup := h.nodup
theorem CharG.add {L : List SetD} {P : List RecD} (h : CharG L P) (x : RecD) : CharG (addR L x) (P ++ [x]) := by
  unfold addR
  by_cases hx : okRec x = true
  · rw [if_pos hx]
    have hneg : ∀ K, recK x ≠ K → ofK (P ++ [x]) K = ofK P K := fun K e => ofK_snoc_out (.inr e)
    by_cases ha : atTo (keyM (fold x.name) x.typ x.cls) L L.length < 0
    · rw [if_pos ha]
      have hno : ∀ s ∈ L, keyT s ≠ recK x := fun s hs e => by
        obtain ⟨i, hi, rfl⟩ := List.getElem_of_mem hs
        have := atTo_neg L.length (Nat.le_refl _) ha i hi hi
        rw [keyM_iff.2 e] at this; cases this
      have h0 : ofK P (recK x) = [] := by
        by_cases e : ofK P (recK x) = []
        · exact e
        · obtain ⟨s, hs, hk⟩ := h.all _ e; exact absurd hk (hno s hs)
      have hset : setK (P ++ [x]) (recK x) = ⟨fold x.name, x.typ, x.cls, timeT x.ttl, [rfold x.typ x.data]⟩ := by
        unfold setK
        rw [ofK_snoc_in hx rfl, h0, List.nil_append]
        have := timeT_le x.ttl
        have e1 : minT [x] = timeT x.ttl := by unfold minT; simp only [List.foldl_cons, List.foldl_nil]; omega
        have e2 : datT [x] = [rfold x.typ x.data] := canon_one _
        rw [e1, e2]; rfl
      constructor
      · intro s hs
        rcases List.mem_append.1 hs with h1 | h1
        · have hne := hno s h1
          rw [hneg _ (Ne.symm hne), setK_out (.inr (Ne.symm hne))]
          exact h.has s h1
        · rw [List.mem_singleton] at h1
          have hk : keyT s = recK x := by rw [h1]; rfl
          rw [hk, ofK_snoc_in hx rfl]
          exact ⟨by simp, by rw [hset]; exact h1⟩
      · intro K hK
        by_cases e : recK x = K
        · exact ⟨⟨fold x.name, x.typ, x.cls, timeT x.ttl, [rfold x.typ x.data]⟩, by simp, e⟩
        · rw [hneg K e] at hK
          obtain ⟨s, hs, hk⟩ := h.all K hK
          exact ⟨s, by simp [hs], hk⟩
      · rw [List.map_append, List.nodup_append]
        refine ⟨h.nodup, by simp, fun a ha b hb => ?_⟩
        obtain ⟨s, hs, rfl⟩ := List.mem_map.1 ha
        simp only [List.map_cons, List.map_nil, List.mem_singleton] at hb
        subst hb
        exact hno s hs
    · rw [if_neg ha]
      obtain ⟨t, ht, hkt⟩ := atTo_ge _ (Nat.le_refl _) (show 0 ≤ atTo (keyM (fold x.name) x.typ x.cls) L L.length by omega)
      generalize (atTo (keyM (fold x.name) x.typ x.cls) L L.length).toNat = i at *
      have hi : i < L.length := (List.getElem?_eq_some_iff.1 ht).1
      have hti : L[i] = t := (List.getElem?_eq_some_iff.1 ht).2
      have hk : keyT t = recK x := keyM_iff.1 hkt
      have htm : t ∈ L := hti ▸ List.getElem_mem hi
      have hup : updS (timeT x.ttl) (rfold x.typ x.data) t = setK (P ++ [x]) (recK x) := by
        have := (h.has t htm).2
        rw [hk] at this
        rw [this]
        unfold setK updS
        rw [ofK_snoc_in hx rfl, minT_snoc, datT_snoc]
      have hkm : (L.modify i (updS (timeT x.ttl) (rfold x.typ x.data))).map keyT = L.map keyT := by
        apply List.ext_getElem?
        intro j
        rw [List.getElem?_map, List.getElem?_map, List.getElem?_modify]
        by_cases e : i = j
        · subst e; rw [ht]; simp [updS, keyT]
        · simp [e]
      constructor
      · intro s hs
        obtain ⟨j, hj, rfl⟩ := List.getElem_of_mem hs
        rw [List.length_modify] at hj
        rw [List.getElem_modify]
        by_cases e : i = j
        · subst e
          rw [if_pos rfl, hti]
          have hk2 : keyT (updS (timeT x.ttl) (rfold x.typ x.data) t) = recK x := hk
          rw [hk2]
          exact ⟨by rw [ofK_snoc_in hx rfl]; simp, hup⟩
        · rw [if_neg e]
          have hne : recK x ≠ keyT L[j] := fun e2 => by
            rw [← hk, ← hti] at e2
            have h1 := List.getElem_map keyT (l := L) (i := i) (h := by simpa using hi)
            have h2 := List.getElem_map keyT (l := L) (i := j) (h := by simpa using hj)
            exact e ((List.getElem_inj h.nodup).1 (by rw [h1, h2]; exact e2))
          rw [hneg _ hne, setK_out (.inr hne)]
          exact h.has _ (List.getElem_mem hj)
      · intro K hK
        have : K ∈ (L.modify i (updS (timeT x.ttl) (rfold x.typ x.data))).map keyT := by
          rw [hkm]
          by_cases e : recK x = K
          · rw [← e, ← hk]; exact List.mem_map_of_mem htm
          · rw [hneg K e] at hK
            obtain ⟨s, hs, hk⟩ := h.all K hK
            rw [← hk]; exact List.mem_map_of_mem hs
        obtain ⟨s, hs, e⟩ := List.mem_map.1 this
        exact ⟨s, hs, e⟩
      · rw [hkm]; exact h.nodup
  · rw [if_neg hx]
    exact h.skip (by simpa using hx)
theorem char_to (l : List RecD) : ∀ k, k ≤ l.length → CharG (groupTo l k) (l.take k)
  | 0, _ => ⟨by simp [groupTo], by simp [ofK], by simp [groupTo]⟩
  | k + 1, h => by rw [groupTo_step l k (by omega), take_snoc l k (by omega)]; exact (char_to l k (by omega)).add _

theorem char_names {L : List SetD} {P : List RecD} (h : CharG L P) : ∀ s ∈ L, may s.name = true ∧ low s.name = s.name := fun s hs => by
  obtain ⟨h1, _⟩ := h.has s hs
  obtain ⟨x, hx⟩ := List.exists_mem_of_ne_nil _ h1
  obtain ⟨_, hok, hk⟩ := mem_ofK.1 hx
  have hm : may x.name = true := by unfold okRec at hok; simp only [Bool.and_eq_true] at hok; exact hok.1
  have e : s.name = fold x.name := (congrArg Prod.fst hk).symm
  rw [e]
  exact fold_may hm
theorem group_perm (l : List RecD) : (groupR l).Perm (groupTo l l.length) ∧ RisesW (groupR l) :=
  selF_spec l.length (groupTo l l.length) (groupTo_len l l.length (Nat.le_refl _)) (fun s hs => (char_names (char_to l l.length (Nat.le_refl _)) s hs).1)
theorem group_mem (l : List RecD) (s : SetD) : s ∈ groupR l ↔ ofK l (keyT s) ≠ [] ∧ s = setK l (keyT s) := by
  have hc := char_to l l.length (Nat.le_refl _)
  rw [List.take_length] at hc
  rw [(group_perm l).1.mem_iff]
  constructor
  · exact hc.has s
  · rintro ⟨h1, h2⟩
    obtain ⟨t, ht, hk⟩ := hc.all _ h1
    have := (hc.has t ht).2
    rw [hk, ← h2] at this
    exact this ▸ ht
theorem minT_le (l : List RecD) : minT l ≤ 2147483647 ∧ ∀ x ∈ l, minT l ≤ timeT x.ttl := by
  have key : ∀ (l : List RecD) (m : Int), l.foldl (fun m x => min m (timeT x.ttl)) m ≤ m ∧ ∀ x ∈ l, l.foldl (fun m x => min m (timeT x.ttl)) m ≤ timeT x.ttl := by
    intro l
    induction l with
    | nil => intro m; simp
    | cons a l ih =>
      intro m
      rw [List.foldl_cons]
      obtain ⟨h1, h2⟩ := ih (min m (timeT a.ttl))
      refine ⟨by omega, fun x hx => ?_⟩
      rcases List.mem_cons.1 hx with rfl | hx
      · omega
      · exact h2 x hx
  exact key l _
theorem minT_in (l : List RecD) : minT l = 2147483647 ∨ ∃ x ∈ l, minT l = timeT x.ttl := by
  have key : ∀ (l : List RecD) (m : Int), l.foldl (fun m x => min m (timeT x.ttl)) m = m ∨ ∃ x ∈ l, l.foldl (fun m x => min m (timeT x.ttl)) m = timeT x.ttl := by
    intro l
    induction l with
    | nil => intro m; simp
    | cons a l ih =>
      intro m
      rw [List.foldl_cons]
      rcases ih (min m (timeT a.ttl)) with h | ⟨x, hx, h⟩
      · rw [h]
        by_cases e : m ≤ timeT a.ttl
        · left; omega
        · right; exact ⟨a, by simp, by omega⟩
      · right; exact ⟨x, by simp [hx], h⟩
  exact key l _
end Go.Proofs.YtdnpmapelmjfpaaGreatDoor
namespace Go.Proofs.YtdnpmapelmjfpaaGreatDoor
set_option linter.unusedSimpArgs false
set_option linter.unusedVariables false
set_option maxRecDepth 100000
def bare (p : Pc) : List UInt8 × Bool := (p.text, p.nm)
end Go.Proofs.YtdnpmapelmjfpaaGreatDoor
namespace Go.Proofs.YtdnpmapelmjfpaaGreatDoor
set_option linter.unusedSimpArgs false
set_option linter.unusedVariables false
open Go.RowKit
set_option maxRecDepth 100000
theorem rrset_groupR (lo : Nat) (v : Value) (l : List RecD) (w : World) (hg : Laid w) (h : Recs w lo v l) (hbd : RecsBd l) (hok : RecsOk l) :
    Calls Tryz.prog 41 #[v] w (GroupPost (groupR l) w) := by
  refine (rrset_group lo v l w hg h hbd hok).mono ?_
  rintro e w' ⟨v, R, rfl, hp, hr, ho, hE⟩
  have hR : R = groupR l := group_eq l 300000 (fun r hr => ⟨(hbd.2 r hr).2, hok r hr⟩) R hp hr
  subst hR
  exact ⟨v, rfl, ho, hE⟩
end Go.Proofs.YtdnpmapelmjfpaaGreatDoor
