/- Plain: the chain, its way, and the sets that it goes through. No condition. -/
import Derived.Test.YthdlgmfeicikpaaGreatDoorChain1
import Derived.Test.YthdlgmfeicikpaaGreatDoorPlName
import Derived.Test.YthdlgmfeicikpaaGreatDoorPlFin
namespace Go.Proofs.YthdlgmfeicikpaaGreatDoor
set_option linter.unusedSimpArgs false
set_option linter.unusedVariables false

structure FolOk (l : List SetD) (n : List UInt8) (ty cls : Int) (R : FolR) : Prop where
  bad : R.err ≠ 0 → R.path = [] ∧ R.here = [] ∧ R.fin = []
  cn : ty = 5 → R.err = 0 ∨ R.err = 1
  fin : R.err = 0 → R.fin = (findS l R.here ty cls).toList
  stop : R.err = 0 → ty ≠ 5 → findS l R.here 5 cls = none
  plain : R.err = 0 → ty = 5 → R.path = [] ∧ R.here = fold n
def FP (l : List SetD) (ty cls : Int) (path : List SetD) (here : List UInt8) (R : FolR) : Prop :=
  (R.err ≠ 0 → R.path = [] ∧ R.here = [] ∧ R.fin = []) ∧ (ty = 5 → R = ⟨path, here, (findS l here ty cls).toList, 0⟩) ∧ (R.err = 0 → R.fin = (findS l R.here ty cls).toList) ∧ (R.err = 0 → ty ≠ 5 → findS l R.here 5 cls = none)
theorem FP.bad {l : List SetD} {ty cls : Int} {path : List SetD} {here : List UInt8} {e : Nat} (he : e ≠ 0) (h5 : ty ≠ 5) : FP l ty cls path here (FolR.bad e) :=
  ⟨fun _ => ⟨rfl, rfl, rfl⟩, fun h => absurd h h5, fun h => absurd h he, fun h => absurd h he⟩
theorem followF_ok (l : List SetD) (ty cls : Int) : ∀ (n : Nat) (here : List UInt8) (seen : List (List UInt8)) (path : List SetD), n + path.length = 9 → path.length ≤ 8 → FP l ty cls path here (followF l ty cls n here seen path)
  | 0, here, seen, path, h, h8 => absurd h (by omega)
  | n + 1, here, seen, path, h, h8 => by
    simp only [followF]
    by_cases h5 : ty = 5
    · rw [if_pos h5]
      exact ⟨fun h => absurd rfl h, fun _ => rfl, fun _ => rfl, fun _ h => absurd h5 h⟩
    · rw [if_neg h5]
      rcases hf : findS l here 5 cls with _ | a
      · exact ⟨fun h => absurd rfl h, fun h => absurd h h5, fun _ => rfl, fun _ _ => hf⟩
      · dsimp only
        by_cases hp : path.length = 8
        · rw [if_pos hp]; exact FP.bad (by omega) h5
        · rw [if_neg hp]
          rcases ht : targetS a with _ | next
          · exact FP.bad (by omega) h5
          · dsimp only
            by_cases hb : (findS l here ty cls).isSome = true
            · rw [if_pos hb]; exact FP.bad (by omega) h5
            · rw [if_neg hb]
              by_cases hc : seen.contains next = true
              · rw [if_pos hc]; exact FP.bad (by omega) h5
              · rw [if_neg hc]
                have ih := followF_ok l ty cls n next (seen ++ [next]) (path ++ [a]) (by simp; omega) (by simp; omega)
                exact ⟨ih.1, fun h => absurd h h5, ih.2.2.1, ih.2.2.2⟩
theorem follow_ok (l : List SetD) (n : List UInt8) (ty cls : Int) : FolOk l n ty cls (followOf n ty cls l) := by
  unfold followOf
  split
  · obtain ⟨h1, h2, h3, h4⟩ := followF_ok l ty cls 9 (fold n) [fold n] [] rfl (by simp)
    refine ⟨h1, fun h => .inl (by rw [h2 h]), h3, h4, fun _ h => by rw [h2 h]; exact ⟨rfl, rfl⟩⟩
  · exact ⟨fun _ => ⟨rfl, rfl, rfl⟩, fun _ => .inr rfl, (fun h => by cases h), (fun h => by cases h), (fun h => by cases h)⟩
theorem followF_here (l : List SetD) (ty cls : Int) : ∀ (n : Nat) (here : List UInt8) (seen : List (List UInt8)) (path : List SetD), here.length ≤ 255 → (followF l ty cls n here seen path).here.length ≤ 255
  | 0, _, _, _, _ => by simp [followF, FolR.bad]
  | n + 1, here, seen, path, h => by
    simp only [followF]
    split
    · exact h
    · split
      · exact h
      · split
        · simp [FolR.bad]
        · split
          · simp [FolR.bad]
          · rename_i next ht
            split
            · simp [FolR.bad]
            · split
              · simp [FolR.bad]
              · exact followF_here l ty cls n next _ _ (targetS_le _ _ ht)
theorem follow_here (n : List UInt8) (ty cls : Int) (l : List SetD) : (followOf n ty cls l).here.length ≤ 255 := by
  unfold followOf
  split
  · exact followF_here l ty cls 9 _ _ _ (fold_le n)
  · simp [FolR.bad]
end Go.Proofs.YthdlgmfeicikpaaGreatDoor
namespace Go.Proofs.YthdlgmfeicikpaaGreatDoor
set_option linter.unusedSimpArgs false
set_option linter.unusedVariables false

/-- The sets of a chain, one by one, from a name to where it ends. -/
def Way (l : List SetD) (cls : Int) : List UInt8 → List (List UInt8) → List SetD → List UInt8 → Prop
  | here, _, [], at_ => here = at_
  | here, seen, a :: rest, at_ => findS l here 5 cls = some a ∧ a.name = here ∧ ∃ d, a.data = [d] ∧ seen.contains d = false ∧ Way l cls d (seen ++ [d]) rest at_
theorem target_datum {s : SetD} {next : List UInt8} (h : targetS s = some next) : ∃ d, s.data = [d] ∧ may d = true ∧ next = fold d := by
  unfold targetS at h
  split at h
  · rename_i d hd
    refine ⟨d, hd, ?_⟩
    rw [rnames_name (by simp)] at h
    by_cases hm : may d = true
    · rw [if_pos hm] at h
      simp only [Option.some.injEq] at h
      exact ⟨hm, h.symm⟩
    · rw [if_neg hm] at h; simp at h
  · cases h
theorem find_same {l : List SetD} {n : List UInt8} {k c : Int} {s : SetD} (h : findS l n k c = some s) : s.typ = k ∧ s.cls = c ∧ low s.name = low n := by
  have := List.find?_some h
  unfold hitS sameN at this
  simp only [Bool.and_eq_true, beq_iff_eq] at this
  exact ⟨this.1.1, this.1.2, this.2.2⟩
theorem followF_way (l : List SetD) (ty cls : Int) (hname : ∀ s ∈ l, low s.name = s.name) (hdat : ∀ s ∈ l, s.typ = 5 → ∀ d ∈ s.data, may d = true → fold d = d) :
    ∀ (n : Nat) (here : List UInt8) (seen : List (List UInt8)) (path : List SetD), n + path.length = 9 → path.length ≤ 8 → low here = here → (followF l ty cls n here seen path).err = 0 →
      ∃ more, (followF l ty cls n here seen path).path = path ++ more ∧ path.length + more.length ≤ 8 ∧ Way l cls here seen more (followF l ty cls n here seen path).here
  | 0, here, seen, path, h, h8, _, _ => absurd h (by omega)
  | n + 1, here, seen, path, h, h8, hh, he => by
    simp only [followF] at he ⊢
    by_cases h5 : ty = 5
    · rw [if_pos h5] at he ⊢
      exact ⟨[], by simp, by simpa using h8, rfl⟩
    · rw [if_neg h5] at he ⊢
      rcases hf : findS l here 5 cls with _ | a
      · exact ⟨[], by simp, by simpa using h8, rfl⟩
      · rw [hf] at he
        dsimp only at he ⊢
        by_cases hp : path.length = 8
        · rw [if_pos hp] at he; cases he
        · rw [if_neg hp] at he ⊢
          rcases ht : targetS a with _ | next
          · rw [ht] at he; cases he
          · rw [ht] at he
            dsimp only at he ⊢
            by_cases hb : (findS l here ty cls).isSome = true
            · rw [if_pos hb] at he; cases he
            · rw [if_neg hb] at he ⊢
              by_cases hc : seen.contains next = true
              · rw [if_pos hc] at he; cases he
              · rw [if_neg hc] at he ⊢
                have hfs := find_same hf
                have ham := findS_mem hf
                obtain ⟨d, hd1, hd2, hd3⟩ := target_datum ht
                have hdf : fold d = d := hdat a ham hfs.1 d (by rw [hd1]; simp) hd2
                rw [hdf] at hd3
                subst hd3
                have hlow : low next = next := by
                  have : fold next = low next := by unfold fold; rw [if_pos hd2]
                  rw [← this]; exact hdf
                obtain ⟨more, h1, h2, h3⟩ := followF_way l ty cls hname hdat n next (seen ++ [next]) (path ++ [a]) (by simp; omega) (by simp; omega) hlow he
                refine ⟨a :: more, by rw [h1]; simp, by simp at h2 ⊢; omega, hf, ?_, next, hd1, by simpa using hc, h3⟩
                rw [← hname a ham, hfs.2.2, hh]
end Go.Proofs.YthdlgmfeicikpaaGreatDoor
namespace Go.Proofs.YthdlgmfeicikpaaGreatDoor
set_option linter.unusedSimpArgs false
set_option linter.unusedVariables false

theorem group_names {l : List RecD} (hB : ∀ r ∈ l, (0 ≤ r.typ ∧ r.typ ≤ 65535) ∧ (0 ≤ r.cls ∧ r.cls ≤ 65535)) : ∀ s ∈ groupR l, may s.name = true ∧ low s.name = s.name := by
  intro s hs
  have hm := selF_mem _ _ _ hs
  rw [← clean_raw l l.length (Nat.le_refl _)] at hm
  obtain ⟨t, ht, rfl⟩ := List.mem_map.1 hm
  obtain ⟨B, hBB⟩ : ∃ B, ∀ r ∈ l, r.data.length ≤ B := by
    clear hs hm ht hB
    induction l with
    | nil => exact ⟨0, by simp⟩
    | cons a l ih =>
      obtain ⟨B, hB⟩ := ih
      exact ⟨max B a.data.length, fun r hr => by
        rcases List.mem_cons.1 hr with rfl | h
        · omega
        · have := hB r h; omega⟩
  exact (rawTo_bd l B (fun r hr => ⟨hBB r hr, hB r hr⟩) l.length (Nat.le_refl _) t ht).1
theorem groupTo_src (l : List RecD) : ∀ k, k ≤ l.length → ∀ s ∈ groupTo l k, ∀ d ∈ s.data, ∃ y, rmay s.typ y = true ∧ d = rfold s.typ y
  | 0, _ => by simp [groupTo]
  | k + 1, h => by
    rw [groupTo_step l k (by omega)]
    have ih := groupTo_src l k (by omega)
    intro s hs d hd
    unfold addR at hs
    split at hs
    · rename_i hok
      have hrm : rmay l[k].typ l[k].data = true := by unfold okRec at hok; simp only [Bool.and_eq_true] at hok; exact hok.2
      split at hs
      · rcases List.mem_append.1 hs with h1 | h1
        · exact ih s h1 d hd
        · rw [List.mem_singleton] at h1; subst h1
          simp only [List.mem_singleton] at hd
          exact ⟨l[k].data, hrm, hd⟩
      · rename_i hge
        obtain ⟨t, ht, hkt⟩ := atTo_ge _ (Nat.le_refl _) (show 0 ≤ atTo (keyM (fold l[k].name) l[k].typ l[k].cls) (groupTo l k) (groupTo l k).length by omega)
        obtain ⟨i, hi, rfl⟩ := List.getElem_of_mem hs
        rw [List.getElem_modify] at hd ⊢
        rw [List.length_modify] at hi
        split at hd
        · rename_i e
          rw [if_pos e] at *
          have hti : t = (groupTo l k)[i] := by
            rw [e, List.getElem?_eq_getElem hi] at ht
            injection ht with ht; exact ht.symm
          have hty : (groupTo l k)[i].typ = l[k].typ := by
            rw [keyM_iff] at hkt
            rw [← hti]
            simp only [keyT, Prod.mk.injEq] at hkt
            exact hkt.2.1
          rcases putS_mem hd with h2 | h2
          · exact ih _ (List.getElem_mem hi) d h2
          · exact ⟨l[k].data, by show rmay (groupTo l k)[i].typ _ = true; rw [hty]; exact hrm, by show d = rfold (groupTo l k)[i].typ _; rw [hty]; exact h2⟩
        · rename_i e
          rw [if_neg e]
          exact ih _ (List.getElem_mem hi) d hd
    · exact ih s hs d hd
theorem rfold_name {k : Int} (hk : k = 2 ∨ k = 5 ∨ k = 12) {y : List UInt8} (h : rmay k y = true) : may y = true ∧ rfold k y = fold y := by
  unfold rmay at h
  rw [wholeOf_name hk] at h
  by_cases hm : may y = true
  · refine ⟨hm, ?_⟩
    unfold rfold partsOf
    rw [wholeOf_name hk, if_pos hm]
    simp
  · rw [if_neg hm] at h; cases h
theorem fold_of_may {n : List UInt8} (h : may n = true) : fold n = low n := by
  unfold fold
  rw [if_pos h]
theorem group_data {l : List RecD} : ∀ s ∈ groupR l, s.typ = 5 → ∀ d ∈ s.data, may d = true → fold d = d := by
  intro s hs ht d hd _
  obtain ⟨y, h1, h2⟩ := groupTo_src l l.length (Nat.le_refl _) s (selF_mem _ _ _ hs) d hd
  rw [ht] at h1 h2
  obtain ⟨hm, hr⟩ := rfold_name (by simp) h1
  rw [h2, hr]
  have hf := fold_may hm
  exact (fold_of_may hf.1).trans hf.2
theorem follow_way (n : List UInt8) (ty cls : Int) (l : List RecD) (hB : ∀ r ∈ l, (0 ≤ r.typ ∧ r.typ ≤ 65535) ∧ (0 ≤ r.cls ∧ r.cls ≤ 65535)) (h : (followOf n ty cls (groupR l)).err = 0) :
    (followOf n ty cls (groupR l)).path.length ≤ 8 ∧ Way (groupR l) cls (fold n) [fold n] (followOf n ty cls (groupR l)).path (followOf n ty cls (groupR l)).here := by
  unfold followOf at *
  by_cases hm : may n = true
  · rw [if_pos hm] at *
    obtain ⟨more, h1, h2, h3⟩ := followF_way (groupR l) ty cls (fun s hs => (group_names hB s hs).2) group_data 9 (fold n) [fold n] [] rfl (by simp) (fold_may hm).2 h
    rw [List.nil_append] at h1
    rw [h1]
    exact ⟨by simpa using h2, h3⟩
  · rw [if_neg hm] at h; cases h
end Go.Proofs.YthdlgmfeicikpaaGreatDoor
