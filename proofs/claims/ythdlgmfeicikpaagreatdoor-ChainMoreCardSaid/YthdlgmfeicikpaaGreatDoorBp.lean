/- Contracts of functions and plain lemmas that the proofs of this seat share (joined texts). No condition. -/
import Derived.Test.YthdlgmfeicikpaaGreatDoorBj
namespace Go.Proofs.YthdlgmfeicikpaaGreatDoor
set_option linter.unusedSimpArgs false
set_option linter.unusedVariables false
open Go.RowKit

theorem followF_more (l m : List SetD) (ty cls : Int) (hname : ∀ s ∈ l, low s.name = s.name) (hdat : ∀ s ∈ l, s.typ = 5 → ∀ d ∈ s.data, may d = true → fold d = d)
    (M : List UInt8 → Prop) (hM : ∀ x, M x → findS m x 5 cls = findS l x 5 cls ∧ findS m x ty cls = findS l x ty cls) :
    ∀ (n : Nat) (here : List UInt8) (seen : List (List UInt8)) (path : List SetD), n + path.length = 9 → path.length ≤ 8 → low here = here → (followF l ty cls n here seen path).err = 0 →
      M (followF l ty cls n here seen path).here → (∀ s ∈ (followF l ty cls n here seen path).path, M s.name) → followF m ty cls n here seen path = followF l ty cls n here seen path
  | 0, here, seen, path, h, h8, _, _, _, _ => absurd h (by omega)
  | n + 1, here, seen, path, h, h8, hh, he, hm1, hm2 => by
    simp only [followF] at he hm1 hm2 ⊢
    by_cases h5 : ty = 5
    · rw [if_pos h5] at he hm1 hm2
      rw [if_pos h5, if_pos h5]
      rw [(hM _ hm1).2]
    · rw [if_neg h5] at he hm1 hm2
      rw [if_neg h5, if_neg h5]
      rcases hf : findS l here 5 cls with _ | a
      · rw [hf] at he hm1 hm2
        dsimp only at hm1
        rw [(hM _ hm1).1, hf, (hM _ hm1).2]
      · rw [hf] at he hm1 hm2
        dsimp only at he hm1 hm2 ⊢
        by_cases hp : path.length = 8
        · rw [if_pos hp] at he; cases he
        · rw [if_neg hp] at he hm1 hm2
          rcases ht : targetS a with _ | next
          · rw [ht] at he; cases he
          · rw [ht] at he hm1 hm2
            dsimp only at he hm1 hm2
            by_cases hb : (findS l here ty cls).isSome = true
            · rw [if_pos hb] at he; cases he
            · rw [if_neg hb] at he hm1 hm2
              by_cases hc : seen.contains next = true
              · rw [if_pos hc] at he; cases he
              · rw [if_neg hc] at he hm1 hm2
                have hfs := find_same hf
                have ham := findS_mem hf
                obtain ⟨d, hd1, hd2, hd3⟩ := target_datum ht
                have hdf : fold d = d := hdat a ham hfs.1 d (by rw [hd1]; simp) hd2
                rw [hdf] at hd3
                subst hd3
                have hlow : low next = next := by
                  have : fold next = low next := by unfold fold; rw [if_pos hd2]
                  rw [← this]; exact hdf
                obtain ⟨more, h1, h2, h3⟩ := followF_way l ty cls hname hdat n next (seen ++ [next]) (path ++ [a]) (by simp; omega) (by simp; omega) hlow he
                have hMa : M here := by
                  have := hm2 a (by rw [h1]; simp)
                  rwa [← hname a ham, hfs.2.2, hh] at this
                rw [(hM _ hMa).1, hf]
                dsimp only
                rw [if_neg hp, ht]
                dsimp only
                rw [(hM _ hMa).2, if_neg hb, if_neg hc, if_neg hp, if_neg hb, if_neg hc]
                exact followF_more l m ty cls hname hdat M hM n next (seen ++ [next]) (path ++ [a]) (by simp; omega) (by simp; omega) hlow he hm1 hm2

def apartM (met : List (List UInt8)) (x : RecD) : Bool := met.all fun m => !sameN m x.name
def keepM (met : List (List UInt8)) (cls : Int) (x : RecD) : Bool := apartM met x || x.cls != cls
theorem more_ofK {l more : List RecD} {met : List (List UInt8)} {cls : Int} {x : List UInt8} (hx : x ∈ met) (hm : may x = true) (k : Int) : ofK (l ++ more.filter (keepM met cls)) (low x, k, cls) = ofK l (low x, k, cls) := by
  unfold ofK
  rw [List.filter_append]
  have : List.filter (fun x_1 => okRec x_1 && decide (recK x_1 = (low x, k, cls))) (List.filter (keepM met cls) more) = [] := by
    rw [List.filter_eq_nil_iff]
    intro y hy hc
    obtain ⟨_, hk⟩ := List.mem_filter.1 hy
    simp only [Bool.and_eq_true, decide_eq_true_eq] at hc
    obtain ⟨ho, hr⟩ := hc
    have hym : may y.name = true := by unfold okRec at ho; simp only [Bool.and_eq_true] at ho; exact ho.1
    unfold recK at hr
    simp only [Prod.mk.injEq] at hr
    obtain ⟨hn, _, hcl⟩ := hr
    unfold keepM apartM at hk
    rw [hcl] at hk
    simp only [bne_self_eq_false, Bool.or_false, List.all_eq_true] at hk
    have h1 := hk x hx
    rw [fold_of_may hym] at hn
    unfold sameN at h1
    rw [hm, hym, hn] at h1
    simp at h1
  rw [this, List.append_nil]
theorem more_find {l more : List RecD} {met : List (List UInt8)} {cls : Int} {x : List UInt8} (hx : x ∈ met) (k : Int) : findS (groupR (l ++ more.filter (keepM met cls))) x k cls = findS (groupR l) x k cls := by
  rcases hm : may x with _ | _
  · rw [find_bad _ _ _ _ hm, find_bad _ _ _ _ hm]
  · rw [find_group _ _ _ _ hm, find_group _ _ _ _ hm, more_ofK hx hm]
    by_cases h : ofK l (low x, k, cls) = []
    · rw [if_pos h, if_pos h]
    · rw [if_neg h, if_neg h]
      unfold setK
      dsimp only
      rw [more_ofK hx hm]
theorem chain_more (n : List UInt8) (ty cls : Int) (l more : List RecD) (R : FolR) (hR : followOf n ty cls (groupR l) = R) (he : R.err = 0) (met : List (List UInt8)) (hmet : met = R.here :: R.path.map SetD.name) :
    followOf n ty cls (groupR (l ++ more.filter (keepM met cls))) = R := by
  subst hR
  unfold followOf at he hmet ⊢
  by_cases hm : may n = true
  · rw [if_pos hm] at he hmet
    rw [if_pos hm, if_pos hm]
    exact followF_more (groupR l) _ ty cls (fun s hs => (group_name hs).2) group_data (· ∈ met) (fun x hx => ⟨more_find hx 5, more_find hx ty⟩) 9 (fold n) [fold n] [] rfl (by simp) (fold_may hm).2 he
      (by rw [hmet]; simp) (fun s hs => by rw [hmet]; exact List.mem_cons_of_mem _ (List.mem_map.2 ⟨s, hs, rfl⟩))
  · rw [if_neg hm] at he; cases he
end Go.Proofs.YthdlgmfeicikpaaGreatDoor
