/- Contracts of functions and plain lemmas that the proofs of this seat share (joined texts). No condition. -/
import Derived.Test.YtbmjfjgfognimaaGreatDoorMg1
import Derived.Test.YtbmjfjgfognimaaGreatDoorMu
import Derived.Test.YtbmjfjgfognimaaGreatDoorMu0
import Derived.Test.YtbmjfjgfognimaaGreatDoorMg
import Derived.BigQuiet
namespace Go.Proofs.YtbmjfjgfognimaaGreatDoor
set_option linter.unusedSimpArgs false
set_option linter.unusedVariables false
open Go.RowKit
def backL (L : List SetD) : List RecD := (L.map ttl0).flatMap recsOf
theorem mem_backL {L : List SetD} {x : RecD} : x ∈ backL L ↔ ∃ s ∈ L, ∃ d ∈ s.data, x = ⟨s.name, s.typ, s.cls, 0, d⟩ := by
  unfold backL recsOf
  rw [List.mem_flatMap]
  constructor
  · rintro ⟨t, ht, hx⟩
    obtain ⟨s, hs, rfl⟩ := List.mem_map.1 ht
    obtain ⟨d, hd, rfl⟩ := List.mem_map.1 hx
    exact ⟨s, hs, d, hd, rfl⟩
  · rintro ⟨s, hs, d, hd, rfl⟩
    exact ⟨ttl0 s, List.mem_map.2 ⟨s, hs, rfl⟩, List.mem_map.2 ⟨d, hd, rfl⟩⟩
theorem back_key {l : List RecD} {s : SetD} (hs : s ∈ groupR l) {d : List UInt8} (hd : d ∈ s.data) : okRec ⟨s.name, s.typ, s.cls, 0, d⟩ = true ∧ recK ⟨s.name, s.typ, s.cls, 0, d⟩ = keyT s := by
  have hn := group_name hs
  have hd' := group_folded hs hd
  refine ⟨by unfold okRec; dsimp only; rw [hn.1, hd'.1]; rfl, ?_⟩
  unfold recK keyT fold
  dsimp only
  rw [if_pos hn.1, hn.2]
theorem group_uniq {l : List RecD} {s t : SetD} (hs : s ∈ groupR l) (ht : t ∈ groupR l) (e : keyT s = keyT t) : s = t := by
  rw [((group_mem l s).1 hs).2, ((group_mem l t).1 ht).2, e]
theorem back_ofK {l : List RecD} {L : List SetD} (hL : ∀ s ∈ L, s ∈ groupR l) {s : SetD} (hs : s ∈ L) (x : RecD) : x ∈ ofK (backL L) (keyT s) ↔ ∃ d ∈ s.data, x = ⟨s.name, s.typ, s.cls, 0, d⟩ := by
  rw [mem_ofK]
  constructor
  · rintro ⟨h1, _, h3⟩
    obtain ⟨t, ht, d, hd, rfl⟩ := mem_backL.1 h1
    have e := group_uniq (hL t ht) (hL s hs) ((back_key (hL t ht) hd).2.symm.trans h3)
    subst e
    exact ⟨d, hd, rfl⟩
  · rintro ⟨d, hd, rfl⟩
    exact ⟨mem_backL.2 ⟨s, hs, d, hd, rfl⟩, back_key (hL s hs) hd⟩
theorem back_set {l : List RecD} {L : List SetD} (hL : ∀ s ∈ L, s ∈ groupR l) {s : SetD} (hs : s ∈ L) : ofK (backL L) (keyT s) ≠ [] ∧ setK (backL L) (keyT s) = ttl0 s := by
  have hof := back_ofK hL hs
  obtain ⟨d0, hd0⟩ := List.exists_mem_of_ne_nil _ (group_some (hL s hs))
  refine ⟨List.ne_nil_of_mem ((hof _).2 ⟨d0, hd0, rfl⟩), ?_⟩
  have h1 : minT (ofK (backL L) (keyT s)) = 0 := by
    have h2 := (minT_le (ofK (backL L) (keyT s))).2 _ ((hof _).2 ⟨d0, hd0, rfl⟩)
    have ht : timeT 0 = 0 := rfl
    dsimp only at h2
    rcases minT_in (ofK (backL L) (keyT s)) with h3 | ⟨x, hx, h3⟩
    · omega
    · obtain ⟨d', _, rfl⟩ := (hof x).1 hx
      dsimp only at h3
      omega
  have h2 : datT (ofK (backL L) (keyT s)) = s.data := by
    refine asc_ext (canon_asc _) (group_asc (hL s hs)) (fun d => ?_)
    unfold datT
    rw [mem_canon, List.mem_map]
    constructor
    · rintro ⟨x, hx, rfl⟩
      obtain ⟨d', hd', rfl⟩ := (hof x).1 hx
      dsimp only
      rw [(group_folded (hL s hs) hd').2]; exact hd'
    · intro hd
      exact ⟨_, (hof _).2 ⟨d, hd, rfl⟩, (group_folded (hL s hs) hd).2⟩
  unfold setK
  rw [h1, h2]
  rfl
theorem back_mem {l : List RecD} {L : List SetD} (hL : ∀ s ∈ L, s ∈ groupR l) (x : SetD) : x ∈ groupR (backL L) ↔ x ∈ L.map ttl0 := by
  rw [group_mem]
  constructor
  · rintro ⟨h1, h2⟩
    obtain ⟨y, hy⟩ := List.exists_mem_of_ne_nil _ h1
    obtain ⟨hym, _, hk⟩ := mem_ofK.1 hy
    obtain ⟨t, ht, d, hd, rfl⟩ := mem_backL.1 hym
    rw [← hk, (back_key (hL t ht) hd).2, (back_set hL ht).2] at h2
    rw [h2]; exact List.mem_map.2 ⟨t, ht, rfl⟩
  · intro hx
    obtain ⟨s, hs, rfl⟩ := List.mem_map.1 hx
    have hk : keyT (ttl0 s) = keyT s := rfl
    rw [hk]
    exact ⟨(back_set hL hs).1, (back_set hL hs).2.symm⟩
theorem back_find {l : List RecD} {L : List SetD} (hL : ∀ s ∈ L, s ∈ groupR l) {x : List UInt8} {k c : Int} {s : SetD} (h : findS (groupR l) x k c = some s) (hs : s ∈ L) : findS (groupR (backL L)) x k c = some (ttl0 s) := by
  by_cases hm : may x = true
  · have hf := find_group l x k c hm
    rw [h] at hf
    split at hf
    · cases hf
    · injection hf with hf
      have hk : keyT s = (low x, k, c) := by rw [hf]; rfl
      rw [find_group _ x k c hm, ← hk, if_neg (back_set hL hs).1, (back_set hL hs).2]
  · rw [find_bad _ x k c (by simpa using hm)] at h; cases h
theorem back_none {l : List RecD} {L : List SetD} (hL : ∀ s ∈ L, s ∈ groupR l) {x : List UInt8} {k c : Int} (h : findS (groupR l) x k c = none) : findS (groupR (backL L)) x k c = none := by
  by_cases hm : may x = true
  · have hf := find_group l x k c hm
    rw [h] at hf
    rw [find_group _ x k c hm]
    split at hf
    · rename_i h0
      rw [if_pos]
      rcases he : ofK (backL L) (low x, k, c) with _ | ⟨y, r⟩
      · rfl
      · exfalso
        obtain ⟨hym, _, hk⟩ := mem_ofK.1 (show y ∈ ofK (backL L) (low x, k, c) by rw [he]; simp)
        obtain ⟨t, ht, d, hd, rfl⟩ := mem_backL.1 hym
        rw [(back_key (hL t ht) hd).2] at hk
        have := ((group_mem l t).1 (hL t ht)).1
        rw [hk] at this
        exact this h0
    · cases hf
  · exact find_bad _ x k c (by simpa using hm)
theorem ttlF_ttl0 : TtlF ttl0 := fun s => rfl
theorem followF_pre (l : List SetD) (ty cls : Int) : ∀ (n : Nat) (here : List UInt8) (seen : List (List UInt8)) (path : List SetD), n + path.length = 9 → path.length ≤ 8 → (followF l ty cls n here seen path).err = 0 → ∃ more, (followF l ty cls n here seen path).path = path ++ more ∧ (∀ s ∈ more, s.typ = 5 ∧ ty ≠ 5) ∧ ∀ s ∈ (followF l ty cls n here seen path).fin, s.typ = ty
  | 0, here, seen, path, h, h8, _ => absurd h (by omega)
  | n + 1, here, seen, path, h, h8, he => by
    have hfin : ∀ s ∈ (findS l here ty cls).toList, s.typ = ty := fun s hs => by
      rcases hf : findS l here ty cls with _ | x
      · rw [hf] at hs; cases hs
      · rw [hf, Option.toList_some, List.mem_singleton] at hs
        subst hs; exact (find_same hf).1
    simp only [followF] at he ⊢
    by_cases h5 : ty = 5
    · rw [if_pos h5]; exact ⟨[], by simp, by simp, hfin⟩
    · rw [if_neg h5] at he ⊢
      rcases hf : findS l here 5 cls with _ | a
      · exact ⟨[], by simp, by simp, hfin⟩
      · rw [hf] at he
        dsimp only at he ⊢
        by_cases hp : path.length = 8
        · rw [if_pos hp] at he; cases he
        · rw [if_neg hp] at he ⊢
          rcases ht : targetS a with _ | next
          · rw [ht] at he; cases he
          · rw [ht] at he
            dsimp only at he ⊢
            by_cases hb : (findS l here ty cls).isSome = true
            · rw [if_pos hb] at he; cases he
            · rw [if_neg hb] at he ⊢
              by_cases hc : seen.contains next = true
              · rw [if_pos hc] at he; cases he
              · rw [if_neg hc] at he ⊢
                obtain ⟨more, h1, h2, h3⟩ := followF_pre l ty cls n next (seen ++ [next]) (path ++ [a]) (by simp; omega) (by simp; omega) he
                refine ⟨a :: more, by rw [h1]; simp, fun s hs => ?_, h3⟩
                rcases List.mem_cons.1 hs with rfl | hs
                · exact ⟨(find_same hf).1, h5⟩
                · exact h2 s hs
theorem followF_sub (l m L : List SetD) (ty cls : Int) (h1 : ∀ x k c s, findS l x k c = some s → s ∈ L → findS m x k c = some (ttl0 s)) (h2 : ∀ x k c, findS l x k c = none → findS m x k c = none) :
    ∀ (n : Nat) (here : List UInt8) (seen : List (List UInt8)) (path : List SetD), n + path.length = 9 → path.length ≤ 8 → (followF l ty cls n here seen path).err = 0 →
      (∀ s ∈ (followF l ty cls n here seen path).path, s ∈ L) → (∀ s ∈ (followF l ty cls n here seen path).fin, s ∈ L) → followF m ty cls n here seen (path.map ttl0) = (followF l ty cls n here seen path).mapT ttl0
  | 0, here, seen, path, h, h8, _, _, _ => absurd h (by omega)
  | n + 1, here, seen, path, h, h8, he, hm1, hm2 => by
    have hfin : (∀ s ∈ (findS l here ty cls).toList, s ∈ L) → (findS m here ty cls).toList = ((findS l here ty cls).toList).map ttl0 := fun hs => by
      rcases hf : findS l here ty cls with _ | x
      · rw [h2 _ _ _ hf]; rfl
      · rw [h1 _ _ _ _ hf (hs x (by rw [hf]; simp))]; rfl
    simp only [followF] at he hm1 hm2 ⊢
    by_cases h5 : ty = 5
    · rw [if_pos h5] at hm1 hm2
      rw [if_pos h5, if_pos h5, hfin hm2]; rfl
    · rw [if_neg h5] at he hm1 hm2
      rw [if_neg h5, if_neg h5]
      rcases hf : findS l here 5 cls with _ | a
      · rw [hf] at he hm1 hm2
        rw [h2 _ _ _ hf]
        dsimp only at hm2 ⊢
        rw [hfin hm2]; rfl
      · rw [hf] at he hm1 hm2
        dsimp only at he hm1 hm2 ⊢
        by_cases hp : path.length = 8
        · rw [if_pos hp] at he; cases he
        · rw [if_neg hp] at he hm1 hm2
          rcases ht : targetS a with _ | next
          · rw [ht] at he; cases he
          · rw [ht] at he hm1 hm2
            dsimp only at he hm1 hm2
            by_cases hb : (findS l here ty cls).isSome = true
            · rw [if_pos hb] at he; cases he
            · rw [if_neg hb] at he hm1 hm2
              by_cases hc : seen.contains next = true
              · rw [if_pos hc] at he; cases he
              · rw [if_neg hc] at he hm1 hm2
                obtain ⟨more, e1, _, _⟩ := followF_pre l ty cls n next (seen ++ [next]) (path ++ [a]) (by simp; omega) (by simp; omega) he
                have haL : a ∈ L := hm1 a (by rw [e1]; simp)
                have hnn : findS l here ty cls = none := by
                  rcases hx : findS l here ty cls with _ | x
                  · rfl
                  · rw [hx] at hb; exact absurd rfl hb
                rw [h1 _ _ _ _ hf haL]
                dsimp only
                rw [List.length_map, if_neg hp, if_neg hp, ttlF_ttl0.target, ht]
                dsimp only
                rw [h2 _ _ _ hnn, hnn, if_neg (show ¬ ((none : Option SetD).isSome = true) by simp), if_neg (show ¬ ((none : Option SetD).isSome = true) by simp), if_neg hc, if_neg hc]
                have := followF_sub l m L ty cls h1 h2 n next (seen ++ [next]) (path ++ [a]) (by simp; omega) (by simp; omega) he hm1 hm2
                rw [List.map_append] at this
                exact this
theorem follow_sub {l : List RecD} {n : List UInt8} {ty cls : Int} (he : (followOf n ty cls (groupR l)).err = 0) :
    followOf n ty cls (groupR (backL ((followOf n ty cls (groupR l)).path ++ (followOf n ty cls (groupR l)).fin))) = (followOf n ty cls (groupR l)).mapT ttl0 := by
  have hi := follow_in (groupR l) n ty cls
  unfold followOf at he hi ⊢
  by_cases hm : may n = true
  · rw [if_pos hm] at he hi
    rw [if_pos hm, if_pos hm]
    have hL : ∀ s ∈ (followF (groupR l) ty cls 9 (fold n) [fold n] []).path ++ (followF (groupR l) ty cls 9 (fold n) [fold n] []).fin, s ∈ groupR l := fun s hs => by
      rcases List.mem_append.1 hs with h | h
      · exact hi.path s h
      · exact hi.fin s h
    exact followF_sub (groupR l) _ ((followF (groupR l) ty cls 9 (fold n) [fold n] []).path ++ (followF (groupR l) ty cls 9 (fold n) [fold n] []).fin) ty cls (fun x k c s h hs => back_find hL h hs) (fun x k c h => back_none hL h) 9 (fold n) [fold n] [] rfl (by simp) he
      (fun s hs => List.mem_append.2 (.inl hs)) (fun s hs => List.mem_append.2 (.inr hs))
  · rw [if_neg hm] at he; cases he
theorem soa_back {auth : List RecD} {here : List UInt8} {cls : Int} {s : SetD} (h : (soaFind (groupR auth) here cls).set = some s) : soaFind (groupR (backL [s])) here cls = ⟨some (ttl0 s), 0⟩ := by
  obtain ⟨h1, h2, h3⟩ := soa_mem h
  have e : groupR (backL [s]) = [ttl0 s] := by
    refine rise_ext (group_rise _) (by unfold RiseS; simp) (fun x => ?_)
    rw [back_mem (l := auth) (fun t ht => by rw [List.mem_singleton] at ht; subst ht; exact h1)]
    rfl
  rw [e]
  have hf : fitsB here cls (ttl0 s) = true := h2
  have hb : bestTo [ttl0 s] here cls 1 = some (0, ttl0 s) := by
    show (if fitsB here cls (ttl0 s) then some (0, ttl0 s) else none) = _
    rw [if_pos hf]
  show soaOf (bestTo [ttl0 s] here cls 1) = _
  rw [hb]
  exact if_pos h3
structure VerParts (n : List UInt8) (ty cls code : Int) (ans auth : List RecD) (R : VerR) : Prop where
  fol : (followOf n ty cls (groupR ans)).err = 0
  code : R.code = code
  sets : R.sets = ((followOf n ty cls (groupR ans)).path ++ (followOf n ty cls (groupR ans)).fin).map ttl0
  one : R.soa.length ≤ 1
  ends : (endV ty R.sets).isSome = decide ((followOf n ty cls (groupR ans)).fin.length = 1)
  soaN : (endV ty R.sets).isSome = true → R.soa = [] ∧ R.code ≠ 3
  soa0 : ∀ s ∈ R.soa, s.ttl = 0
  back : (verOf n ty cls R.code (R.sets.flatMap recsOf) (R.soa.flatMap recsOf)).same R
theorem ttl0_ttl0 (l : List SetD) : (l.map ttl0).map ttl0 = l.map ttl0 := by rw [List.map_map]; rfl
theorem endV_end {ty : Int} {P F : List SetD} (hP : ∀ s ∈ P, s.typ = 5 ∧ ty ≠ 5) (hF : ∀ s ∈ F, s.typ = ty) (h1 : F.length ≤ 1) : (endV ty ((P ++ F).map ttl0)).isSome = decide (F.length = 1) := by
  unfold endV
  rcases F with _ | ⟨x, F⟩
  · rw [List.append_nil, List.getLast?_map]
    rcases hl : P.getLast? with _ | y
    · rfl
    · have hy := hP y (List.mem_of_getLast? hl)
      rw [Option.map_some]
      dsimp only
      rw [if_neg (by show y.typ ≠ ty; rw [hy.1]; exact fun e => hy.2 e.symm)]; rfl
  · have e : F = [] := by
      cases F with
      | nil => rfl
      | cons _ _ => simp at h1
    subst e
    rw [List.map_append, List.map_cons, List.map_nil, List.getLast?_concat]
    dsimp only
    rw [if_pos (show (ttl0 x).typ = ty from hF x (by simp))]; rfl
theorem ver_parts {n : List UInt8} {ty cls code : Int} {ans auth : List RecD} (he : (verOf n ty cls code ans auth).err = 0) : VerParts n ty cls code ans auth (verOf n ty cls code ans auth) := by
  by_cases hc : may n = true ∧ (code = 0 ∨ code = 3)
  · have hv : verOf n ty cls code ans auth = verFol code cls auth (followOf n ty cls (groupR ans)) := if_pos hc
    rw [hv] at he ⊢
    have hi := follow_in (groupR ans) n ty cls
    by_cases hr : (followOf n ty cls (groupR ans)).err = 0
    · have hsub := follow_sub hr
      have hpre : (∀ s ∈ (followOf n ty cls (groupR ans)).path, s.typ = 5 ∧ ty ≠ 5) ∧ ∀ s ∈ (followOf n ty cls (groupR ans)).fin, s.typ = ty := by
        unfold followOf at hr ⊢
        rw [if_pos hc.1] at hr ⊢
        obtain ⟨more, e1, e2, e3⟩ := followF_pre (groupR ans) ty cls 9 (fold n) [fold n] [] rfl (by simp) hr
        rw [e1, List.nil_append]
        exact ⟨e2, e3⟩
      have hend := endV_end hpre.1 hpre.2 hi.one
      have hcode : ∀ A B, verOf n ty cls code A B = verFol code cls B (followOf n ty cls (groupR A)) := fun A B => if_pos hc
      generalize hR : followOf n ty cls (groupR ans) = R at *
      have hone := hi.one
      unfold verFol at he ⊢
      rw [if_pos hr] at he ⊢
      by_cases hf : R.fin = []
      · rw [if_pos hf] at he ⊢
        unfold verSoa at he ⊢
        by_cases hs : (soaFind (groupR auth) R.here cls).err = 0
        · rw [if_pos hs] at he ⊢
          have hbk : ∀ B, verOf n ty cls code ((R.path.map ttl0).flatMap recsOf) B = verSoa code (R.path.map ttl0) (soaFind (groupR B) R.here cls) := fun B => by
            have e0 : (R.path.map ttl0).flatMap recsOf = backL (R.path ++ R.fin) := by rw [hf, List.append_nil]; rfl
            rw [hcode, e0, hsub]
            unfold verFol FolR.mapT
            dsimp only
            rw [if_pos hr, if_pos (by rw [hf]; rfl)]
          rw [hf, List.append_nil] at hend
          rcases hset : (soaFind (groupR auth) R.here cls).set with _ | s
          · refine ⟨by rw [hR]; exact hr, rfl, by rw [hR, hf, List.append_nil], by simp, by rw [hR, hf]; exact hend, fun h => ?_, by simp, ?_⟩
            · rw [hend] at h; simp at h
            · dsimp only
              rw [hbk]
              exact ⟨rfl, ttl0_ttl0 _, rfl, rfl⟩
          · refine ⟨by rw [hR]; exact hr, rfl, by rw [hR, hf, List.append_nil], by simp, by rw [hR, hf]; exact hend, fun h => ?_, fun t ht => by rw [List.mem_singleton] at ht; subst ht; rfl, ?_⟩
            · rw [hend] at h; simp at h
            · dsimp only
              rw [hbk]
              have e1 : [ttl0 s].flatMap recsOf = backL [s] := rfl
              rw [e1, soa_back hset]
              exact ⟨rfl, ttl0_ttl0 _, rfl, rfl⟩
        · rw [if_neg hs] at he; exact absurd he hs
      · rw [if_neg hf] at he ⊢
        unfold verEnd at he ⊢
        by_cases h3 : code = 3
        · rw [if_pos h3] at he; cases he
        · rw [if_neg h3] at he ⊢
          refine ⟨by rw [hR]; exact hr, rfl, by rw [hR], by simp, by rw [hR]; exact hend, fun _ => ⟨rfl, h3⟩, by simp, ?_⟩
          dsimp only
          rw [hcode]
          have e1 : ((R.path ++ R.fin).map ttl0).flatMap recsOf = backL (R.path ++ R.fin) := rfl
          rw [e1, hsub]
          unfold verFol FolR.mapT
          dsimp only
          rw [if_pos hr, if_neg (by rw [List.map_eq_nil_iff]; exact hf)]
          unfold verEnd
          rw [if_neg h3, ← List.map_append]
          exact ⟨rfl, ttl0_ttl0 _, rfl, rfl⟩
    · unfold verFol at he
      rw [if_neg hr] at he; exact absurd he hr
  · have hv : verOf n ty cls code ans auth = VerR.bad 1 := if_neg hc
    rw [hv] at he; cases he
end Go.Proofs.YtbmjfjgfognimaaGreatDoor
namespace Go.Proofs.YtbmjfjgfognimaaGreatDoor
set_option linter.unusedSimpArgs false
set_option linter.unusedVariables false
open Go.RowKit
set_option maxRecDepth 100000
theorem endV_last {ty : Int} {ss : List SetD} {m : Nat} (h : ss.length = m + 1) (s : SetD) (hs : ss[m]? = some s) : endV ty ss = if s.typ = ty then some s else none := by
  unfold endV
  have e : ss.getLast? = some s := by rw [List.getLast?_eq_getElem?, h]; exact hs
  rw [e]
set_option maxHeartbeats 2000000 in
theorem ver_end (n : List UInt8) (ty cls code : Int) (lo : Nat) (vs : Value) (ss : List SetD) (uA : Option Addr) (un uc : Nat) (w : World) (hv : Sets w lo vs ss) (hbd : SetsBd ss) :
    Calls Tryz.prog 50 #[.agg #[S n, .int .u16 ty, .int .u16 cls], .agg #[.int .u8 code, vs, .slice uA un uc]] w (FindPost (endV ty ss) w) := by
  obtain ⟨ps, A, c, hl, rfl, h1, h2, hrd, hst⟩ := hv
  unfold maxLen at h2
  have hlen : ps.length = ss.length := by rw [← hl]; simp
  obtain ⟨R, hR⟩ : ∃ R, R = endV ty ss := ⟨_, rfl⟩
  rw [← hR]
  have HR := Lib.hid hR
  clear hR
  obtain ⟨N, hN⟩ : ∃ N, ps.length = N := ⟨_, rfl⟩
  rw [hN] at h1 hrd hlen ⊢
  obtain ⟨X, hX⟩ : ∃ X, X = ((w.alloc (.cells #[S n, .int .u16 ty, .int .u16 cls] 32)).alloc (.cells #[.int .u8 code, .slice A N c, .slice uA un uc] 24)).alloc (.cells #[S [], .int .u16 0, .int .u16 0, .int .u32 0, .slice none 0 0] 54) := ⟨_, rfl⟩
  obtain ⟨kq, _, zq⟩ := ext_new_at (w.heap.size) rfl (((Ext.refl (w.alloc (.cells #[S n, .int .u16 ty, .int .u16 cls] 32))).alloc (.cells #[.int .u8 code, .slice A N c, .slice uA un uc] 24)).alloc (.cells #[S [], .int .u16 0, .int .u16 0, .int .u32 0, .slice none 0 0] 54))
  obtain ⟨kv, _, zv⟩ := ext_new_at (w.heap.size + 1) (by simp) ((Ext.refl ((w.alloc (.cells #[S n, .int .u16 ty, .int .u16 cls] 32)).alloc (.cells #[.int .u8 code, .slice A N c, .slice uA un uc] 24))).alloc (.cells #[S [], .int .u16 0, .int .u16 0, .int .u32 0, .slice none 0 0] 54))
  obtain ⟨kr, kf, zr⟩ := ext_new_at (w.heap.size + 1 + 1) (by simp) (Ext.refl (((w.alloc (.cells #[S n, .int .u16 ty, .int .u16 cls] 32)).alloc (.cells #[.int .u8 code, .slice A N c, .slice uA un uc] 24)).alloc (.cells #[S [], .int .u16 0, .int .u16 0, .int .u32 0, .slice none 0 0] 54)))
  rw [← hX] at kq zq kv zv kr kf zr
  have hwX : Ext w X := by rw [hX]; exact (((Ext.refl _).alloc _).alloc _).alloc _
  rcases N with _ | m
  · have HF : Hid (R = none) := Lib.hid (by
      rw [HR.out]
      have : ss = [] := List.eq_nil_of_length_eq_zero (by omega)
      rw [this]; rfl)
    clear hlen hl hst hrd h1 kq zq zv hN
    go_enter Tryz.func50, Tryz.ntmps50
    go_upto_region 1 with fail
    rw [← hX]
    clear hX
    go_wp2_with fail
    obtain ⟨Y, hY⟩ : ∃ Y, Y = ((((X.setCell ⟨w.heap.size + 1 + 1, 0, none⟩ (S [])).setCell ⟨w.heap.size + 1 + 1, 1, none⟩ (.int .u16 0)).setCell ⟨w.heap.size + 1 + 1, 2, none⟩ (.int .u16 0)).setCell ⟨w.heap.size + 1 + 1, 3, none⟩ (.int .u32 0)).setCell ⟨w.heap.size + 1 + 1, 4, none⟩ (.slice none 0 0) := ⟨_, rfl⟩
    have hbY := box5 kr (S []) (.int .u16 0) (.int .u16 0) (.int .u32 0) (.slice none 0 0)
    rw [← hY] at hbY
    have hEY : Ext w Y := by rw [hY]; (repeat (first | with_reducible exact Ext.refl _ | with_reducible assumption | with_reducible refine Ext.alloc ?_ _ | with_reducible refine Ext.drewN ?_ _ | with_reducible refine Ext.drew ?_ | (with_reducible refine Ext.setCell ?_ ?hp _; case hp => (simp <;> omega))))
    have hzY : w.heap.size + 1 + 1 < Y.heap.size := by rw [hY]; simpa using zr
    rw [← hY]
    refine bodyPost_ret (v := .tuple #[setVal SetD.zero (.slice none 0 0), .bool false]) (by simp [results, Tryz.results50, go_sem, hbY, hzY, SetD.zero]) rfl ?_
    exact ⟨_, by rw [HF.out]; rfl, by rw [HF.out]; exact ⟨none, 0, rfl, Own.nil _ _ _ _⟩, hEY⟩
  · have hp : ps[m]? = some ps[m] := List.getElem?_eq_getElem (by omega)
    have hstr := hst ps[m] (List.getElem_mem (by omega))
    have hsm : ss[m]? = some ps[m].1 := by have h := congrArg (fun l => l[m]?) hl; simp only [List.getElem?_map, hp] at h; exact h.symm
    have hbs := hbd ps[m].1 (List.mem_of_getElem? hsm)
    have HE := Lib.hid (endV_last (ty := ty) (show ss.length = m + 1 by omega) _ hsm)
    generalize ps[m] = p at *
    obtain ⟨b, off, rfl, _, hbz, hc⟩ := hrd.2 (by omega)
    obtain ⟨c0, c1, c2, c3, c4⟩ := sets_cells hc m p hp
    rw [← hwX.cell (p := ⟨b, _, none⟩) hbz] at c0 c1 c2 c3 c4
    have hbX : b < X.heap.size := Nat.lt_of_lt_of_le hbz hwX.size
    clear hc hp hrd hst hsm hl hlen hN
    obtain ⟨⟨nm, ty1, cl, tt, da⟩, d⟩ := p
    dsimp only at *
    obtain ⟨dA, dc, rfl⟩ := hstr.shape
    have hq1 : ((m : Int) + 1 == 0) = false := by rw [beq_eq_false_iff_ne]; omega
    have hq2 : (m : Int) + 1 - 1 = m := by omega
    have hq3 : (m : Int) < (m : Int) + 1 := by omega
    by_cases hty : ty1 = ty
    · have HF := Lib.hid (HR.out.trans (HE.out.trans (if_pos hty)))
      subst hty
      go_enter Tryz.func50, Tryz.ntmps50
      go_upto_region 1 with fail
      rw [← hX]
      clear hX
      go_wp2_with fail
      refine (sl_clone lo _ da _ ((hstr.ext hwX).ext ((Ext.refl _).alloc _)) hbs.2.1).mono ?_; rintro e w2 ⟨v2, rfl, ⟨dA2, dc2, rfl, ho2⟩, hE2⟩
      obtain ⟨hq, hqf, hqz⟩ := ext_new hE2
      have hX2 : Ext X w2 := ((Ext.refl _).alloc _).trans hE2
      have kr2 : ∀ j, w2.cell? ⟨w.heap.size + 1 + 1, j, none⟩ = _ := fun j => (hX2.cell (p := ⟨_, j, none⟩) zr).trans (kr j)
      have kf2 : ∀ j, w2.frozen? ⟨w.heap.size + 1 + 1, j, none⟩ = false := fun j => (hX2.frozen (p := ⟨_, j, none⟩) zr).trans (kf j)
      have hw2 := hwX.trans hX2
      have zr2 : w.heap.size + 1 + 1 < w2.heap.size := Nat.lt_of_lt_of_le zr hX2.size
      have hz2 : X.heap.size < w2.heap.size := hqz
      have hwXz : w.heap.size < X.heap.size := by omega
      go_wp2_with fail
      refine bodyPost_ret (v := .tuple #[setVal ⟨nm, ty1, cl, tt, da⟩ (.slice dA2 da.length dc2), .bool true]) ?_ rfl ?_
      · simp [results, Tryz.results50, go_sem, kr2, kf2, zr2]
      · refine ⟨_, by rw [HF.out]; rfl, ?_, ?_⟩
        · rw [HF.out]
          refine ⟨dA2, dc2, rfl, Own.lower (lo := X.heap.size + 1) ?_ (by omega)⟩
          repeat (with_reducible refine Own.set_other ?_ ?hp _; case hp => (simp <;> omega))
          exact ho2.lower (by simp)
        · (repeat (first | with_reducible exact Ext.refl _ | with_reducible assumption | with_reducible refine Ext.alloc ?_ _ | with_reducible refine Ext.drewN ?_ _ | with_reducible refine Ext.drew ?_ | (with_reducible refine Ext.setCell ?_ ?hp _; case hp => (simp <;> omega))))
    · have HF := Lib.hid (HR.out.trans (HE.out.trans (if_neg hty)))
      have f1 : (ty1 == ty) = false := by rw [beq_eq_false_iff_ne]; exact hty
      clear hty
      go_enter Tryz.func50, Tryz.ntmps50
      go_upto_region 1 with fail
      rw [← hX]
      clear hX
      go_wp2_with fail
      refine bodyPost_ret (v := .tuple #[setVal SetD.zero (.slice none 0 0), .bool false]) ?_ rfl ?_
      · simp [results, Tryz.results50, go_sem, kr, kf, zr, SetD.zero]
      · refine ⟨_, by rw [HF.out]; rfl, by rw [HF.out]; exact ⟨none, 0, rfl, Own.nil _ _ _ _⟩, ?_⟩
        (repeat (first | with_reducible exact Ext.refl _ | with_reducible assumption | with_reducible refine Ext.alloc ?_ _ | with_reducible refine Ext.drewN ?_ _ | with_reducible refine Ext.drew ?_ | (with_reducible refine Ext.setCell ?_ ?hp _; case hp => (simp <;> omega))))
end Go.Proofs.YtbmjfjgfognimaaGreatDoor
