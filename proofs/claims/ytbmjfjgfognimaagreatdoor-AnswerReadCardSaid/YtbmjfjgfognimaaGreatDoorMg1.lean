/- Contracts of functions and plain lemmas that the proofs of this seat share (joined texts). No condition. -/
import Derived.Test.YtbmjfjgfognimaaGreatDoorMj
import Derived.Test.YtbmjfjgfognimaaGreatDoorMu
namespace Go.Proofs.YtbmjfjgfognimaaGreatDoor
set_option linter.unusedSimpArgs false
set_option linter.unusedVariables false
open Go.RowKit
def recsOf (s : SetD) : List RecD := s.data.map fun d => ⟨s.name, s.typ, s.cls, s.ttl, d⟩
theorem group_ttl {l : List RecD} {s : SetD} (hs : s ∈ groupR l) : s.ttl = minT (ofK l (keyT s)) ∧ s.ttl ≤ 2147483647 := by
  have := ((group_mem l s).1 hs).2
  have h2 : s.ttl = minT (ofK l (keyT s)) := congrArg SetD.ttl this
  exact ⟨h2, by rw [h2]; exact (minT_le _).1⟩
theorem group_dat {l : List RecD} {s : SetD} (hs : s ∈ groupR l) : s.data = datT (ofK l (keyT s)) := congrArg SetD.data ((group_mem l s).1 hs).2
theorem group_asc {l : List RecD} {s : SetD} (hs : s ∈ groupR l) : Asc s.data := by rw [group_dat hs]; exact canon_asc _
theorem group_in {l : List RecD} {s : SetD} (hs : s ∈ groupR l) {d : List UInt8} : d ∈ s.data ↔ ∃ x ∈ l, okRec x = true ∧ recK x = keyT s ∧ rfold x.typ x.data = d := by
  rw [group_dat hs]
  unfold datT
  rw [mem_canon, List.mem_map]
  constructor
  · rintro ⟨x, hx, rfl⟩
    obtain ⟨h1, h2, h3⟩ := mem_ofK.1 hx
    exact ⟨x, h1, h2, h3, rfl⟩
  · rintro ⟨x, h1, h2, h3, rfl⟩
    exact ⟨x, mem_ofK.2 ⟨h1, h2, h3⟩, rfl⟩
theorem group_some {l : List RecD} {s : SetD} (hs : s ∈ groupR l) : s.data ≠ [] := by
  obtain ⟨x, hx⟩ := List.exists_mem_of_ne_nil _ ((group_mem l s).1 hs).1
  obtain ⟨h1, h2, h3⟩ := mem_ofK.1 hx
  intro e
  have := (group_in hs).2 ⟨x, h1, h2, h3, rfl⟩
  rw [e] at this; simp at this
theorem group_folded {l : List RecD} {s : SetD} (hs : s ∈ groupR l) {d : List UInt8} (hd : d ∈ s.data) : rmay s.typ d = true ∧ rfold s.typ d = d := by
  obtain ⟨x, h1, h2, h3, rfl⟩ := (group_in hs).1 hd
  have ht : x.typ = s.typ := congrArg (fun K : KeyD => K.2.1) h3
  have hm : rmay x.typ x.data = true := by unfold okRec at h2; simp only [Bool.and_eq_true] at h2; exact h2.2
  rw [← ht]
  exact rfold_idem hm
theorem timeT_bd {x : Int} (h : 0 ≤ x) : 0 ≤ timeT x ∧ timeT x ≤ 2147483647 := by unfold timeT; split <;> omega
def strip (r : RecD) : RecD := { r with ttl := 0 }
theorem ofK_strip (l : List RecD) (K : KeyD) : ofK (l.map strip) K = (ofK l K).map strip := by
  unfold ofK
  rw [List.filter_map]
  rfl
theorem datT_strip (l : List RecD) : datT (l.map strip) = datT l := by
  unfold datT
  rw [List.map_map]
  rfl
theorem ofK_other {l m : List RecD} (h : l.map strip = m.map strip) (K : KeyD) : (ofK l K = [] ↔ ofK m K = []) ∧ datT (ofK l K) = datT (ofK m K) := by
  have e : (ofK l K).map strip = (ofK m K).map strip := by rw [← ofK_strip, ← ofK_strip, h]
  constructor
  · rw [← List.map_eq_nil_iff (f := strip), e, List.map_eq_nil_iff]
  · rw [← datT_strip, e, datT_strip]
def timeS (m : List RecD) (s : SetD) : SetD := { s with ttl := minT (ofK m (keyT s)) }
theorem group_other {l m : List RecD} (h : l.map strip = m.map strip) : groupR m = (groupR l).map (timeS m) := by
  refine rise_ext (group_rise m) ?_ (fun x => ?_)
  · unfold RiseS
    rw [List.pairwise_map]
    exact group_rise l
  · rw [group_mem, List.mem_map]
    constructor
    · rintro ⟨h1, h2⟩
      have h3 : ofK l (keyT x) ≠ [] := fun e => h1 ((ofK_other h _).1.1 e)
      refine ⟨setK l (keyT x), (group_mem l _).2 ⟨h3, rfl⟩, ?_⟩
      rw [h2]
      unfold timeS setK
      dsimp only [keyT]
      rw [(ofK_other h _).2]
    · rintro ⟨s, hs, rfl⟩
      obtain ⟨h1, h2⟩ := (group_mem l s).1 hs
      have hk : keyT (timeS m s) = keyT s := rfl
      rw [hk]
      refine ⟨fun e => h1 ((ofK_other h _).1.2 e), ?_⟩
      unfold timeS setK
      rw [← (ofK_other h _).2, ← group_dat hs]
      rfl
def TtlF (f : SetD → SetD) : Prop := ∀ s, f s = { s with ttl := (f s).ttl }
theorem TtlF.name {f : SetD → SetD} (h : TtlF f) (s : SetD) : (f s).name = s.name := by rw [h s]
theorem TtlF.typ {f : SetD → SetD} (h : TtlF f) (s : SetD) : (f s).typ = s.typ := by rw [h s]
theorem TtlF.cls {f : SetD → SetD} (h : TtlF f) (s : SetD) : (f s).cls = s.cls := by rw [h s]
theorem TtlF.data {f : SetD → SetD} (h : TtlF f) (s : SetD) : (f s).data = s.data := by rw [h s]
theorem TtlF.ttl0 {f : SetD → SetD} (h : TtlF f) (s : SetD) : ttl0 (f s) = ttl0 s := by unfold Go.Proofs.YtbmjfjgfognimaaGreatDoor.ttl0; rw [h s]
theorem TtlF.find {f : SetD → SetD} (h : TtlF f) (l : List SetD) (n : List UInt8) (k c : Int) : findS (l.map f) n k c = (findS l n k c).map f := by
  unfold findS
  rw [List.find?_map]
  congr 1
  congr 1
  funext s
  simp only [Function.comp, hitS, h.name, h.typ, h.cls]
theorem TtlF.target {f : SetD → SetD} (h : TtlF f) (s : SetD) : targetS (f s) = targetS s := by unfold targetS; rw [h.data]
theorem toList_map {α β : Type} (f : α → β) (o : Option α) : (o.map f).toList = o.toList.map f := by cases o <;> rfl
def FolR.mapT (f : SetD → SetD) (R : FolR) : FolR := ⟨R.path.map f, R.here, R.fin.map f, R.err⟩
theorem TtlF.followF {f : SetD → SetD} (h : TtlF f) (l : List SetD) (ty cls : Int) : ∀ (n : Nat) (here : List UInt8) (seen : List (List UInt8)) (path : List SetD), Go.Proofs.YtbmjfjgfognimaaGreatDoor.followF (l.map f) ty cls n here seen (path.map f) = (Go.Proofs.YtbmjfjgfognimaaGreatDoor.followF l ty cls n here seen path).mapT f
  | 0, here, seen, path => rfl
  | n + 1, here, seen, path => by
    simp only [Go.Proofs.YtbmjfjgfognimaaGreatDoor.followF]
    rw [h.find, h.find]
    by_cases h5 : ty = 5
    · rw [if_pos h5, if_pos h5, toList_map]; rfl
    · rw [if_neg h5, if_neg h5]
      rcases hf : findS l here 5 cls with _ | a
      · rw [Option.map_none, toList_map]; rfl
      · rw [Option.map_some]
        dsimp only
        rw [List.length_map, h.target]
        by_cases hp : path.length = 8
        · rw [if_pos hp, if_pos hp]; rfl
        · rw [if_neg hp, if_neg hp]
          rcases ht : targetS a with _ | next
          · rfl
          · dsimp only
            rw [Option.isSome_map]
            by_cases hb : (findS l here ty cls).isSome = true
            · rw [if_pos hb, if_pos hb]; rfl
            · rw [if_neg hb, if_neg hb]
              by_cases hc : seen.contains next = true
              · rw [if_pos hc, if_pos hc]; rfl
              · rw [if_neg hc, if_neg hc]
                have := h.followF l ty cls n next (seen ++ [next]) (path ++ [a])
                rw [List.map_append] at this
                exact this
theorem TtlF.follow {f : SetD → SetD} (h : TtlF f) (l : List SetD) (n : List UInt8) (ty cls : Int) : followOf n ty cls (l.map f) = (followOf n ty cls l).mapT f := by
  unfold followOf
  by_cases hm : may n = true
  · rw [if_pos hm, if_pos hm]
    exact h.followF l ty cls 9 (fold n) [fold n] []
  · rw [if_neg hm, if_neg hm]; rfl
theorem ttlF_timeS (m : List RecD) : TtlF (timeS m) := fun s => rfl
def VerR.same (R T : VerR) : Prop := R.code = T.code ∧ R.sets = T.sets ∧ R.soa = T.soa ∧ R.err = T.err
theorem VerR.same_bad (e : Nat) : (VerR.bad e).same (VerR.bad e) := ⟨rfl, rfl, rfl, rfl⟩
theorem map_ttl0 {f : SetD → SetD} (h : TtlF f) (l : List SetD) : (l.map f).map ttl0 = l.map ttl0 := by
  rw [List.map_map]
  exact List.map_congr_left fun s _ => h.ttl0 s
theorem leastT_le : ∀ (l : List SetD) (t : Int), leastT l t ≤ t ∧ ∀ s ∈ l, leastT l t ≤ s.ttl
  | [], t => ⟨Int.le_refl _, by simp⟩
  | x :: r, t => by
    have h := leastT_le r (min t x.ttl)
    have e : leastT (x :: r) t = leastT r (min t x.ttl) := rfl
    rw [e]
    refine ⟨by omega, fun s hs => ?_⟩
    rcases List.mem_cons.1 hs with rfl | hs
    · omega
    · exact h.2 s hs
theorem leastT_ge : ∀ (l : List SetD) (t b : Int), b ≤ t → (∀ s ∈ l, b ≤ s.ttl) → b ≤ leastT l t
  | [], t, b, h, _ => h
  | x :: r, t, b, h, hl => by
    have e : leastT (x :: r) t = leastT r (min t x.ttl) := rfl
    rw [e]
    exact leastT_ge r _ b (by have := hl x (by simp); omega) (fun s hs => hl s (by simp [hs]))
theorem leastT_mapL {f : SetD → SetD} (l : List SetD) (hle : ∀ s ∈ l, (f s).ttl ≤ s.ttl) (t : Int) : leastT (l.map f) t ≤ leastT l t :=
  leastT_ge l t _ (leastT_le _ t).1 (fun s hs => by have := (leastT_le (l.map f) t).2 (f s) (List.mem_map.2 ⟨s, hs, rfl⟩); have := hle s hs; omega)

theorem verFol_map {f : SetD → SetD} (h : TtlF f) (code cls : Int) (auth : List RecD) (R : FolR) : (verFol code cls auth (R.mapT f)).same (verFol code cls auth R) ∧ ((∀ s ∈ R.path ++ R.fin, (f s).ttl ≤ s.ttl) → (verFol code cls auth (R.mapT f)).time ≤ (verFol code cls auth R).time) := by
  unfold verFol FolR.mapT
  dsimp only
  by_cases he : R.err = 0
  · rw [if_pos he, if_pos he]
    by_cases hf : R.fin = []
    · rw [if_pos hf, if_pos (by rw [hf]; rfl)]
      unfold verSoa
      by_cases hs : (soaFind (groupR auth) R.here cls).err = 0
      · rw [if_pos hs, if_pos hs]
        rcases (soaFind (groupR auth) R.here cls).set with _ | s
        · exact ⟨⟨rfl, map_ttl0 h _, rfl, rfl⟩, fun _ => Int.le_refl _⟩
        · exact ⟨⟨rfl, map_ttl0 h _, rfl, rfl⟩, fun hle => leastT_mapL _ (fun s hs => hle s (List.mem_append.2 (.inl hs))) _⟩
      · rw [if_neg hs, if_neg hs]; exact ⟨VerR.same_bad _, fun _ => Int.le_refl _⟩
    · rw [if_neg hf, if_neg (by rw [List.map_eq_nil_iff]; exact hf)]
      unfold verEnd
      by_cases hc : code = 3
      · rw [if_pos hc, if_pos hc]; exact ⟨VerR.same_bad _, fun _ => Int.le_refl _⟩
      · rw [if_neg hc, if_neg hc, ← List.map_append]
        exact ⟨⟨rfl, map_ttl0 h _, rfl, rfl⟩, fun hle => leastT_mapL _ hle _⟩
  · rw [if_neg he, if_neg he]; exact ⟨VerR.same_bad _, fun _ => Int.le_refl _⟩
theorem ver_ttl {l m : List RecD} (h : l.map strip = m.map strip) (n : List UInt8) (ty cls code : Int) (auth : List RecD) :
    (verOf n ty cls code m auth).same (verOf n ty cls code l auth) ∧ ((∀ s ∈ groupR l, minT (ofK m (keyT s)) ≤ s.ttl) → (verOf n ty cls code m auth).time ≤ (verOf n ty cls code l auth).time) := by
  unfold verOf
  by_cases hc : may n = true ∧ (code = 0 ∨ code = 3)
  · rw [if_pos hc, if_pos hc, group_other h, (ttlF_timeS m).follow]
    have hv := verFol_map (ttlF_timeS m) code cls auth (followOf n ty cls (groupR l))
    refine ⟨hv.1, fun hle => hv.2 fun s hs => ?_⟩
    have hi := follow_in (groupR l) n ty cls
    refine hle s ?_
    rcases List.mem_append.1 hs with h | h
    · exact hi.path s h
    · exact hi.fin s h
  · rw [if_neg hc, if_neg hc]; exact ⟨VerR.same_bad _, fun _ => Int.le_refl _⟩
end Go.Proofs.YtbmjfjgfognimaaGreatDoor
