/- Contracts of functions and plain lemmas that the proofs of this seat share (joined texts). No condition. -/
import Derived.Test.YtcpikbanghoflaaGreatDoorBj
import Derived.Test.YtcpikbanghoflaaGreatDoorBu
namespace Go.Proofs.YtcpikbanghoflaaGreatDoor
set_option linter.unusedSimpArgs false
set_option linter.unusedVariables false
open Go.RowKit

def recsOf (s : SetD) : List RecD := s.data.map fun d => ⟨s.name, s.typ, s.cls, s.ttl, d⟩
/-- A turn of records that keeps their keys, times and folded data. -/
theorem group_map {f : RecD → RecD} (hf : ∀ x, okRec (f x) = okRec x ∧ recK (f x) = recK x ∧ (f x).ttl = x.ttl ∧ rfold (f x).typ (f x).data = rfold x.typ x.data) (l : List RecD) : groupR (l.map f) = groupR l := by
  have hof : ∀ K, ofK (l.map f) K = (ofK l K).map f := fun K => by
    unfold ofK
    rw [List.filter_map]
    congr 1
    apply List.filter_congr
    intro x _
    simp only [Function.comp, (hf x).1, (hf x).2.1]
  refine group_congr fun K => ⟨by rw [hof]; simp, fun _ => ?_⟩
  unfold setK
  rw [hof]
  congr 1
  · unfold minT; rw [List.foldl_map]; simp only [(hf _).2.2.1]
  · unfold datT; rw [List.map_map]
    exact congrArg canon (List.map_congr_left fun x _ => (hf x).2.2.2)
/-! ### A set's parts -/
theorem group_ttl {l : List RecD} {s : SetD} (hs : s ∈ groupR l) : s.ttl = minT (ofK l (keyT s)) ∧ s.ttl ≤ 2147483647 := by
  have := ((group_mem l s).1 hs).2
  have h2 : s.ttl = minT (ofK l (keyT s)) := congrArg SetD.ttl this
  exact ⟨h2, by rw [h2]; exact (minT_le _).1⟩
theorem group_dat {l : List RecD} {s : SetD} (hs : s ∈ groupR l) : s.data = datT (ofK l (keyT s)) := congrArg SetD.data ((group_mem l s).1 hs).2
theorem group_asc {l : List RecD} {s : SetD} (hs : s ∈ groupR l) : Asc s.data := by rw [group_dat hs]; exact canon_asc _
theorem group_in {l : List RecD} {s : SetD} (hs : s ∈ groupR l) {d : List UInt8} : d ∈ s.data ↔ ∃ x ∈ l, okRec x = true ∧ recK x = keyT s ∧ rfold x.typ x.data = d := by
  rw [group_dat hs]
  unfold datT
  rw [mem_canon, List.mem_map]
  constructor
  · rintro ⟨x, hx, rfl⟩
    obtain ⟨h1, h2, h3⟩ := mem_ofK.1 hx
    exact ⟨x, h1, h2, h3, rfl⟩
  · rintro ⟨x, h1, h2, h3, rfl⟩
    exact ⟨x, mem_ofK.2 ⟨h1, h2, h3⟩, rfl⟩
theorem group_some {l : List RecD} {s : SetD} (hs : s ∈ groupR l) : s.data ≠ [] := by
  obtain ⟨x, hx⟩ := List.exists_mem_of_ne_nil _ ((group_mem l s).1 hs).1
  obtain ⟨h1, h2, h3⟩ := mem_ofK.1 hx
  intro e
  have := (group_in hs).2 ⟨x, h1, h2, h3, rfl⟩
  rw [e] at this; simp at this
theorem group_folded {l : List RecD} {s : SetD} (hs : s ∈ groupR l) {d : List UInt8} (hd : d ∈ s.data) : rmay s.typ d = true ∧ rfold s.typ d = d := by
  obtain ⟨x, h1, h2, h3, rfl⟩ := (group_in hs).1 hd
  have ht : x.typ = s.typ := congrArg (fun K : KeyD => K.2.1) h3
  have hm : rmay x.typ x.data = true := by unfold okRec at h2; simp only [Bool.and_eq_true] at h2; exact h2.2
  rw [← ht]
  exact rfold_idem hm
/-! ### Back -/
theorem back_of {l : List RecD} {x : RecD} (hx : x ∈ (groupR l).flatMap recsOf) : ∃ s ∈ groupR l, ∃ d ∈ s.data, x = ⟨s.name, s.typ, s.cls, s.ttl, d⟩ := by
  obtain ⟨s, hs, h⟩ := List.mem_flatMap.1 hx
  unfold recsOf at h
  obtain ⟨d, hd, rfl⟩ := List.mem_map.1 h
  exact ⟨s, hs, d, hd, rfl⟩
theorem group_back (l : List RecD) : groupR ((groupR l).flatMap recsOf) = groupR l := by
  have key : ∀ s ∈ groupR l, ∀ d ∈ s.data, okRec ⟨s.name, s.typ, s.cls, s.ttl, d⟩ = true ∧ recK ⟨s.name, s.typ, s.cls, s.ttl, d⟩ = keyT s := fun s hs d hd => by
    have hn := group_name hs
    have hd' := group_folded hs hd
    refine ⟨by unfold okRec; dsimp only; rw [hn.1, hd'.1]; rfl, ?_⟩
    unfold recK keyT fold
    dsimp only
    rw [if_pos hn.1, hn.2]
  have uniq : ∀ s ∈ groupR l, ∀ t ∈ groupR l, keyT s = keyT t → s = t := fun s hs t ht e => by
    rw [((group_mem l s).1 hs).2, ((group_mem l t).1 ht).2, e]
  have hof : ∀ s ∈ groupR l, ∀ x, x ∈ ofK ((groupR l).flatMap recsOf) (keyT s) ↔ ∃ d ∈ s.data, x = ⟨s.name, s.typ, s.cls, s.ttl, d⟩ := fun s hs x => by
    rw [mem_ofK]
    constructor
    · rintro ⟨h1, _, h3⟩
      obtain ⟨t, ht, d, hd, rfl⟩ := back_of h1
      have e := uniq t ht s hs ((key t ht d hd).2.symm.trans h3)
      subst e
      exact ⟨d, hd, rfl⟩
    · rintro ⟨d, hd, rfl⟩
      refine ⟨List.mem_flatMap.2 ⟨s, hs, ?_⟩, key s hs d hd⟩
      unfold recsOf
      exact List.mem_map.2 ⟨d, hd, rfl⟩
  have hset : ∀ s ∈ groupR l, setK ((groupR l).flatMap recsOf) (keyT s) = s := fun s hs => by
    have h1 : minT (ofK ((groupR l).flatMap recsOf) (keyT s)) = s.ttl := by
      have ht := (group_ttl hs).2
      have htt : timeT s.ttl = s.ttl := by unfold timeT; rw [if_neg (by omega)]
      obtain ⟨d, hd⟩ := List.exists_mem_of_ne_nil _ (group_some hs)
      have h2 := (minT_le (ofK ((groupR l).flatMap recsOf) (keyT s))).2 _ ((hof s hs _).2 ⟨d, hd, rfl⟩)
      dsimp only at h2
      rcases minT_in (ofK ((groupR l).flatMap recsOf) (keyT s)) with h3 | ⟨x, hx, h3⟩
      · omega
      · obtain ⟨d', _, rfl⟩ := (hof s hs x).1 hx
        dsimp only at h3
        omega
    have h2 : datT (ofK ((groupR l).flatMap recsOf) (keyT s)) = s.data := by
      refine asc_ext (canon_asc _) (group_asc hs) (fun d => ?_)
      unfold datT
      rw [mem_canon, List.mem_map]
      constructor
      · rintro ⟨x, hx, rfl⟩
        obtain ⟨d', hd', rfl⟩ := (hof s hs x).1 hx
        dsimp only
        rw [(group_folded hs hd').2]; exact hd'
      · intro hd
        exact ⟨_, (hof s hs _).2 ⟨d, hd, rfl⟩, (group_folded hs hd).2⟩
    unfold setK
    rw [h1, h2]
    rfl
  refine rise_ext (group_rise _) (group_rise l) (fun s => ?_)
  rw [group_mem]
  constructor
  · rintro ⟨h1, h2⟩
    obtain ⟨x, hx⟩ := List.exists_mem_of_ne_nil _ h1
    obtain ⟨hxm, _, hk⟩ := mem_ofK.1 hx
    obtain ⟨t, ht, d, hd, rfl⟩ := back_of hxm
    rw [← hk, (key t ht d hd).2, hset t ht] at h2
    rw [h2]; exact ht
  · intro hs
    refine ⟨?_, (hset s hs).symm⟩
    obtain ⟨d, hd⟩ := List.exists_mem_of_ne_nil _ (group_some hs)
    exact List.ne_nil_of_mem ((hof s hs _).2 ⟨d, hd, rfl⟩)
theorem group_fold {l : List RecD} {s : SetD} (hs : s ∈ groupR l) : fold s.name = s.name := by
  have := group_name hs
  unfold fold
  rw [if_pos this.1, this.2]
theorem timeT_bd {x : Int} (h : 0 ≤ x) : 0 ≤ timeT x ∧ timeT x ≤ 2147483647 := by unfold timeT; split <;> omega
def strip (r : RecD) : RecD := { r with ttl := 0 }
theorem strip_same (r : RecD) : okRec (strip r) = okRec r ∧ recK (strip r) = recK r ∧ rfold (strip r).typ (strip r).data = rfold r.typ r.data := ⟨rfl, rfl, rfl⟩
theorem ofK_strip (l : List RecD) (K : KeyD) : ofK (l.map strip) K = (ofK l K).map strip := by
  unfold ofK
  rw [List.filter_map]
  rfl
theorem datT_strip (l : List RecD) : datT (l.map strip) = datT l := by
  unfold datT
  rw [List.map_map]
  rfl
theorem ofK_other {l m : List RecD} (h : l.map strip = m.map strip) (K : KeyD) : (ofK l K = [] ↔ ofK m K = []) ∧ datT (ofK l K) = datT (ofK m K) := by
  have e : (ofK l K).map strip = (ofK m K).map strip := by rw [← ofK_strip, ← ofK_strip, h]
  constructor
  · rw [← List.map_eq_nil_iff (f := strip), e, List.map_eq_nil_iff]
  · rw [← datT_strip, e, datT_strip]
def timeS (m : List RecD) (s : SetD) : SetD := { s with ttl := minT (ofK m (keyT s)) }
theorem group_other {l m : List RecD} (h : l.map strip = m.map strip) : groupR m = (groupR l).map (timeS m) := by
  refine rise_ext (group_rise m) ?_ (fun x => ?_)
  · unfold RiseS
    rw [List.pairwise_map]
    exact group_rise l
  · rw [group_mem, List.mem_map]
    constructor
    · rintro ⟨h1, h2⟩
      have h3 : ofK l (keyT x) ≠ [] := fun e => h1 ((ofK_other h _).1.1 e)
      refine ⟨setK l (keyT x), (group_mem l _).2 ⟨h3, rfl⟩, ?_⟩
      rw [h2]
      unfold timeS setK
      dsimp only [keyT]
      rw [(ofK_other h _).2]
    · rintro ⟨s, hs, rfl⟩
      obtain ⟨h1, h2⟩ := (group_mem l s).1 hs
      have hk : keyT (timeS m s) = keyT s := rfl
      rw [hk]
      refine ⟨fun e => h1 ((ofK_other h _).1.2 e), ?_⟩
      unfold timeS setK
      rw [← (ofK_other h _).2, ← group_dat hs]
      rfl
theorem set_strip (l : List RecD) (k : Nat) (h : k < l.length) (r : RecD) (e : strip r = strip l[k]) : l.map strip = (l.set k r).map strip := by
  rw [List.map_set, e]
  have : strip l[k] = (l.map strip)[k]'(by simpa using h) := by simp
  rw [this]
  exact (List.set_getElem_self _).symm
end Go.Proofs.YtcpikbanghoflaaGreatDoor
namespace Go.Proofs.YtcpikbanghoflaaGreatDoor
set_option linter.unusedSimpArgs false
set_option linter.unusedVariables false
open Go.RowKit

/-- A turn of sets that changes TTLs alone. -/
def TtlF (f : SetD → SetD) : Prop := ∀ s, f s = { s with ttl := (f s).ttl }
theorem TtlF.name {f : SetD → SetD} (h : TtlF f) (s : SetD) : (f s).name = s.name := by rw [h s]
theorem TtlF.typ {f : SetD → SetD} (h : TtlF f) (s : SetD) : (f s).typ = s.typ := by rw [h s]
theorem TtlF.cls {f : SetD → SetD} (h : TtlF f) (s : SetD) : (f s).cls = s.cls := by rw [h s]
theorem TtlF.data {f : SetD → SetD} (h : TtlF f) (s : SetD) : (f s).data = s.data := by rw [h s]
theorem TtlF.ttl0 {f : SetD → SetD} (h : TtlF f) (s : SetD) : ttl0 (f s) = ttl0 s := by unfold Go.Proofs.YtcpikbanghoflaaGreatDoor.ttl0; rw [h s]
theorem TtlF.find {f : SetD → SetD} (h : TtlF f) (l : List SetD) (n : List UInt8) (k c : Int) : findS (l.map f) n k c = (findS l n k c).map f := by
  unfold findS
  rw [List.find?_map]
  congr 1
  congr 1
  funext s
  simp only [Function.comp, hitS, h.name, h.typ, h.cls]
theorem TtlF.target {f : SetD → SetD} (h : TtlF f) (s : SetD) : targetS (f s) = targetS s := by unfold targetS; rw [h.data]
theorem toList_map {α β : Type} (f : α → β) (o : Option α) : (o.map f).toList = o.toList.map f := by cases o <;> rfl
def FolR.mapT (f : SetD → SetD) (R : FolR) : FolR := ⟨R.path.map f, R.here, R.fin.map f, R.err⟩
theorem TtlF.followF {f : SetD → SetD} (h : TtlF f) (l : List SetD) (ty cls : Int) : ∀ (n : Nat) (here : List UInt8) (seen : List (List UInt8)) (path : List SetD), Go.Proofs.YtcpikbanghoflaaGreatDoor.followF (l.map f) ty cls n here seen (path.map f) = (Go.Proofs.YtcpikbanghoflaaGreatDoor.followF l ty cls n here seen path).mapT f
  | 0, here, seen, path => rfl
  | n + 1, here, seen, path => by
    simp only [Go.Proofs.YtcpikbanghoflaaGreatDoor.followF]
    rw [h.find, h.find]
    by_cases h5 : ty = 5
    · rw [if_pos h5, if_pos h5, toList_map]; rfl
    · rw [if_neg h5, if_neg h5]
      rcases hf : findS l here 5 cls with _ | a
      · rw [Option.map_none, toList_map]; rfl
      · rw [Option.map_some]
        dsimp only
        rw [List.length_map, h.target]
        by_cases hp : path.length = 8
        · rw [if_pos hp, if_pos hp]; rfl
        · rw [if_neg hp, if_neg hp]
          rcases ht : targetS a with _ | next
          · rfl
          · dsimp only
            rw [Option.isSome_map]
            by_cases hb : (findS l here ty cls).isSome = true
            · rw [if_pos hb, if_pos hb]; rfl
            · rw [if_neg hb, if_neg hb]
              by_cases hc : seen.contains next = true
              · rw [if_pos hc, if_pos hc]; rfl
              · rw [if_neg hc, if_neg hc]
                have := h.followF l ty cls n next (seen ++ [next]) (path ++ [a])
                rw [List.map_append] at this
                exact this
theorem TtlF.follow {f : SetD → SetD} (h : TtlF f) (l : List SetD) (n : List UInt8) (ty cls : Int) : followOf n ty cls (l.map f) = (followOf n ty cls l).mapT f := by
  unfold followOf
  by_cases hm : may n = true
  · rw [if_pos hm, if_pos hm]
    exact h.followF l ty cls 9 (fold n) [fold n] []
  · rw [if_neg hm, if_neg hm]; rfl
theorem ttlF_timeS (m : List RecD) : TtlF (timeS m) := fun s => rfl
/-- The verdict, but for its time. -/
def VerR.same (R T : VerR) : Prop := R.code = T.code ∧ R.sets = T.sets ∧ R.soa = T.soa ∧ R.err = T.err
theorem VerR.same_bad (e : Nat) : (VerR.bad e).same (VerR.bad e) := ⟨rfl, rfl, rfl, rfl⟩
theorem map_ttl0 {f : SetD → SetD} (h : TtlF f) (l : List SetD) : (l.map f).map ttl0 = l.map ttl0 := by
  rw [List.map_map]
  exact List.map_congr_left fun s _ => h.ttl0 s
theorem leastT_le : ∀ (l : List SetD) (t : Int), leastT l t ≤ t ∧ ∀ s ∈ l, leastT l t ≤ s.ttl
  | [], t => ⟨Int.le_refl _, by simp⟩
  | x :: r, t => by
    have h := leastT_le r (min t x.ttl)
    have e : leastT (x :: r) t = leastT r (min t x.ttl) := rfl
    rw [e]
    refine ⟨by omega, fun s hs => ?_⟩
    rcases List.mem_cons.1 hs with rfl | hs
    · omega
    · exact h.2 s hs
theorem leastT_ge : ∀ (l : List SetD) (t b : Int), b ≤ t → (∀ s ∈ l, b ≤ s.ttl) → b ≤ leastT l t
  | [], t, b, h, _ => h
  | x :: r, t, b, h, hl => by
    have e : leastT (x :: r) t = leastT r (min t x.ttl) := rfl
    rw [e]
    exact leastT_ge r _ b (by have := hl x (by simp); omega) (fun s hs => hl s (by simp [hs]))
theorem leastT_map {f : SetD → SetD} (hle : ∀ s, True → (f s).ttl ≤ s.ttl) (l : List SetD) (t : Int) : leastT (l.map f) t ≤ leastT l t :=
  leastT_ge l t _ (leastT_le _ t).1 (fun s hs => by have := (leastT_le (l.map f) t).2 (f s) (List.mem_map.2 ⟨s, hs, rfl⟩); have := hle s trivial; omega)
theorem leastT_mapL {f : SetD → SetD} (l : List SetD) (hle : ∀ s ∈ l, (f s).ttl ≤ s.ttl) (t : Int) : leastT (l.map f) t ≤ leastT l t :=
  leastT_ge l t _ (leastT_le _ t).1 (fun s hs => by have := (leastT_le (l.map f) t).2 (f s) (List.mem_map.2 ⟨s, hs, rfl⟩); have := hle s hs; omega)

/-- Answers' sets with other TTLs: the verdict is the same, but for its time. -/
theorem verFol_map {f : SetD → SetD} (h : TtlF f) (code cls : Int) (auth : List RecD) (R : FolR) : (verFol code cls auth (R.mapT f)).same (verFol code cls auth R) ∧ ((∀ s ∈ R.path ++ R.fin, (f s).ttl ≤ s.ttl) → (verFol code cls auth (R.mapT f)).time ≤ (verFol code cls auth R).time) := by
  unfold verFol FolR.mapT
  dsimp only
  by_cases he : R.err = 0
  · rw [if_pos he, if_pos he]
    by_cases hf : R.fin = []
    · rw [if_pos hf, if_pos (by rw [hf]; rfl)]
      unfold verSoa
      by_cases hs : (soaFind (groupR auth) R.here cls).err = 0
      · rw [if_pos hs, if_pos hs]
        rcases (soaFind (groupR auth) R.here cls).set with _ | s
        · exact ⟨⟨rfl, map_ttl0 h _, rfl, rfl⟩, fun _ => Int.le_refl _⟩
        · exact ⟨⟨rfl, map_ttl0 h _, rfl, rfl⟩, fun hle => leastT_mapL _ (fun s hs => hle s (List.mem_append.2 (.inl hs))) _⟩
      · rw [if_neg hs, if_neg hs]; exact ⟨VerR.same_bad _, fun _ => Int.le_refl _⟩
    · rw [if_neg hf, if_neg (by rw [List.map_eq_nil_iff]; exact hf)]
      unfold verEnd
      by_cases hc : code = 3
      · rw [if_pos hc, if_pos hc]; exact ⟨VerR.same_bad _, fun _ => Int.le_refl _⟩
      · rw [if_neg hc, if_neg hc, ← List.map_append]
        exact ⟨⟨rfl, map_ttl0 h _, rfl, rfl⟩, fun hle => leastT_mapL _ hle _⟩
  · rw [if_neg he, if_neg he]; exact ⟨VerR.same_bad _, fun _ => Int.le_refl _⟩
theorem ver_ttl {l m : List RecD} (h : l.map strip = m.map strip) (n : List UInt8) (ty cls code : Int) (auth : List RecD) :
    (verOf n ty cls code m auth).same (verOf n ty cls code l auth) ∧ ((∀ s ∈ groupR l, minT (ofK m (keyT s)) ≤ s.ttl) → (verOf n ty cls code m auth).time ≤ (verOf n ty cls code l auth).time) := by
  unfold verOf
  by_cases hc : may n = true ∧ (code = 0 ∨ code = 3)
  · rw [if_pos hc, if_pos hc, group_other h, (ttlF_timeS m).follow]
    have hv := verFol_map (ttlF_timeS m) code cls auth (followOf n ty cls (groupR l))
    refine ⟨hv.1, fun hle => hv.2 fun s hs => ?_⟩
    have hi := follow_in (groupR l) n ty cls
    refine hle s ?_
    rcases List.mem_append.1 hs with h | h
    · exact hi.path s h
    · exact hi.fin s h
  · rw [if_neg hc, if_neg hc]; exact ⟨VerR.same_bad _, fun _ => Int.le_refl _⟩
/-- A TTL lowered. -/
def lowR (r : RecD) (t : Int) : RecD := ⟨r.name, r.typ, r.cls, t, r.data⟩
theorem minT_lower (l : List RecD) (k : Nat) (h : k < l.length) (t : Int) (ht : t ≤ l[k].ttl) (hm : l[k].ttl ≤ 2147483647) (K : KeyD) : minT (ofK (l.set k (lowR l[k] t)) K) ≤ minT (ofK l K) := by
  have hge : ∀ (m : List RecD) (b : Int), b ≤ 2147483647 → (∀ x ∈ m, b ≤ timeT x.ttl) → b ≤ minT m := fun m b h1 h2 => by
    rcases minT_in m with e | ⟨x, hx, e⟩
    · omega
    · rw [e]; exact h2 x hx
  refine hge _ _ (minT_le _).1 (fun x hx => ?_)
  obtain ⟨h1, h2, h3⟩ := mem_ofK.1 hx
  obtain ⟨i, hi, rfl⟩ := List.getElem_of_mem h1
  by_cases e : i = k
  · subst e
    have hin : (lowR l[i] t) ∈ ofK (l.set i (lowR l[i] t)) K := mem_ofK.2 ⟨List.mem_iff_getElem.2 ⟨i, by simpa using hi, by simp⟩, h2, h3⟩
    have := (minT_le (ofK (l.set i (lowR l[i] t)) K)).2 _ hin
    have h5 : (lowR l[i] t).ttl = t := rfl
    rw [h5] at this
    have h4 : timeT t ≤ timeT l[i].ttl := by unfold timeT; rw [if_neg (by omega), if_neg (by omega)]; exact ht
    omega
  · have hin : l[i] ∈ ofK (l.set k (lowR l[k] t)) K := mem_ofK.2 ⟨List.mem_iff_getElem.2 ⟨i, by simpa using hi, by rw [List.getElem_set_ne (by omega)]⟩, h2, h3⟩
    exact (minT_le _).2 _ hin
theorem ver_lower (l : List RecD) (k : Nat) (h : k < l.length) (t : Int) (ht : t ≤ l[k].ttl) (hm : l[k].ttl ≤ 2147483647) (n : List UInt8) (ty cls code : Int) (auth : List RecD) :
    (verOf n ty cls code (l.set k (lowR l[k] t)) auth).same (verOf n ty cls code l auth) ∧ (verOf n ty cls code (l.set k (lowR l[k] t)) auth).time ≤ (verOf n ty cls code l auth).time := by
  have hv := ver_ttl (set_strip l k h (lowR l[k] t) rfl) n ty cls code auth
  refine ⟨hv.1, hv.2 fun s hs => ?_⟩
  rw [(group_ttl hs).1]
  exact minT_lower l k h t ht hm _

/-- The time is at most each of its sets' TTLs. -/
theorem ver_time_sets {n : List UInt8} {ty cls code : Int} {ans auth : List RecD} (hn : ∀ r ∈ ans, 0 ≤ r.ttl) (he : (verOf n ty cls code ans auth).err = 0) :
    ∀ s ∈ (verOf n ty cls code ans auth).sets, ∃ x ∈ groupR ans, ttl0 x = s ∧ (verOf n ty cls code ans auth).time ≤ x.ttl := by
  have h0 : ∀ x ∈ groupR ans, 0 ≤ x.ttl := fun x hx => by
    rw [(group_ttl hx).1]
    rcases minT_in (ofK ans (keyT x)) with e | ⟨y, hy, e⟩
    · omega
    · rw [e]; exact (timeT_bd (hn y (mem_ofK.1 hy).1)).1
  unfold verOf at he ⊢
  by_cases hc : may n = true ∧ (code = 0 ∨ code = 3)
  · rw [if_pos hc] at he ⊢
    have hi := follow_in (groupR ans) n ty cls
    generalize followOf n ty cls (groupR ans) = R at *
    unfold verFol at he ⊢
    by_cases hr : R.err = 0
    · rw [if_pos hr] at he ⊢
      by_cases hf : R.fin = []
      · rw [if_pos hf] at he ⊢
        unfold verSoa at he ⊢
        by_cases hs : (soaFind (groupR auth) R.here cls).err = 0
        · rw [if_pos hs] at he ⊢
          rcases (soaFind (groupR auth) R.here cls).set with _ | s
          · intro s hs
            obtain ⟨x, hx, rfl⟩ := List.mem_map.1 hs
            exact ⟨x, hi.path x hx, rfl, h0 x (hi.path x hx)⟩
          · intro s hs
            obtain ⟨x, hx, rfl⟩ := List.mem_map.1 hs
            exact ⟨x, hi.path x hx, rfl, (leastT_le _ _).2 x hx⟩
        · rw [if_neg hs] at he; exact absurd he hs
      · rw [if_neg hf] at he ⊢
        unfold verEnd at he ⊢
        by_cases hc : code = 3
        · rw [if_pos hc] at he; cases he
        · rw [if_neg hc] at he ⊢
          intro s hs
          obtain ⟨x, hx, rfl⟩ := List.mem_map.1 hs
          refine ⟨x, ?_, rfl, (leastT_le _ _).2 x hx⟩
          rcases List.mem_append.1 hx with h | h
          · exact hi.path x h
          · exact hi.fin x h
    · rw [if_neg hr] at he; exact absurd he hr
  · rw [if_neg hc] at he; cases he
theorem lastFour_le (d : List UInt8) : lastFour d < 4294967296 := by
  unfold lastFour
  have h := be_lt (d.drop (d.length - 4))
  have : (d.drop (d.length - 4)).length ≤ 4 := by rw [List.length_drop]; omega
  exact Nat.lt_of_lt_of_le h (Nat.pow_le_pow_right (by omega) this)
theorem soaTime_bd (s : SetD) (h : 0 ≤ s.ttl) : 0 ≤ soaTime s ∧ soaTime s ≤ 2147483647 := by
  unfold soaTime
  split
  · split
    · unfold soaTimeD
      split
      · have h1 := timeT_bd h
        have h2 := timeT_bd (show (0 : Int) ≤ (lastFour _ : Int) from Int.natCast_nonneg (lastFour (by assumption)))
        omega
      · omega
    · omega
  · omega
theorem group_ttl0 {l : List RecD} (hn : ∀ r ∈ l, 0 ≤ r.ttl) {x : SetD} (hx : x ∈ groupR l) : 0 ≤ x.ttl ∧ x.ttl ≤ 2147483647 := by
  refine ⟨?_, (group_ttl hx).2⟩
  rw [(group_ttl hx).1]
  rcases minT_in (ofK l (keyT x)) with e | ⟨y, hy, e⟩
  · omega
  · rw [e]; exact (timeT_bd (hn y (mem_ofK.1 hy).1)).1
theorem ver_time_bd {n : List UInt8} {ty cls code : Int} {ans auth : List RecD} (hn : ∀ r ∈ ans, 0 ≤ r.ttl) (hu : ∀ r ∈ auth, 0 ≤ r.ttl) : 0 ≤ (verOf n ty cls code ans auth).time ∧ (verOf n ty cls code ans auth).time ≤ 2147483647 := by
  have hb : 0 ≤ (VerR.bad 0).time ∧ (VerR.bad 0).time ≤ 2147483647 := ⟨Int.le_refl _, show (0 : Int) ≤ _ by omega⟩
  unfold verOf
  split
  · have hi := follow_in (groupR ans) n ty cls
    generalize followOf n ty cls (groupR ans) = R at *
    unfold verFol
    split
    · split
      · unfold verSoa
        split
        · rcases hs : (soaFind (groupR auth) R.here cls).set with _ | s
          · exact hb
          · have h1 := soaTime_bd s (group_ttl0 hu (soa_mem hs).1).1
            dsimp only
            refine ⟨leastT_ge _ _ _ h1.1 (fun x hx => (group_ttl0 hn (hi.path x hx)).1), ?_⟩
            have := (leastT_le R.path (soaTime s)).1
            omega
        · exact hb
      · unfold verEnd
        split
        · exact hb
        · dsimp only
          refine ⟨leastT_ge _ _ _ (by omega) (fun x hx => (group_ttl0 hn ?_).1), (leastT_le _ _).1⟩
          rcases List.mem_append.1 hx with h | h
          · exact hi.path x h
          · exact hi.fin x h
    · exact hb
  · exact hb
theorem ver_bad_time {n : List UInt8} {ty cls code : Int} {ans auth : List RecD} (he : (verOf n ty cls code ans auth).err ≠ 0) : (verOf n ty cls code ans auth).time = 0 := by
  unfold verOf at he ⊢
  split
  · rename_i hc
    rw [if_pos hc] at he
    unfold verFol at he ⊢
    split
    · rename_i hr
      rw [if_pos hr] at he
      split
      · rename_i hf
        rw [if_pos hf] at he
        unfold verSoa at he ⊢
        split
        · rename_i hs
          rw [if_pos hs] at he
          rcases h : (soaFind (groupR auth) (followOf n ty cls (groupR ans)).here cls).set with _ | s
          · rfl
          · rw [h] at he; exact absurd rfl he
        · rfl
      · rename_i hf
        rw [if_neg hf] at he
        unfold verEnd at he ⊢
        split
        · rfl
        · rename_i hcc
          rw [if_neg hcc] at he; exact absurd rfl he
    · rfl
  · rfl
end Go.Proofs.YtcpikbanghoflaaGreatDoor
