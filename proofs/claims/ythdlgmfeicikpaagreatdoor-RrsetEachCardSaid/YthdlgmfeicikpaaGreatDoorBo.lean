/- Contracts of functions and plain lemmas that the proofs of this seat share (joined texts). No condition. -/
import Derived.Test.YthdlgmfeicikpaaGreatDoorBj
import Derived.Test.YthdlgmfeicikpaaGreatDoorBl
namespace Go.Proofs.YthdlgmfeicikpaaGreatDoor
set_option linter.unusedSimpArgs false
set_option linter.unusedVariables false

/-! ### Letters -/
theorem lowB_upB (b : UInt8) : lowB (upB b) = lowB b := by
  have h := b.toNat_lt
  unfold upB
  by_cases h1 : 97 ≤ b.toNat ∧ b.toNat ≤ 122
  · rw [if_pos h1]
    have e : (b - 32).toNat = b.toNat - 32 := by rw [UInt8.toNat_sub]; simp; omega
    unfold lowB
    rw [e, if_pos (by omega), if_neg (by omega)]
    apply UInt8.toNat_inj.1
    rw [UInt8.toNat_add, e]; simp; omega
  · rw [if_neg h1]
theorem low_up (l : List UInt8) : low (up l) = low l := by
  unfold low up
  rw [List.map_map]
  exact List.map_congr_left fun b _ => lowB_upB b
theorem may_up (l : List UInt8) : may (up l) = may l := by rw [← may_low (up l), low_up, may_low]
theorem fold_up (l : List UInt8) : fold (up l) = fold l := by unfold fold; rw [may_up, low_up]
def nameT (t : Int) : Bool := t == 2 || t == 5 || t == 12
def letR (x : RecD) : RecD := if okRec x then ⟨up x.name, x.typ, x.cls, x.ttl, if nameT x.typ then up x.data else x.data⟩ else x
theorem nameT_iff {t : Int} : nameT t = true ↔ t = 2 ∨ t = 5 ∨ t = 12 := by unfold nameT; simp [or_assoc]
theorem rmay_up {t : Int} (h : nameT t = true) (d : List UInt8) : rmay t (up d) = rmay t d ∧ rfold t (up d) = rfold t d := by
  have hk := nameT_iff.1 h
  have h1 : ∀ d, rmay t d = may d := fun d => by unfold rmay; rw [wholeOf_name hk]; split <;> simp_all
  have h2 : ∀ d, rfold t d = fold d := fun d => by
    unfold rfold partsOf
    rw [wholeOf_name hk]
    by_cases hm : may d = true
    · rw [if_pos hm]; simp
    · rw [if_neg hm]; unfold fold; rw [if_neg hm]; rfl
  exact ⟨by rw [h1, h1, may_up], by rw [h2, h2, fold_up]⟩
theorem letR_same (x : RecD) : okRec (letR x) = okRec x ∧ recK (letR x) = recK x ∧ (letR x).ttl = x.ttl ∧ rfold (letR x).typ (letR x).data = rfold x.typ x.data := by
  unfold letR
  by_cases h : okRec x = true
  · rw [if_pos h]
    by_cases ht : nameT x.typ = true
    · rw [if_pos ht]
      obtain ⟨h1, h2⟩ := rmay_up ht x.data
      exact ⟨by unfold okRec; dsimp only; rw [may_up, h1], by unfold recK; dsimp only; rw [fold_up], rfl, h2⟩
    · rw [if_neg ht]
      exact ⟨by unfold okRec; dsimp only; rw [may_up], by unfold recK; dsimp only; rw [fold_up], rfl, rfl⟩
  · rw [if_neg h]; exact ⟨rfl, rfl, rfl, rfl⟩
/-- A turn of records that keeps their keys, times and folded data. -/
theorem group_map {f : RecD → RecD} (hf : ∀ x, okRec (f x) = okRec x ∧ recK (f x) = recK x ∧ (f x).ttl = x.ttl ∧ rfold (f x).typ (f x).data = rfold x.typ x.data) (l : List RecD) : groupR (l.map f) = groupR l := by
  have hof : ∀ K, ofK (l.map f) K = (ofK l K).map f := fun K => by
    unfold ofK
    rw [List.filter_map]
    congr 1
    apply List.filter_congr
    intro x _
    simp only [Function.comp, (hf x).1, (hf x).2.1]
  refine group_congr fun K => ⟨by rw [hof]; simp, fun _ => ?_⟩
  unfold setK
  rw [hof]
  congr 1
  · unfold minT; rw [List.foldl_map]; simp only [(hf _).2.2.1]
  · unfold datT; rw [List.map_map]
    exact congrArg canon (List.map_congr_left fun x _ => (hf x).2.2.2)
theorem group_letters (l : List RecD) : groupR (l.map letR) = groupR l := group_map letR_same l

/-! ### Rows -/
theorem turn_mem (l : List RecD) (r : Nat) (hr : r < l.length) (x : RecD) : x ∈ (List.range l.length).map (fun i => l.getD ((i + r) % l.length) ⟨[], 0, 0, 0, []⟩) ↔ x ∈ l := by
  have h0 : 0 < l.length := by omega
  constructor
  · intro h
    obtain ⟨i, hi, rfl⟩ := List.mem_map.1 h
    have hm : (i + r) % l.length < l.length := Nat.mod_lt _ h0
    rw [List.getD_eq_getElem?_getD, List.getElem?_eq_getElem hm]
    exact List.getElem_mem hm
  · intro h
    obtain ⟨j, hj, rfl⟩ := List.getElem_of_mem h
    refine List.mem_map.2 ⟨(j + (l.length - r)) % l.length, List.mem_range.2 (Nat.mod_lt _ h0), ?_⟩
    have e : ((j + (l.length - r)) % l.length + r) % l.length = j := by
      rw [Nat.mod_add_mod, show j + (l.length - r) + r = j + l.length by omega, Nat.add_mod_right, Nat.mod_eq_of_lt hj]
    rw [e, List.getD_eq_getElem?_getD, List.getElem?_eq_getElem hj]; rfl
theorem back_mem (l : List RecD) (x : RecD) : x ∈ (List.range l.length).map (fun i => l.getD (l.length - 1 - i) ⟨[], 0, 0, 0, []⟩) ↔ x ∈ l := by
  constructor
  · intro h
    obtain ⟨i, hi, rfl⟩ := List.mem_map.1 h
    have hi' := List.mem_range.1 hi
    have hm : l.length - 1 - i < l.length := by omega
    rw [List.getD_eq_getElem?_getD, List.getElem?_eq_getElem hm]
    exact List.getElem_mem hm
  · intro h
    obtain ⟨j, hj, rfl⟩ := List.getElem_of_mem h
    refine List.mem_map.2 ⟨l.length - 1 - j, List.mem_range.2 (by omega), ?_⟩
    rw [show l.length - 1 - (l.length - 1 - j) = j by omega, List.getD_eq_getElem?_getD, List.getElem?_eq_getElem hj]; rfl
theorem twice_mem (l : List RecD) (k : Nat) (x : RecD) : x ∈ l ++ l.take k ↔ x ∈ l := by
  rw [List.mem_append]
  exact ⟨fun h => h.elim id List.mem_of_mem_take, .inl⟩

/-! ### A set's parts -/
theorem group_ttl {l : List RecD} {s : SetD} (hs : s ∈ groupR l) : s.ttl = minT (ofK l (keyT s)) ∧ s.ttl ≤ 2147483647 := by
  have := ((group_mem l s).1 hs).2
  have h2 : s.ttl = minT (ofK l (keyT s)) := congrArg SetD.ttl this
  exact ⟨h2, by rw [h2]; exact (minT_le _).1⟩
theorem group_dat {l : List RecD} {s : SetD} (hs : s ∈ groupR l) : s.data = datT (ofK l (keyT s)) := congrArg SetD.data ((group_mem l s).1 hs).2
theorem group_asc {l : List RecD} {s : SetD} (hs : s ∈ groupR l) : Asc s.data := by rw [group_dat hs]; exact canon_asc _
theorem group_in {l : List RecD} {s : SetD} (hs : s ∈ groupR l) {d : List UInt8} : d ∈ s.data ↔ ∃ x ∈ l, okRec x = true ∧ recK x = keyT s ∧ rfold x.typ x.data = d := by
  rw [group_dat hs]
  unfold datT
  rw [mem_canon, List.mem_map]
  constructor
  · rintro ⟨x, hx, rfl⟩
    obtain ⟨h1, h2, h3⟩ := mem_ofK.1 hx
    exact ⟨x, h1, h2, h3, rfl⟩
  · rintro ⟨x, h1, h2, h3, rfl⟩
    exact ⟨x, mem_ofK.2 ⟨h1, h2, h3⟩, rfl⟩
theorem group_some {l : List RecD} {s : SetD} (hs : s ∈ groupR l) : s.data ≠ [] := by
  obtain ⟨x, hx⟩ := List.exists_mem_of_ne_nil _ ((group_mem l s).1 hs).1
  obtain ⟨h1, h2, h3⟩ := mem_ofK.1 hx
  intro e
  have := (group_in hs).2 ⟨x, h1, h2, h3, rfl⟩
  rw [e] at this; simp at this
theorem group_folded {l : List RecD} {s : SetD} (hs : s ∈ groupR l) {d : List UInt8} (hd : d ∈ s.data) : rmay s.typ d = true ∧ rfold s.typ d = d := by
  obtain ⟨x, h1, h2, h3, rfl⟩ := (group_in hs).1 hd
  have ht : x.typ = s.typ := congrArg (fun K : KeyD => K.2.1) h3
  have hm : rmay x.typ x.data = true := by unfold okRec at h2; simp only [Bool.and_eq_true] at h2; exact h2.2
  rw [← ht]
  exact rfold_idem hm
/-! ### Back -/
theorem back_of {l : List RecD} {x : RecD} (hx : x ∈ (groupR l).flatMap recsOf) : ∃ s ∈ groupR l, ∃ d ∈ s.data, x = ⟨s.name, s.typ, s.cls, s.ttl, d⟩ := by
  obtain ⟨s, hs, h⟩ := List.mem_flatMap.1 hx
  unfold recsOf at h
  obtain ⟨d, hd, rfl⟩ := List.mem_map.1 h
  exact ⟨s, hs, d, hd, rfl⟩
theorem group_back (l : List RecD) : groupR ((groupR l).flatMap recsOf) = groupR l := by
  have key : ∀ s ∈ groupR l, ∀ d ∈ s.data, okRec ⟨s.name, s.typ, s.cls, s.ttl, d⟩ = true ∧ recK ⟨s.name, s.typ, s.cls, s.ttl, d⟩ = keyT s := fun s hs d hd => by
    have hn := group_name hs
    have hd' := group_folded hs hd
    refine ⟨by unfold okRec; dsimp only; rw [hn.1, hd'.1]; rfl, ?_⟩
    unfold recK keyT fold
    dsimp only
    rw [if_pos hn.1, hn.2]
  have uniq : ∀ s ∈ groupR l, ∀ t ∈ groupR l, keyT s = keyT t → s = t := fun s hs t ht e => by
    rw [((group_mem l s).1 hs).2, ((group_mem l t).1 ht).2, e]
  have hof : ∀ s ∈ groupR l, ∀ x, x ∈ ofK ((groupR l).flatMap recsOf) (keyT s) ↔ ∃ d ∈ s.data, x = ⟨s.name, s.typ, s.cls, s.ttl, d⟩ := fun s hs x => by
    rw [mem_ofK]
    constructor
    · rintro ⟨h1, _, h3⟩
      obtain ⟨t, ht, d, hd, rfl⟩ := back_of h1
      have e := uniq t ht s hs ((key t ht d hd).2.symm.trans h3)
      subst e
      exact ⟨d, hd, rfl⟩
    · rintro ⟨d, hd, rfl⟩
      refine ⟨List.mem_flatMap.2 ⟨s, hs, ?_⟩, key s hs d hd⟩
      unfold recsOf
      exact List.mem_map.2 ⟨d, hd, rfl⟩
  have hset : ∀ s ∈ groupR l, setK ((groupR l).flatMap recsOf) (keyT s) = s := fun s hs => by
    have h1 : minT (ofK ((groupR l).flatMap recsOf) (keyT s)) = s.ttl := by
      have ht := (group_ttl hs).2
      have htt : timeT s.ttl = s.ttl := by unfold timeT; rw [if_neg (by omega)]
      obtain ⟨d, hd⟩ := List.exists_mem_of_ne_nil _ (group_some hs)
      have h2 := (minT_le (ofK ((groupR l).flatMap recsOf) (keyT s))).2 _ ((hof s hs _).2 ⟨d, hd, rfl⟩)
      dsimp only at h2
      rcases minT_in (ofK ((groupR l).flatMap recsOf) (keyT s)) with h3 | ⟨x, hx, h3⟩
      · omega
      · obtain ⟨d', _, rfl⟩ := (hof s hs x).1 hx
        dsimp only at h3
        omega
    have h2 : datT (ofK ((groupR l).flatMap recsOf) (keyT s)) = s.data := by
      refine asc_ext (canon_asc _) (group_asc hs) (fun d => ?_)
      unfold datT
      rw [mem_canon, List.mem_map]
      constructor
      · rintro ⟨x, hx, rfl⟩
        obtain ⟨d', hd', rfl⟩ := (hof s hs x).1 hx
        dsimp only
        rw [(group_folded hs hd').2]; exact hd'
      · intro hd
        exact ⟨_, (hof s hs _).2 ⟨d, hd, rfl⟩, (group_folded hs hd).2⟩
    unfold setK
    rw [h1, h2]
    rfl
  refine rise_ext (group_rise _) (group_rise l) (fun s => ?_)
  rw [group_mem]
  constructor
  · rintro ⟨h1, h2⟩
    obtain ⟨x, hx⟩ := List.exists_mem_of_ne_nil _ h1
    obtain ⟨hxm, _, hk⟩ := mem_ofK.1 hx
    obtain ⟨t, ht, d, hd, rfl⟩ := back_of hxm
    rw [← hk, (key t ht d hd).2, hset t ht] at h2
    rw [h2]; exact ht
  · intro hs
    refine ⟨?_, (hset s hs).symm⟩
    obtain ⟨d, hd⟩ := List.exists_mem_of_ne_nil _ (group_some hs)
    exact List.ne_nil_of_mem ((hof s hs _).2 ⟨d, hd, rfl⟩)
end Go.Proofs.YthdlgmfeicikpaaGreatDoor
namespace Go.Proofs.YthdlgmfeicikpaaGreatDoor
set_option linter.unusedSimpArgs false
set_option linter.unusedVariables false
open Go.RowKit

theorem group_small {l : List RecD} (h : l.length < 200 ∧ ∀ r ∈ l, r.name.length < 6000 ∧ r.data.length < 6000) {s : SetD} (hs : s ∈ groupR l) : s.name.length ≤ 255 ∧ s.data.length ≤ 200 ∧ ∀ d ∈ s.data, d.length ≤ 6000 := by
  refine ⟨may_le (group_name hs).1, ?_, fun d hd => ?_⟩
  · have := (groupTo_bd l l.length (Nat.le_refl _) s ((group_perm l).1.mem_iff.1 hs)).2
    omega
  · obtain ⟨x, h1, h2, h3, rfl⟩ := (group_in hs).1 hd
    have h4 := rfold_len x.typ x.data
    have h6 := (h.2 x h1).2
    omega
theorem group_fold {l : List RecD} {s : SetD} (hs : s ∈ groupR l) : fold s.name = s.name := by
  have := group_name hs
  unfold fold
  rw [if_pos this.1, this.2]
theorem group_adj (l : List RecD) (i : Nat) (h1 : i < (groupR l).length) (h2 : i + 1 < (groupR l).length) : cmpK (groupR l)[i] (groupR l)[i + 1] < 0 :=
  List.pairwise_iff_getElem.1 (group_rise l) i (i + 1) h1 h2 (by omega)
/-- The three ways in which a set is ahead. -/
theorem adj_ways {a b : SetD} (ha : may a.name = true) (hb : may b.name = true) (h : cmpK a b < 0) : cmpN a.name b.name < 0 ∨ (cmpN a.name b.name = 0 ∧ a.typ < b.typ) ∨ (cmpN a.name b.name = 0 ∧ a.typ = b.typ ∧ a.cls < b.cls) := by
  unfold cmpK at h
  rw [cmpN_key ha hb]
  by_cases h1 : cmpRev (keyL a.name) (keyL b.name) = 0
  · rw [if_pos h1] at h
    right
    by_cases h2 : cmpI a.typ b.typ = 0
    · rw [if_pos h2] at h
      exact .inr ⟨h1, cmpI_zero h2, cmpI_neg.1 h⟩
    · rw [if_neg h2] at h
      exact .inl ⟨h1, cmpI_neg.1 h⟩
  · rw [if_neg h1] at h
    exact .inl h
theorem asc_adj {d : List (List UInt8)} (h : Asc d) (k : Nat) (h1 : k < d.length) (h2 : k + 1 < d.length) : bl d[k] d[k + 1] = true :=
  List.pairwise_iff_getElem.1 h k (k + 1) h1 h2 (by omega)

/-! ### Each -/
theorem each_find {l : List RecD} {r : RecD} (hr : r ∈ l) (ho : okRec r = true) : ∃ s, findS (groupR l) r.name r.typ r.cls = some s ∧ s ∈ groupR l ∧ s.data.contains (rfold r.typ r.data) = true := by
  have hm : may r.name = true := by unfold okRec at ho; simp only [Bool.and_eq_true] at ho; exact ho.1
  have hk : recK r = (low r.name, r.typ, r.cls) := by unfold recK fold; rw [if_pos hm]
  have hne : ofK l (low r.name, r.typ, r.cls) ≠ [] := List.ne_nil_of_mem (mem_ofK.2 ⟨hr, ho, hk⟩)
  have hf := find_group l r.name r.typ r.cls hm
  rw [if_neg hne] at hf
  refine ⟨_, hf, (group_mem l _).2 ⟨hne, rfl⟩, ?_⟩
  have hs : setK l (low r.name, r.typ, r.cls) ∈ groupR l := (group_mem l _).2 ⟨hne, rfl⟩
  rw [List.contains_iff_mem]
  exact (group_in hs).2 ⟨r, hr, ho, hk, rfl⟩
def hereB (s : SetD) (d : List UInt8) (x : RecD) : Bool := okRec x && (sameN x.name s.name && (x.typ == s.typ && (x.cls == s.cls && rfold x.typ x.data == d)))
theorem key_same {s : SetD} (hs : may s.name = true ∧ low s.name = s.name) {x : RecD} (hx : may x.name = true) : sameN x.name s.name = true ↔ fold x.name = s.name := by
  unfold sameN fold
  rw [if_pos hx, hx, hs.1, hs.2]
  simp
theorem ok_may {x : RecD} (h : okRec x = true) : may x.name = true := by unfold okRec at h; simp only [Bool.and_eq_true] at h; exact h.1
theorem each_here {l : List RecD} {s : SetD} (hs : s ∈ groupR l) {d : List UInt8} (hd : d ∈ s.data) : l.any (hereB s d) = true := by
  obtain ⟨x, h1, h2, h3, h4⟩ := (group_in hs).1 hd
  rw [List.any_eq_true]
  refine ⟨x, h1, ?_⟩
  unfold recK keyT at h3
  simp only [Prod.mk.injEq] at h3
  unfold hereB
  rw [h2, (key_same (group_name hs) (ok_may h2)).2 h3.1]
  rw [h4]
  simp [h3.2.1, h3.2.2]
theorem any_snoc (f : RecD → Bool) (l : List RecD) (k : Nat) (h : k < l.length) : (l.take (k + 1)).any f = ((l.take k).any f || f l[k]) := by
  rw [take_snoc l k h, List.any_append]; simp

/-! ### Least -/
def atS (s : SetD) (x : RecD) : Bool := okRec x && (sameN x.name s.name && (x.typ == s.typ && x.cls == s.cls))
def leastTo (l : List RecD) (s : SetD) (k : Nat) : Int := (l.take k).foldl (fun m x => if atS s x then min m (timeT x.ttl) else m) 2147483647
theorem leastTo_step (l : List RecD) (s : SetD) (k : Nat) (h : k < l.length) : leastTo l s (k + 1) = if atS s l[k] then min (leastTo l s k) (timeT l[k].ttl) else leastTo l s k := by
  unfold leastTo; rw [take_snoc l k h, List.foldl_append]; rfl
theorem atS_key {s : SetD} (hs : may s.name = true ∧ low s.name = s.name) (x : RecD) : atS s x = (okRec x && decide (recK x = keyT s)) := by
  unfold atS
  rcases ho : okRec x with _ | _
  · rfl
  · rw [Bool.true_and, Bool.true_and, Bool.eq_iff_iff]
    simp only [Bool.and_eq_true, beq_iff_eq, decide_eq_true_eq, recK, keyT, Prod.mk.injEq, key_same hs (ok_may ho)]
theorem least_end {l : List RecD} {s : SetD} (hs : s ∈ groupR l) : leastTo l s l.length = s.ttl := by
  rw [(group_ttl hs).1]
  unfold leastTo minT ofK
  rw [List.take_length, List.foldl_filter]
  congr 1
  funext m x
  rw [atS_key (group_name hs)]
theorem timeT_bd {x : Int} (h : 0 ≤ x) : 0 ≤ timeT x ∧ timeT x ≤ 2147483647 := by unfold timeT; split <;> omega
theorem leastTo_bd (l : List RecD) (s : SetD) (hl : ∀ r ∈ l, 0 ≤ r.ttl) : ∀ k, k ≤ l.length → 0 ≤ leastTo l s k ∧ leastTo l s k ≤ 2147483647
  | 0, _ => by simp [leastTo]
  | k + 1, h => by
    rw [leastTo_step l s k (by omega)]
    have h1 := leastTo_bd l s hl k (by omega)
    have h2 := timeT_bd (hl l[k] (List.getElem_mem _))
    split <;> omega
def strip (r : RecD) : RecD := { r with ttl := 0 }
theorem strip_same (r : RecD) : okRec (strip r) = okRec r ∧ recK (strip r) = recK r ∧ rfold (strip r).typ (strip r).data = rfold r.typ r.data := ⟨rfl, rfl, rfl⟩
theorem ofK_strip (l : List RecD) (K : KeyD) : ofK (l.map strip) K = (ofK l K).map strip := by
  unfold ofK
  rw [List.filter_map]
  rfl
theorem datT_strip (l : List RecD) : datT (l.map strip) = datT l := by
  unfold datT
  rw [List.map_map]
  rfl
theorem ofK_other {l m : List RecD} (h : l.map strip = m.map strip) (K : KeyD) : (ofK l K = [] ↔ ofK m K = []) ∧ datT (ofK l K) = datT (ofK m K) := by
  have e : (ofK l K).map strip = (ofK m K).map strip := by rw [← ofK_strip, ← ofK_strip, h]
  constructor
  · rw [← List.map_eq_nil_iff (f := strip), e, List.map_eq_nil_iff]
  · rw [← datT_strip, e, datT_strip]
def timeS (m : List RecD) (s : SetD) : SetD := { s with ttl := minT (ofK m (keyT s)) }
theorem group_other {l m : List RecD} (h : l.map strip = m.map strip) : groupR m = (groupR l).map (timeS m) := by
  refine rise_ext (group_rise m) ?_ (fun x => ?_)
  · unfold RiseS
    rw [List.pairwise_map]
    exact group_rise l
  · rw [group_mem, List.mem_map]
    constructor
    · rintro ⟨h1, h2⟩
      have h3 : ofK l (keyT x) ≠ [] := fun e => h1 ((ofK_other h _).1.1 e)
      refine ⟨setK l (keyT x), (group_mem l _).2 ⟨h3, rfl⟩, ?_⟩
      rw [h2]
      unfold timeS setK
      dsimp only [keyT]
      rw [(ofK_other h _).2]
    · rintro ⟨s, hs, rfl⟩
      obtain ⟨h1, h2⟩ := (group_mem l s).1 hs
      have hk : keyT (timeS m s) = keyT s := rfl
      rw [hk]
      refine ⟨fun e => h1 ((ofK_other h _).1.2 e), ?_⟩
      unfold timeS setK
      rw [← (ofK_other h _).2, ← group_dat hs]
      rfl
theorem set_strip (l : List RecD) (k : Nat) (h : k < l.length) (r : RecD) (e : strip r = strip l[k]) : l.map strip = (l.set k r).map strip := by
  rw [List.map_set, e]
  have : strip l[k] = (l.map strip)[k]'(by simpa using h) := by simp
  rw [this]
  exact (List.set_getElem_self _).symm
theorem set_outside (l : List RecD) (k : Nat) (h : k < l.length) (r : RecD) (K : KeyD) (h1 : okRec l[k] = false ∨ recK l[k] ≠ K) (h2 : okRec r = false ∨ recK r ≠ K) : ofK (l.set k r) K = ofK l K := by
  have e : l = l.take k ++ l[k] :: l.drop (k + 1) := by rw [← List.drop_eq_getElem_cons h, List.take_append_drop]
  have e2 : l.set k r = l.take k ++ r :: l.drop (k + 1) := by rw [List.set_eq_take_append_cons_drop, if_pos h]
  have f : ∀ x : RecD, (okRec x = false ∨ recK x ≠ K) → (okRec x && decide (recK x = K)) = false := by
    rintro x (hx | hx)
    · simp [hx]
    · simp [hx]
  rw [e2]
  conv => rhs; rw [e]
  unfold ofK
  rw [List.filter_append, List.filter_append, List.filter_cons_of_neg (by rw [f _ h2]; simp), List.filter_cons_of_neg (by rw [f _ h1]; simp)]
def itsB (x : RecD) (s : SetD) : Bool := sameN x.name s.name && (x.typ == s.typ && x.cls == s.cls)
theorem its_out {s : SetD} (hs : may s.name = true ∧ low s.name = s.name) {x : RecD} (h : itsB x s = false) : okRec x = false ∨ recK x ≠ keyT s := by
  rcases ho : okRec x with _ | _
  · exact .inl rfl
  · refine .inr fun e => ?_
    unfold recK keyT at e
    simp only [Prod.mk.injEq] at e
    unfold itsB at h
    rw [(key_same hs (ok_may ho)).2 e.1] at h
    simp [e.2.1, e.2.2] at h
/-- Another TTL of one record. -/
def setTtl (r : RecD) (t : Int) : RecD := ⟨r.name, r.typ, r.cls, t, r.data⟩
def ttlS (s : SetD) (t : Int) : SetD := ⟨s.name, s.typ, s.cls, t, s.data⟩
theorem least_other (l : List RecD) (k : Nat) (h : k < l.length) (t : Int) : (groupR (l.set k (setTtl l[k] t))).length = (groupR l).length ∧
    ∀ (i : Nat) (s : SetD), (groupR l)[i]? = some s → ∃ s' : SetD, (groupR (l.set k (setTtl l[k] t)))[i]? = some s' ∧ ttlS s' s.ttl = s ∧ (itsB l[k] s = false → s'.ttl = s.ttl) := by
  have e := group_other (set_strip l k h (setTtl l[k] t) rfl)
  generalize hm : l.set k (setTtl l[k] t) = m at *
  rw [e]
  refine ⟨by simp, fun i s hs => ⟨timeS m s, by rw [List.getElem?_map, hs]; rfl, rfl, fun ho => ?_⟩⟩
  have hmm := List.mem_of_getElem? hs
  have hout := its_out (group_name hmm) ho
  unfold timeS
  dsimp only
  rw [← hm, set_outside l k h (setTtl l[k] t) _ hout hout, ← (group_ttl hmm).1]

/-! ### Rows -/
def zeroR : RecD := ⟨[], 0, 0, 0, []⟩
def turnTo (l : List RecD) (r k : Nat) : List RecD := (List.range k).map fun i => l.getD ((i + r) % l.length) ⟨[], 0, 0, 0, []⟩
def backTo (l : List RecD) (k : Nat) : List RecD := (List.range k).map fun i => l.getD (l.length - 1 - i) ⟨[], 0, 0, 0, []⟩
theorem turnTo_len (l : List RecD) (r k : Nat) : (turnTo l r k).length = k := by simp [turnTo]
theorem backTo_len (l : List RecD) (k : Nat) : (backTo l k).length = k := by simp [backTo]
theorem turnTo_step (l : List RecD) (r k j : Nat) (hj : j < l.length) (e : (k + r) % l.length = j) : turnTo l r (k + 1) = turnTo l r k ++ [l[j]] := by
  unfold turnTo
  rw [List.range_succ, List.map_append, List.map_cons, List.map_nil, e, List.getD_eq_getElem?_getD, List.getElem?_eq_getElem hj]; rfl
theorem backTo_step (l : List RecD) (k j : Nat) (hj : j < l.length) (e : l.length - 1 - k = j) : backTo l (k + 1) = backTo l k ++ [l[j]] := by
  unfold backTo
  rw [List.range_succ, List.map_append, List.map_cons, List.map_nil, e, List.getD_eq_getElem?_getD, List.getElem?_eq_getElem hj]; rfl
theorem group_turned (l : List RecD) (r : Nat) (hr : r < l.length) : groupR (turnTo l r l.length) = groupR l := group_set (turn_mem l r hr)
theorem group_backw (l : List RecD) : groupR (backTo l l.length) = groupR l := group_set (back_mem l)
theorem group_twice (l : List RecD) (k : Nat) : groupR (l ++ l.take k) = groupR l := group_set (twice_mem l k)
theorem turnTo_mem {l : List RecD} {r k : Nat} (hl : 0 < l.length) {x : RecD} (h : x ∈ turnTo l r k) : x ∈ l := by
  unfold turnTo at h
  obtain ⟨i, _, rfl⟩ := List.mem_map.1 h
  have : (i + r) % l.length < l.length := Nat.mod_lt _ hl
  rw [List.getD_eq_getElem?_getD, List.getElem?_eq_getElem this]; exact List.getElem_mem _
theorem backTo_mem {l : List RecD} {k : Nat} (hl : 0 < l.length) {x : RecD} (h : x ∈ backTo l k) : x ∈ l := by
  unfold backTo at h
  obtain ⟨i, _, rfl⟩ := List.mem_map.1 h
  have : l.length - 1 - i < l.length := by omega
  rw [List.getD_eq_getElem?_getD, List.getElem?_eq_getElem this]; exact List.getElem_mem _
end Go.Proofs.YthdlgmfeicikpaaGreatDoor
