/- Contracts of functions and plain lemmas that the proofs of this seat share (joined texts). No condition. -/
import Derived.Test.YtbmjfjgfognimaaGreatDoorKj
import Derived.Test.YtbmjfjgfognimaaGreatDoorKu
namespace Go.Proofs.YtbmjfjgfognimaaGreatDoor
set_option linter.unusedSimpArgs false
set_option linter.unusedVariables false
open Go.RowKit

def recsOf (s : SetD) : List RecD := s.data.map fun d => ⟨s.name, s.typ, s.cls, s.ttl, d⟩
/-- A turn of records that keeps their keys, times and folded data. -/
theorem group_map {f : RecD → RecD} (hf : ∀ x, okRec (f x) = okRec x ∧ recK (f x) = recK x ∧ (f x).ttl = x.ttl ∧ rfold (f x).typ (f x).data = rfold x.typ x.data) (l : List RecD) : groupR (l.map f) = groupR l := by
  have hof : ∀ K, ofK (l.map f) K = (ofK l K).map f := fun K => by
    unfold ofK
    rw [List.filter_map]
    congr 1
    apply List.filter_congr
    intro x _
    simp only [Function.comp, (hf x).1, (hf x).2.1]
  refine group_congr fun K => ⟨by rw [hof]; simp, fun _ => ?_⟩
  unfold setK
  rw [hof]
  congr 1
  · unfold minT; rw [List.foldl_map]; simp only [(hf _).2.2.1]
  · unfold datT; rw [List.map_map]
    exact congrArg canon (List.map_congr_left fun x _ => (hf x).2.2.2)
/-! ### A set's parts -/
theorem group_ttl {l : List RecD} {s : SetD} (hs : s ∈ groupR l) : s.ttl = minT (ofK l (keyT s)) ∧ s.ttl ≤ 2147483647 := by
  have := ((group_mem l s).1 hs).2
  have h2 : s.ttl = minT (ofK l (keyT s)) := congrArg SetD.ttl this
  exact ⟨h2, by rw [h2]; exact (minT_le _).1⟩
theorem group_dat {l : List RecD} {s : SetD} (hs : s ∈ groupR l) : s.data = datT (ofK l (keyT s)) := congrArg SetD.data ((group_mem l s).1 hs).2
theorem group_in {l : List RecD} {s : SetD} (hs : s ∈ groupR l) {d : List UInt8} : d ∈ s.data ↔ ∃ x ∈ l, okRec x = true ∧ recK x = keyT s ∧ rfold x.typ x.data = d := by
  rw [group_dat hs]
  unfold datT
  rw [mem_canon, List.mem_map]
  constructor
  · rintro ⟨x, hx, rfl⟩
    obtain ⟨h1, h2, h3⟩ := mem_ofK.1 hx
    exact ⟨x, h1, h2, h3, rfl⟩
  · rintro ⟨x, h1, h2, h3, rfl⟩
    exact ⟨x, mem_ofK.2 ⟨h1, h2, h3⟩, rfl⟩
theorem group_some {l : List RecD} {s : SetD} (hs : s ∈ groupR l) : s.data ≠ [] := by
  obtain ⟨x, hx⟩ := List.exists_mem_of_ne_nil _ ((group_mem l s).1 hs).1
  obtain ⟨h1, h2, h3⟩ := mem_ofK.1 hx
  intro e
  have := (group_in hs).2 ⟨x, h1, h2, h3, rfl⟩
  rw [e] at this; simp at this
theorem timeT_bd {x : Int} (h : 0 ≤ x) : 0 ≤ timeT x ∧ timeT x ≤ 2147483647 := by unfold timeT; split <;> omega
end Go.Proofs.YtbmjfjgfognimaaGreatDoor
namespace Go.Proofs.YtbmjfjgfognimaaGreatDoor
set_option linter.unusedSimpArgs false
set_option linter.unusedVariables false
open Go.RowKit

/-- A turn of sets that changes TTLs alone. -/
def TtlF (f : SetD → SetD) : Prop := ∀ s, f s = { s with ttl := (f s).ttl }
theorem TtlF.name {f : SetD → SetD} (h : TtlF f) (s : SetD) : (f s).name = s.name := by rw [h s]
theorem TtlF.typ {f : SetD → SetD} (h : TtlF f) (s : SetD) : (f s).typ = s.typ := by rw [h s]
theorem TtlF.cls {f : SetD → SetD} (h : TtlF f) (s : SetD) : (f s).cls = s.cls := by rw [h s]
theorem TtlF.data {f : SetD → SetD} (h : TtlF f) (s : SetD) : (f s).data = s.data := by rw [h s]
theorem TtlF.find {f : SetD → SetD} (h : TtlF f) (l : List SetD) (n : List UInt8) (k c : Int) : findS (l.map f) n k c = (findS l n k c).map f := by
  unfold findS
  rw [List.find?_map]
  congr 1
  congr 1
  funext s
  simp only [Function.comp, hitS, h.name, h.typ, h.cls]
theorem TtlF.target {f : SetD → SetD} (h : TtlF f) (s : SetD) : targetS (f s) = targetS s := by unfold targetS; rw [h.data]
theorem toList_map {α β : Type} (f : α → β) (o : Option α) : (o.map f).toList = o.toList.map f := by cases o <;> rfl
def FolR.mapT (f : SetD → SetD) (R : FolR) : FolR := ⟨R.path.map f, R.here, R.fin.map f, R.err⟩
theorem TtlF.followF {f : SetD → SetD} (h : TtlF f) (l : List SetD) (ty cls : Int) : ∀ (n : Nat) (here : List UInt8) (seen : List (List UInt8)) (path : List SetD), Go.Proofs.YtbmjfjgfognimaaGreatDoor.followF (l.map f) ty cls n here seen (path.map f) = (Go.Proofs.YtbmjfjgfognimaaGreatDoor.followF l ty cls n here seen path).mapT f
  | 0, here, seen, path => rfl
  | n + 1, here, seen, path => by
    simp only [Go.Proofs.YtbmjfjgfognimaaGreatDoor.followF]
    rw [h.find, h.find]
    by_cases h5 : ty = 5
    · rw [if_pos h5, if_pos h5, toList_map]; rfl
    · rw [if_neg h5, if_neg h5]
      rcases hf : findS l here 5 cls with _ | a
      · rw [Option.map_none, toList_map]; rfl
      · rw [Option.map_some]
        dsimp only
        rw [List.length_map, h.target]
        by_cases hp : path.length = 8
        · rw [if_pos hp, if_pos hp]; rfl
        · rw [if_neg hp, if_neg hp]
          rcases ht : targetS a with _ | next
          · rfl
          · dsimp only
            rw [Option.isSome_map]
            by_cases hb : (findS l here ty cls).isSome = true
            · rw [if_pos hb, if_pos hb]; rfl
            · rw [if_neg hb, if_neg hb]
              by_cases hc : seen.contains next = true
              · rw [if_pos hc, if_pos hc]; rfl
              · rw [if_neg hc, if_neg hc]
                have := h.followF l ty cls n next (seen ++ [next]) (path ++ [a])
                rw [List.map_append] at this
                exact this
/-- The verdict, but for its time. -/
def VerR.same (R T : VerR) : Prop := R.code = T.code ∧ R.sets = T.sets ∧ R.soa = T.soa ∧ R.err = T.err
end Go.Proofs.YtbmjfjgfognimaaGreatDoor
