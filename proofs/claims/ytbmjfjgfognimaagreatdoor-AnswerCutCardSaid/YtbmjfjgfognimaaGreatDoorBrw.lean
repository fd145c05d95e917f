/- Contracts of functions and plain lemmas that the proofs of this seat share (joined texts). No condition. -/
import Derived.Test.YtbmjfjgfognimaaGreatDoorBrz
import Derived.Deep.RegionHeld3
import Derived.Test.YtbmjfjgfognimaaGreatDoorBrr
namespace Go.Proofs.YtbmjfjgfognimaaGreatDoor
set_option linter.unusedSimpArgs false
set_option linter.unusedVariables false
open Go.RowKit
set_option maxRecDepth 100000

end Go.Proofs.YtbmjfjgfognimaaGreatDoor
namespace Go.Proofs.YtbmjfjgfognimaaGreatDoor
set_option linter.unusedSimpArgs false
set_option linter.unusedVariables false
/-- The records of sets, each with its set's TTL. -/
def rowsOf (l : List SetD) : List RecD := l.flatMap fun s => s.data.map fun d => ⟨s.name, s.typ, s.cls, s.ttl, d⟩
def rowOk (r : RecD) : Bool := may r.name && rmay r.typ r.data
theorem rows_timed (l : List SetD) (t : Int) : (rowsOf l).map (timedR t) = recsT l t := by
  induction l with
  | nil => rfl
  | cons s l ih =>
    have e1 : rowsOf (s :: l) = (s.data.map fun d => ⟨s.name, s.typ, s.cls, s.ttl, d⟩) ++ rowsOf l := rfl
    have e2 : recsT (s :: l) t = (s.data.map fun d => ⟨s.name, s.typ, s.cls, t, d⟩) ++ recsT l t := rfl
    rw [e1, e2, List.map_append, ih, List.map_map]
    rfl
theorem rows_ok (l : List SetD) (t : Int) : (recsT l t).all rowOk = (rowsOf l).all rowOk := by
  rw [← rows_timed, List.all_map]; rfl
theorem rows_len {l : List SetD} (h : SmL l) : (rowsOf l).length ≤ 16000 := by
  have key : ∀ l : List SetD, (∀ s ∈ l, s.data.length ≤ 400) → (rowsOf l).length ≤ l.length * 400 := by
    intro l
    induction l with
    | nil => intro _; exact Nat.zero_le _
    | cons s l ih =>
      intro h
      have e1 : rowsOf (s :: l) = (s.data.map fun d => ⟨s.name, s.typ, s.cls, s.ttl, d⟩) ++ rowsOf l := rfl
      rw [e1, List.length_append, List.length_map, List.length_cons]
      have := h s (List.mem_cons_self ..)
      have := ih (fun x hx => h x (List.mem_cons_of_mem _ hx))
      omega
  have h1 := key l (fun s hs => (h.2 s hs).2.1)
  have h2 := h.1
  omega
theorem rows_wf {l : List SetD} (h : ∀ s ∈ l, s.wfT) : ∀ r ∈ rowsOf l, (0 ≤ r.typ ∧ r.typ ≤ 65535) := fun r hr => by
  unfold rowsOf at hr
  obtain ⟨s, hs, hr⟩ := List.mem_flatMap.1 hr
  obtain ⟨d, hd, rfl⟩ := List.mem_map.1 hr
  exact (h s hs).1
theorem rows_take (l : List SetD) (k : Nat) (h : k < l.length) : rowsOf (l.take (k + 1)) = rowsOf (l.take k) ++ (l[k].data.map fun d => ⟨l[k].name, l[k].typ, l[k].cls, l[k].ttl, d⟩) := by
  unfold rowsOf
  rw [List.take_succ_eq_append_getElem h, List.flatMap_append]
  simp
theorem all_take {α : Type} (l : List α) (p : α → Bool) (k : Nat) (h : k < l.length) : (l.take (k + 1)).all p = ((l.take k).all p && p l[k]) := by
  rw [List.take_succ_eq_append_getElem h, List.all_append]; simp
theorem rows_step (l : List SetD) (k : Nat) (s : SetD) (h : l[k]? = some s) : rowsOf (l.take (k + 1)) = rowsOf (l.take k) ++ recs1 s s.ttl s.data.length := by
  obtain ⟨hk, rfl⟩ := List.getElem?_eq_some_iff.1 h
  rw [rows_take l k hk]
  unfold recs1
  rw [List.take_length]
theorem rows_sm {l : List SetD} (h : SmL l) : ∀ r ∈ rowsOf l, r.name.length ≤ 400 ∧ r.data.length ≤ 5000 := fun r hr => by
  unfold rowsOf at hr
  obtain ⟨s, hs, hr⟩ := List.mem_flatMap.1 hr
  obtain ⟨d, hd, rfl⟩ := List.mem_map.1 hr
  exact ⟨(h.2 s hs).1, (h.2 s hs).2.2 d hd⟩
theorem rows_take_len {l : List SetD} (h : SmL l) (k : Nat) : (rowsOf (l.take k)).length ≤ 16000 := rows_len ⟨by rw [List.length_take]; have := h.1; omega, fun s hs => h.2 s (List.mem_of_mem_take hs)⟩
def lsK (sets soa : List SetD) (k : Nat) : List SetD := if k = 0 then sets else soa
def mayK (M : Bool) (sets soa : List SetD) : Nat → Bool
  | 0 => M
  | k + 1 => mayK M sets soa k && (rowsOf (lsK sets soa k)).all rowOk
/-- AnswerRows, plainly: an answer is there just if it may be; it is read as the sets' records, or has TC. -/
theorem rows_plain {d : List UInt8} {c : CameD} (hc : LookOk d c) {code : Int} {sets soa : List SetD} {ttl size : Int} (h1 : ∀ s ∈ sets, s.wfT) (h2 : ∀ s ∈ soa, s.wfT) (ht : 0 ≤ ttl ∧ ttl ≤ 4294967295) (s1 : SmL sets) (s2 : SmL soa) :
    ((ansMay c code sets soa ttl size ∧ (rowsOf sets).all rowOk = true ∧ (rowsOf soa).all rowOk = true) ↔ ansOf c code sets soa ttl size ≠ []) ∧
    (ansOf c code sets soa ttl size ≠ [] → (ansOf c code sets soa ttl size).length ≤ 65535 ∧ ∃ m, decR (ansOf c code sets soa ttl size) = .ok m ∧ m.hd.code = code ∧ m.ans.length ≤ 65535 ∧ m.auth.length ≤ 65535 ∧
      (m.hd.tc = true ∨ (m.hd.tc = false ∧ m.ans = recsT sets ttl ∧ m.auth = recsT soa ttl))) := by
  have l1 : (recsT sets ttl).length ≤ 16000 := by rw [← rows_timed, List.length_map]; exact rows_len s1
  have l2 : (recsT soa ttl).length ≤ 16000 := by rw [← rows_timed, List.length_map]; exact rows_len s2
  have hfm : ∀ hk : c.kind = 3, mayM (fullOf c code sets soa ttl size) = ((rowsOf sets).all rowOk && (rowsOf soa).all rowOk) := fun hk => by
    rw [full_may hc code ttl size hk (by omega) (by omega), ← rows_ok sets ttl, ← rows_ok soa ttl]; rfl
  refine ⟨⟨fun ⟨hM, a1, a2⟩ => ?_, fun h => ?_⟩, fun h => ?_⟩
  · have hm : mayM (fullOf c code sets soa ttl size) = true := by rw [hfm hM.1, a1, a2]; rfl
    unfold ansOf
    rw [if_pos ⟨hM, hm⟩]
    split
    · rename_i hr; exact enc_ne hr.1
    · obtain ⟨b1, b2, b3⟩ := hc.asks hM.1
      exact enc_ne (blank_enc code size (c := c) (by omega) hc.q true).1
  · obtain ⟨⟨hM, hm⟩, _⟩ := ans_read hc h1 h2 ht h
    rw [hfm hM.1, Bool.and_eq_true] at hm
    exact ⟨hM, hm.1, hm.2⟩
  · obtain ⟨⟨hM, hm⟩, hor⟩ := ans_read hc h1 h2 ht h
    have hcode : code % 4096 % 16 = code := by rcases hM.2.2.1 with rfl | rfl <;> rfl
    rcases hor with ⟨hr, e, hd, _⟩ | ⟨hr, e, hd, hl⟩
    · have e1 := (enc_may hr.1).2
      refine ⟨by rw [e, e1.2]; exact e1.1, _, hd, hcode, ?_, ?_, ?_⟩
      · show (recsT sets ttl).length ≤ _; omega
      · show (recsT soa ttl).length ≤ _; omega
      · cases htc : (fullOf c code sets soa ttl size).hd.tc with
        | true => exact .inl rfl
        | false => exact .inr ⟨rfl, rfl, rfl⟩
    · exact ⟨by omega, _, hd, hcode, Nat.zero_le _, Nat.zero_le _, .inl rfl⟩
end Go.Proofs.YtbmjfjgfognimaaGreatDoor
