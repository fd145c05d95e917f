/- Contracts of functions and plain lemmas that the proofs of this seat share (joined texts). No condition. -/
import Derived.Test.YtebkdcamblifoaaGreatDoorBrz
import Derived.Deep.RegionHeld3
import Derived.Test.YtebkdcamblifoaaGreatDoorBrr
namespace Go.Proofs.YtebkdcamblifoaaGreatDoor
set_option linter.unusedSimpArgs false
set_option linter.unusedVariables false
open Go.RowKit
set_option maxRecDepth 100000

set_option maxHeartbeats 2000000 in
theorem rrset_records7 (s : SetD) (dv : Value) (lo : Nat) (w : World) (hd : Strs w lo dv s.data) (hl : s.data.length ≤ 1048576) :
    Calls Tryz.prog 25 #[setVal s dv] w (ORec7Post (recs1 s s.ttl s.data.length) w) := by
  obtain ⟨nm, ty, cl, tt, da⟩ := s
  dsimp only at *
  obtain ⟨A, c, rfl, h1, h2, hrd⟩ := hd
  unfold maxLen at h2
  obtain ⟨i0, hi0, hz0, hz1, hz2⟩ := info_parts info_rec7
  go_enter Tryz.func25, Tryz.ntmps25
  go_wp2_with fail
  go_loopw [3, 4, 8] (fun v _ i wr => ∃ (k : Nat) (B : Option Addr) (d : Nat), k ≤ da.length ∧ i = .int .i64 k ∧ v = .slice B k d ∧ Own wr (w.heap.size + 1) 65 5 B k d ((recs1 ⟨nm, ty, cl, tt, da⟩ tt k).flatMap recCells) ∧ Ext (w.alloc (.cells #[S nm, .int .u16 ty, .int .u16 cl, .int .u32 tt, .slice A da.length c] 45)) wr) (fun _ _ i _ => da.length - (intOf i).toNat)
  case atStart => exact ⟨0, none, 0, by omega, rfl, rfl, Own.nil _ _ _ _, Ext.refl _⟩
  case round =>
    obtain ⟨k, B, d, hk, rfl, rfl, hown, hE⟩ := hrel
    obtain ⟨wo, rfl⟩ : ∃ wo : World, wo = wr := ⟨_, rfl⟩
    have hEw : Ext w wo := ((Ext.refl w).alloc _).trans hE
    by_cases hlt : k < da.length
    · obtain ⟨bq, _, bqz⟩ := ext_new hE
      have b0 : wo.cell? ⟨w.heap.size, 0, none⟩ = some (S nm) := bq 0
      have b1 : wo.cell? ⟨w.heap.size, 1, none⟩ = some (.int .u16 ty) := bq 1
      have b2 : wo.cell? ⟨w.heap.size, 2, none⟩ = some (.int .u16 cl) := bq 2
      have b3 : wo.cell? ⟨w.heap.size, 3, none⟩ = some (.int .u32 tt) := bq 3
      have b4 : wo.cell? ⟨w.heap.size, 4, none⟩ = some (.slice A da.length c) := bq 4
      obtain ⟨g, off, rfl, _, hgz, gc⟩ := hrd.2 (by omega)
      have hck := (hEw.cell (p := ⟨g, off + k, none⟩) hgz).trans (gc k (S da[k]) (by simp [List.getElem?_eq_getElem hlt]))
      have HT := Lib.hid (show recs1 ⟨nm, ty, cl, tt, da⟩ tt (k + 1) = recs1 ⟨nm, ty, cl, tt, da⟩ tt k ++ [⟨nm, ty, cl, tt, da[k]⟩] by unfold recs1; rw [take_snoc da k hlt, List.map_append]; rfl)
      generalize da[k] = y at *
      have hki : (k : Int) < (da.length : Int) := by omega
      have hk0 : (0 : Int) ≤ (k : Int) := by omega
      have hwz : w.heap.size + 1 ≤ wo.heap.size := bqz
      clear bq gc
      go_wp2_with fail
      go_region_held3 (fun V => V.cell? ⟨w.heap.size, 0, none⟩ = some (S nm) ∧ V.cell? ⟨w.heap.size, 1, none⟩ = some (.int .u16 ty) ∧ V.cell? ⟨w.heap.size, 2, none⟩ = some (.int .u16 cl) ∧ V.cell? ⟨w.heap.size, 3, none⟩ = some (.int .u32 tt) ∧ V.cell? ⟨w.heap.size, 4, none⟩ = some (.slice (some ⟨g, off, none⟩) da.length c) ∧ V.cell? ⟨g, off + k, none⟩ = some (S y))
        (first | go_keep | (have hK : Below (w.heap.size + 1) wo w5 := Below.trans (Below.mono (show Ext wo _ by (repeat (first | with_reducible exact Ext.refl _ | with_reducible assumption | with_reducible refine Ext.alloc ?_ _ | with_reducible refine Ext.drewN ?_ _ | with_reducible refine Ext.drew ?_ | (with_reducible refine Ext.setCell ?_ ?hp _; case hp => (simp <;> omega))))) hwz) hb5; exact ⟨(hK.cell (p := ⟨w.heap.size, 0, none⟩) (Nat.lt_succ_self _)).trans b0, (hK.cell (p := ⟨w.heap.size, 1, none⟩) (Nat.lt_succ_self _)).trans b1, (hK.cell (p := ⟨w.heap.size, 2, none⟩) (Nat.lt_succ_self _)).trans b2, (hK.cell (p := ⟨w.heap.size, 3, none⟩) (Nat.lt_succ_self _)).trans b3, (hK.cell (p := ⟨w.heap.size, 4, none⟩) (Nat.lt_succ_self _)).trans b4, (hK.cell (p := ⟨g, off + k, none⟩) (Nat.lt_succ_of_lt hgz)).trans hck⟩))
        (first
          | (refine step_app _ (by rfl) (.tmp 11) (.tmp 26) _ (by rfl) (w.heap.size + 1) 65 i0 _ 5 40 Tryz.underlying47 hi0 hz0 hz1 hz2 rfl (by omega) B k d ((recs1 ⟨nm, ty, cl, tt, da⟩ tt k).flatMap recCells) (by rfl) (by exact hown.ext (by (repeat (first | with_reducible exact Ext.refl _ | with_reducible assumption | with_reducible refine Ext.alloc ?_ _ | with_reducible refine Ext.drewN ?_ _ | with_reducible refine Ext.drew ?_ | (with_reducible refine Ext.setCell ?_ ?hp _; case hp => (simp <;> omega)))))) 0 _ 1 1 (recCells ⟨nm, ty, cl, tt, y⟩) (by rfl) (by exact (rd_new _ _ (by simp) _ _ 1 5 rfl).drew) (rec_one7 _) (by omega) (by omega) (by simp; omega) ?_; intro A5 c5 w5 hown5 hg5 hb5 hat5))
      have hE5 : Ext (w.alloc (.cells #[S nm, .int .u16 ty, .int .u16 cl, .int .u32 tt, .slice (some ⟨g, off, none⟩) da.length c] 45)) w5 := Ext.then (lo := w.heap.size + 1) (hE.trans (by (repeat (first | with_reducible exact Ext.refl _ | with_reducible assumption | with_reducible refine Ext.alloc ?_ _ | with_reducible refine Ext.drewN ?_ _ | with_reducible refine Ext.drew ?_ | (with_reducible refine Ext.setCell ?_ ?hp _; case hp => (simp <;> omega)))))) hb5 (by simp)
      go_wp2_with fail
      go_roundw
      case rel =>
        refine ⟨k + 1, A5, c5, by omega, by go_num, rfl, ?_, hE5⟩
        rw [HT.out, List.flatMap_append]
        simpa using hown5
      case measure => simp [intOf]; omega
    · obtain rfl : k = da.length := by omega
      go_wp2_with fail
      go_ret
      refine ⟨_, rfl, ⟨B, d, ?_, ?_⟩, hEw⟩
      · simp [recs1]
      · have e : (recs1 ⟨nm, ty, cl, tt, da⟩ tt da.length).length = da.length := by simp [recs1]
        rw [e]
        exact hown.lower (by omega)
end Go.Proofs.YtebkdcamblifoaaGreatDoor
namespace Go.Proofs.YtebkdcamblifoaaGreatDoor
set_option linter.unusedSimpArgs false
set_option linter.unusedVariables false
/-- The records of sets, each with its set's TTL. -/
def rowsOf (l : List SetD) : List RecD := l.flatMap fun s => s.data.map fun d => ⟨s.name, s.typ, s.cls, s.ttl, d⟩
def rowOk (r : RecD) : Bool := may r.name && rmay r.typ r.data
theorem rows_timed (l : List SetD) (t : Int) : (rowsOf l).map (timedR t) = recsT l t := by
  induction l with
  | nil => rfl
  | cons s l ih =>
    have e1 : rowsOf (s :: l) = (s.data.map fun d => ⟨s.name, s.typ, s.cls, s.ttl, d⟩) ++ rowsOf l := rfl
    have e2 : recsT (s :: l) t = (s.data.map fun d => ⟨s.name, s.typ, s.cls, t, d⟩) ++ recsT l t := rfl
    rw [e1, e2, List.map_append, ih, List.map_map]
    rfl
theorem rows_ok (l : List SetD) (t : Int) : (recsT l t).all rowOk = (rowsOf l).all rowOk := by
  rw [← rows_timed, List.all_map]; rfl
theorem rows_len {l : List SetD} (h : SmL l) : (rowsOf l).length ≤ 16000 := by
  have key : ∀ l : List SetD, (∀ s ∈ l, s.data.length ≤ 400) → (rowsOf l).length ≤ l.length * 400 := by
    intro l
    induction l with
    | nil => intro _; exact Nat.zero_le _
    | cons s l ih =>
      intro h
      have e1 : rowsOf (s :: l) = (s.data.map fun d => ⟨s.name, s.typ, s.cls, s.ttl, d⟩) ++ rowsOf l := rfl
      rw [e1, List.length_append, List.length_map, List.length_cons]
      have := h s (List.mem_cons_self ..)
      have := ih (fun x hx => h x (List.mem_cons_of_mem _ hx))
      omega
  have h1 := key l (fun s hs => (h.2 s hs).2.1)
  have h2 := h.1
  omega
theorem rows_wf {l : List SetD} (h : ∀ s ∈ l, s.wfT) : ∀ r ∈ rowsOf l, (0 ≤ r.typ ∧ r.typ ≤ 65535) := fun r hr => by
  unfold rowsOf at hr
  obtain ⟨s, hs, hr⟩ := List.mem_flatMap.1 hr
  obtain ⟨d, hd, rfl⟩ := List.mem_map.1 hr
  exact (h s hs).1
theorem rows_take (l : List SetD) (k : Nat) (h : k < l.length) : rowsOf (l.take (k + 1)) = rowsOf (l.take k) ++ (l[k].data.map fun d => ⟨l[k].name, l[k].typ, l[k].cls, l[k].ttl, d⟩) := by
  unfold rowsOf
  rw [List.take_succ_eq_append_getElem h, List.flatMap_append]
  simp
theorem all_take {α : Type} (l : List α) (p : α → Bool) (k : Nat) (h : k < l.length) : (l.take (k + 1)).all p = ((l.take k).all p && p l[k]) := by
  rw [List.take_succ_eq_append_getElem h, List.all_append]; simp
theorem rows_step (l : List SetD) (k : Nat) (s : SetD) (h : l[k]? = some s) : rowsOf (l.take (k + 1)) = rowsOf (l.take k) ++ recs1 s s.ttl s.data.length := by
  obtain ⟨hk, rfl⟩ := List.getElem?_eq_some_iff.1 h
  rw [rows_take l k hk]
  unfold recs1
  rw [List.take_length]
theorem rows_sm {l : List SetD} (h : SmL l) : ∀ r ∈ rowsOf l, r.name.length ≤ 400 ∧ r.data.length ≤ 5000 := fun r hr => by
  unfold rowsOf at hr
  obtain ⟨s, hs, hr⟩ := List.mem_flatMap.1 hr
  obtain ⟨d, hd, rfl⟩ := List.mem_map.1 hr
  exact ⟨(h.2 s hs).1, (h.2 s hs).2.2 d hd⟩
theorem rows_take_len {l : List SetD} (h : SmL l) (k : Nat) : (rowsOf (l.take k)).length ≤ 16000 := rows_len ⟨by rw [List.length_take]; have := h.1; omega, fun s hs => h.2 s (List.mem_of_mem_take hs)⟩
def lsK (sets soa : List SetD) (k : Nat) : List SetD := if k = 0 then sets else soa
def mayK (M : Bool) (sets soa : List SetD) : Nat → Bool
  | 0 => M
  | k + 1 => mayK M sets soa k && (rowsOf (lsK sets soa k)).all rowOk
/-- AnswerRows, plainly: an answer is there just if it may be; it is read as the sets' records, or has TC. -/
theorem rows_plain {d : List UInt8} {c : CameD} (hc : LookOk d c) {code : Int} {sets soa : List SetD} {ttl size : Int} (h1 : ∀ s ∈ sets, s.wfT) (h2 : ∀ s ∈ soa, s.wfT) (ht : 0 ≤ ttl ∧ ttl ≤ 4294967295) (s1 : SmL sets) (s2 : SmL soa) :
    ((ansMay c code sets soa ttl size ∧ (rowsOf sets).all rowOk = true ∧ (rowsOf soa).all rowOk = true) ↔ ansOf c code sets soa ttl size ≠ []) ∧
    (ansOf c code sets soa ttl size ≠ [] → (ansOf c code sets soa ttl size).length ≤ 65535 ∧ ∃ m, decR (ansOf c code sets soa ttl size) = .ok m ∧ m.hd.code = code ∧ m.ans.length ≤ 65535 ∧ m.auth.length ≤ 65535 ∧
      (m.hd.tc = true ∨ (m.hd.tc = false ∧ m.ans = recsT sets ttl ∧ m.auth = recsT soa ttl))) := by
  have l1 : (recsT sets ttl).length ≤ 16000 := by rw [← rows_timed, List.length_map]; exact rows_len s1
  have l2 : (recsT soa ttl).length ≤ 16000 := by rw [← rows_timed, List.length_map]; exact rows_len s2
  have hfm : ∀ hk : c.kind = 3, mayM (fullOf c code sets soa ttl size) = ((rowsOf sets).all rowOk && (rowsOf soa).all rowOk) := fun hk => by
    rw [full_may hc code ttl size hk (by omega) (by omega), ← rows_ok sets ttl, ← rows_ok soa ttl]; rfl
  refine ⟨⟨fun ⟨hM, a1, a2⟩ => ?_, fun h => ?_⟩, fun h => ?_⟩
  · have hm : mayM (fullOf c code sets soa ttl size) = true := by rw [hfm hM.1, a1, a2]; rfl
    unfold ansOf
    rw [if_pos ⟨hM, hm⟩]
    split
    · rename_i hr; exact enc_ne hr.1
    · obtain ⟨b1, b2, b3⟩ := hc.asks hM.1
      exact enc_ne (blank_enc code size (c := c) (by omega) hc.q true).1
  · obtain ⟨⟨hM, hm⟩, _⟩ := ans_read hc h1 h2 ht h
    rw [hfm hM.1, Bool.and_eq_true] at hm
    exact ⟨hM, hm.1, hm.2⟩
  · obtain ⟨⟨hM, hm⟩, hor⟩ := ans_read hc h1 h2 ht h
    have hcode : code % 4096 % 16 = code := by rcases hM.2.2.1 with rfl | rfl <;> rfl
    rcases hor with ⟨hr, e, hd, _⟩ | ⟨hr, e, hd, hl⟩
    · have e1 := (enc_may hr.1).2
      refine ⟨by rw [e, e1.2]; exact e1.1, _, hd, hcode, ?_, ?_, ?_⟩
      · show (recsT sets ttl).length ≤ _; omega
      · show (recsT soa ttl).length ≤ _; omega
      · cases htc : (fullOf c code sets soa ttl size).hd.tc with
        | true => exact .inl rfl
        | false => exact .inr ⟨rfl, rfl, rfl⟩
    · exact ⟨by omega, _, hd, hcode, Nat.zero_le _, Nat.zero_le _, .inl rfl⟩
end Go.Proofs.YtebkdcamblifoaaGreatDoor
