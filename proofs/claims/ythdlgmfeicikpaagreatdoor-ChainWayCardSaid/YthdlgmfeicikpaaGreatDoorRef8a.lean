/- The walks of hustingsref08: time, put, Before, Find. -/
import Derived.Test.YthdlgmfeicikpaaGreatDoorRef6
import Derived.Test.YthdlgmfeicikpaaGreatDoorRef3
namespace Go.Proofs.YthdlgmfeicikpaaGreatDoor
set_option linter.unusedSimpArgs false
set_option linter.unusedVariables false
open Go.RowKit
set_option maxRecDepth 100000

def timeT (t : Int) : Int := if 2147483647 < t then 0 else t
theorem ref_time (t : Int) (w : World) : Calls Tryz.prog 56 #[.int .u32 t] w fun e w' => e = .returned (.int .u32 (timeT t)) ∧ w = w' := by
  by_cases h : 2147483647 < t
  · rw [show timeT t = 0 by unfold timeT; rw [if_pos h]]
    go_enter Tryz.func56, Tryz.ntmps56
    go_wp2
    go_ret
    exact ⟨rfl, rfl⟩
  · rw [show timeT t = t by unfold timeT; rw [if_neg h]]
    go_enter Tryz.func56, Tryz.ntmps56
    go_wp2
    go_ret
    exact ⟨rfl, rfl⟩

/-- A datum put in ahead of the first greater one. -/
def insB : List (List UInt8) → List UInt8 → List (List UInt8)
  | [], s => [s]
  | x :: r, s => if bl s x then s :: x :: r else x :: insB r s
def putS (l : List (List UInt8)) (s : List UInt8) : List (List UInt8) := if l.contains s then l else insB l s
theorem insB_app_t (a b : List (List UInt8)) (s : List UInt8) (h : a.any (bl s) = true) : insB (a ++ b) s = insB a s ++ b := by
  induction a with
  | nil => simp at h
  | cons x a ih =>
    rw [List.cons_append]
    unfold insB
    by_cases hx : bl s x = true
    · rw [if_pos hx, if_pos hx]; rfl
    · rw [if_neg hx, if_neg hx, List.cons_append, ih (by simpa [hx] using h)]
theorem insB_app_f (a b : List (List UInt8)) (s : List UInt8) (h : a.any (bl s) = false) : insB (a ++ b) s = a ++ insB b s := by
  induction a with
  | nil => rfl
  | cons x a ih =>
    have hx : ¬ bl s x = true := by intro e; simp [e] at h
    rw [List.cons_append]
    conv => lhs; unfold insB
    rw [if_neg hx, List.cons_append, ih (by simpa [hx] using h)]
theorem contains_snoc (a : List (List UInt8)) (x s : List UInt8) (h1 : a.contains s = false) (h2 : x ≠ s) : (a ++ [x]).contains s = false := by
  rw [← Bool.not_eq_true, List.contains_iff_mem] at h1 ⊢
  intro h
  rcases List.mem_append.1 h with h | h
  · exact h1 h
  · rw [List.mem_singleton] at h; exact h2 h.symm
theorem insB_none (a : List (List UInt8)) (s : List UInt8) (h : a.any (bl s) = false) : insB a s = a ++ [s] := by
  have := insB_app_f a [] s h
  rw [List.append_nil] at this
  exact this
/-- What stands in 'out', k data far. -/
def putTo (l : List (List UInt8)) (s : List UInt8) (k : Nat) : List (List UInt8) := if (l.take k).any (bl s) then insB (l.take k) s else l.take k
theorem insB_len (l : List (List UInt8)) (s : List UInt8) : (insB l s).length = l.length + 1 := by
  induction l with
  | nil => rfl
  | cons x r ih => simp only [insB]; split <;> simp [ih]
theorem putTo_len (l : List (List UInt8)) (s : List UInt8) (k : Nat) : (putTo l s k).length ≤ l.length + 1 := by
  unfold putTo
  split
  · rw [insB_len]; simp; omega
  · simp; omega
theorem putTo_step (l : List (List UInt8)) (s : List UInt8) (k : Nat) (h : k < l.length) (x : List UInt8) (hx : l[k] = x) :
    ((l.take k).any (bl s) = false → bl s x = true → putTo l s (k + 1) = putTo l s k ++ [s] ++ [x] ∧ (l.take (k + 1)).any (bl s) = true) ∧
    ((l.take k).any (bl s) = true → putTo l s (k + 1) = putTo l s k ++ [x] ∧ (l.take (k + 1)).any (bl s) = true) ∧
    ((l.take k).any (bl s) = false → bl s x = false → putTo l s (k + 1) = putTo l s k ++ [x] ∧ (l.take (k + 1)).any (bl s) = false) := by
  unfold putTo
  rw [take_snoc l k h, hx, List.any_append]
  refine ⟨fun h1 h2 => ?_, fun h1 => ?_, fun h1 h2 => ?_⟩
  · refine ⟨?_, by simp [h2]⟩
    rw [h1]
    simp only [List.any_cons, List.any_nil, h2, Bool.or_false, Bool.or_true, if_true]
    rw [insB_app_f _ _ _ h1]
    simp [insB, h2]
  · refine ⟨?_, by simp [h1]⟩
    rw [h1]
    simp only [Bool.true_or, if_true]
    rw [insB_app_t _ _ _ h1]
  · refine ⟨?_, by simp [h1, h2]⟩
    rw [h1]
    simp [h2]

def PutPost (lo : Nat) (l : List (List UInt8)) (w : World) (e : Ending) (w' : World) : Prop := ∃ v, e = .returned v ∧ OStrs w' lo v l ∧ Ext w w'

set_option maxHeartbeats 2000000 in
theorem ref_put (lo : Nat) (v : Value) (l : List (List UInt8)) (s : List UInt8) (w : World) (h : OStrs w lo v l) (hlo : lo ≤ w.heap.size) (hl : l.length ≤ 65536) :
    Calls Tryz.prog 57 #[v, S s] w (PutPost lo (putS l s) w) := by
  obtain ⟨A, c, rfl, hown⟩ := h
  have hrd := hown.rd
  obtain ⟨i0, hi0, hz0, hz1, hz2⟩ := info_parts info_str
  obtain ⟨R, hR⟩ : ∃ R, R = putS l s := ⟨_, rfl⟩
  rw [← hR]
  have HR := Lib.hid hR
  clear hR
  go_enter Tryz.func57, Tryz.ntmps57
  go_wp2
  go_loopw [5, 6, 7] (fun o dn i wr => ∃ (k : Nat) (B : Option Addr) (d : Nat), k ≤ l.length ∧ i = .int .i64 k ∧ dn = .bool ((l.take k).any (bl s)) ∧ o = .slice B (putTo l s k).length d ∧ Own wr w.heap.size 9 1 B (putTo l s k).length d ((putTo l s k).map S) ∧ Ext w wr ∧ (l.take k).contains s = false) (fun _ _ i _ => l.length - (intOf i).toNat)
  case atStart => exact ⟨0, none, 0, by omega, rfl, rfl, rfl, Own.nil _ _ _ _, Ext.refl _, rfl⟩
  case round =>
    obtain ⟨k, B, d, hk, rfl, rfl, rfl, ho, hE, hno⟩ := hrel
    obtain ⟨wo, rfl⟩ : ∃ wo : World, wo = wr := ⟨_, rfl⟩
    have Hno := Lib.hid hno
    clear hno
    have hzo := hE.size
    by_cases hlt : k < l.length
    · obtain ⟨b, off, rfl, _, hbz, hc⟩ := hrd.2 (by omega)
      have hck := hc k (S l[k]) (by simp [List.getElem?_eq_getElem hlt])
      obtain ⟨x, hx⟩ : ∃ x, x = l[k] := ⟨_, rfl⟩
      rw [← hx] at hck
      have Hx := Lib.hid hx
      have Hst := Lib.hid (putTo_step l s k hlt x hx.symm)
      have hpl := putTo_len l s k
      rw [← hE.cell (p := ⟨b, _, none⟩) hbz] at hck
      have hbz2 : b < wo.heap.size := Nat.lt_of_lt_of_le hbz hE.size
      clear hc hrd hx
      generalize putTo l s k = T at *
      by_cases hs : x = s
      · have f1 : (x == s) = true := by rw [hs]; simp
        have HF := Lib.hid (show R = l by
          rw [HR.out]; unfold putS
          rw [if_pos (by rw [List.contains_iff_mem, ← hs, Hx.out]; exact List.getElem_mem hlt)])
        clear hs
        generalize (l.take k).any (bl s) = dn at *
        go_wp2_with fail
        go_ret
        exact ⟨_, rfl, by rw [HF.out]; exact ⟨_, c, rfl, hown.ext hE⟩, hE⟩
      · have f1 : (x == s) = false := by rw [beq_eq_false_iff_ne]; exact hs
        have HN : Hid ((l.take (k + 1)).contains s = false) := by
          show _ = _
          rw [take_snoc l k hlt, ← Hx.out]
          exact contains_snoc _ _ _ Hno.out hs
        rcases hdn : (l.take k).any (bl s) with _ | _
        · rcases hlx : bl s x with _ | _
          · have g1 : Op.bytesLess x s = true := by
              rcases hq : Op.bytesLess x s with _ | _
              · exact absurd (bl_total x s hq hlx) hs
              · rfl
            have Hs3 := Lib.hid (Hst.out.2.2 hdn hlx)
            clear hs hdn Hst
            go_wp2_with (
               at_builtin
               refine wpList_app _ rfl (.tmp 35) (.tmp 40) _ rfl w.heap.size 9 i0 _ 1 16 Tryz.underlying25 hi0 hz0 hz1 hz2 rfl (by omega) B T.length d (T.map S) rfl (ho.ext ((Ext.refl _).alloc _)) 0 _ 1 1 ([x].map S) rfl (rd_new _ _ rfl _ _ 1 1 rfl) (str_one _) (by omega) (by omega) (by simp; omega) ?_
               intro A5 c5 w5 hown5 hg5 hb5 _)
            go_roundw
            case rel =>
              refine ⟨k + 1, A5, c5, by omega, by go_num, by rw [Hs3.out.2], by rw [Hs3.out.1, List.length_append]; rfl, ?_, (hE.alloc _).then hb5 (Nat.le_refl _), HN.out⟩
              rw [Hs3.out.1, List.length_append, List.map_append]; exact hown5
            case measure => simp [intOf]; omega
          · have g1 : Op.bytesLess x s = false := (bl_asym s x hlx).1
            have Hs1 := Lib.hid (Hst.out.1 hdn hlx)
            clear hs hdn Hst
            go_wp2_with (first
              | (at_builtin
                 refine wpList_app _ rfl (.tmp 31) (.tmp 33) _ rfl w.heap.size 9 i0 _ 1 16 Tryz.underlying25 hi0 hz0 hz1 hz2 rfl (by omega) B T.length d (T.map S) rfl (ho.ext ((Ext.refl _).alloc _)) 0 _ 1 1 ([s].map S) rfl (rd_new _ _ rfl _ _ 1 1 rfl) (str_one _) (by omega) (by omega) (by simp; omega) ?_
                 intro A4 c4 w4 hown4 hg4 hb4 _
                 have hE4 : Ext w w4 := (hE.alloc _).then hb4 (Nat.le_refl _)
                 have hzz4 := hE4.size
                 have hck4 : w4.cell? ⟨b, off + k, none⟩ = some (S x) := (hb4.cell (p := ⟨b, _, none⟩) hbz).trans ((World.cell?_alloc_lt _ _ ⟨b, _, none⟩ hbz2).trans hck))
              | (at_builtin
                 refine wpList_app _ rfl (.tmp 35) (.tmp 40) _ rfl w.heap.size 9 i0 _ 1 16 Tryz.underlying25 hi0 hz0 hz1 hz2 rfl (by omega) A4 (T.length + 1) c4 (T.map S ++ [s].map S) rfl (hown4.ext ((Ext.refl _).alloc _)) 0 _ 1 1 ([x].map S) rfl (rd_new _ _ rfl _ _ 1 1 rfl) (str_one _) (by omega) (by omega) (by simp; omega) ?_
                 intro A5 c5 w5 hown5 hg5 hb5 _))
            go_roundw
            case rel =>
              refine ⟨k + 1, A5, c5, by omega, by go_num, by rw [Hs1.out.2], by rw [Hs1.out.1, List.length_append, List.length_append]; rfl, ?_, (hE4.alloc _).then hb5 (Nat.le_refl _), HN.out⟩
              rw [Hs1.out.1, List.length_append, List.length_append, List.map_append, List.map_append]; exact hown5
            case measure => simp [intOf]; omega
        · have Hs2 := Lib.hid (Hst.out.2.1 hdn)
          clear hs hdn Hst
          go_wp2_with (
             at_builtin
             refine wpList_app _ rfl (.tmp 35) (.tmp 40) _ rfl w.heap.size 9 i0 _ 1 16 Tryz.underlying25 hi0 hz0 hz1 hz2 rfl (by omega) B T.length d (T.map S) rfl (ho.ext ((Ext.refl _).alloc _)) 0 _ 1 1 ([x].map S) rfl (rd_new _ _ rfl _ _ 1 1 rfl) (str_one _) (by omega) (by omega) (by simp; omega) ?_
             intro A5 c5 w5 hown5 hg5 hb5 _)
          go_roundw
          case rel =>
            refine ⟨k + 1, A5, c5, by omega, by go_num, by rw [Hs2.out.2], by rw [Hs2.out.1, List.length_append]; rfl, ?_, (hE.alloc _).then hb5 (Nat.le_refl _), HN.out⟩
            rw [Hs2.out.1, List.length_append, List.map_append]; exact hown5
          case measure => simp [intOf]; omega
    · have e1 : l.take k = l := List.take_of_length_le (by omega)
      have hpl := putTo_len l s k
      have HP := Lib.hid (show putTo l s k = if l.any (bl s) then insB l s else l by unfold putTo; rw [e1])
      rw [e1] at Hno ⊢
      have HI := Lib.hid (show R = insB l s by rw [HR.out]; unfold putS; rw [if_neg (by rw [Hno.out]; simp)])
      clear e1
      generalize putTo l s k = T at *
      rcases hdn : l.any (bl s) with _ | _
      · rw [hdn] at HP
        have HT := Lib.hid (show T = l from HP.out)
        have HJ := Lib.hid (insB_none l s hdn)
        clear hdn
        go_wp2_with (
           at_builtin
           refine wpList_app _ rfl (.tmp 44) (.tmp 46) _ rfl w.heap.size 9 i0 _ 1 16 Tryz.underlying25 hi0 hz0 hz1 hz2 rfl (by omega) B T.length d (T.map S) rfl (ho.ext ((Ext.refl _).alloc _)) 0 _ 1 1 ([s].map S) rfl (rd_new _ _ rfl _ _ 1 1 rfl) (str_one _) (by omega) (by omega) (by simp; omega) ?_
           intro A5 c5 w5 hown5 hg5 hb5 _)
        go_ret
        refine ⟨_, rfl, ?_, (hE.alloc _).then hb5 (Nat.le_refl _)⟩
        rw [HI.out, HJ.out, ← HT.out]
        refine ⟨A5, c5, by simp, ?_⟩
        rw [List.length_append, List.map_append]; exact hown5.lower hlo
      · rw [hdn] at HP
        have HT := Lib.hid (show T = insB l s from HP.out)
        clear hdn
        go_wp2_with fail
        go_ret
        refine ⟨_, rfl, ?_, hE⟩
        rw [HI.out, ← HT.out]
        exact ⟨B, d, rfl, ho.lower hlo⟩
end Go.Proofs.YthdlgmfeicikpaaGreatDoor
