/- hustingslaw11.VerdictForm returns true for every input, and every argument reads behind the call as it read before; the listed variable (errors.errorType) is tied to the program's text. No condition of ours. -/
import Derived.Test.YtbdjoihckienbaaGreatDoorBg1
import Derived.Test.YtbdjoihckienbaaGreatDoorBw
import Derived.Test.YtbdjoihckienbaaGreatDoorBrl
import Derived.Test.YtbdjoihckienbaaGreatDoorBht
import Derived.Test.YtbdjoihckienbaaGreatDoorBx
import Derived.Test.YtbdjoihckienbaaGreatDoorBu
import Derived.Great.Walk
import Derived.Great.BuildSlice
import Derived.Test.YtbdjoihckienbaaGreatDoorBy
import Derived.Test.YtbdjoihckienbaaGreatDoorBn
namespace Go.Proofs.YtbdjoihckienbaaGreatDoor
set_option linter.unusedSimpArgs false
set_option linter.unusedVariables false
open Go.RowKit

def isLet (b : UInt8) : Bool := (decide (97 ≤ b.toNat) && decide (b.toNat ≤ 122)) || (decide (65 ≤ b.toNat) && decide (b.toNat ≤ 90))
/-- A byte at place i, its case turned at some places. -/
def letB (at_ i : Nat) (b : UInt8) : UInt8 := if isLet b = true ∧ (at_ + i) % 2 = 0 then b ^^^ 32 else b
def letL (at_ : Nat) (l : List UInt8) : List UInt8 := l.mapIdx (letB at_)
theorem letL_len (at_ : Nat) (l : List UInt8) : (letL at_ l).length = l.length := by simp [letL]
theorem lowB_let (b : UInt8) (h : isLet b = true) : lowB (b ^^^ 32) = lowB b := by
  have key : ∀ n, n < 256 → isLet (UInt8.ofNat n) = true → lowB (UInt8.ofNat n ^^^ 32) = lowB (UInt8.ofNat n) := by decide +kernel
  have e : UInt8.ofNat b.toNat = b := by simp
  have := key b.toNat b.toNat_lt
  rw [e] at this
  exact this h
theorem low_letL (at_ : Nat) (l : List UInt8) : low (letL at_ l) = low l := by
  unfold low letL
  apply List.ext_getElem
  · simp
  · intro i h1 h2
    simp only [List.getElem_mapIdx, List.getElem_map, Function.comp]
    unfold letB
    split
    · rename_i h; exact lowB_let _ h.1
    · rfl
theorem may_letL (at_ : Nat) (l : List UInt8) : may (letL at_ l) = may l := by rw [← may_low (letL at_ l), low_letL, may_low]
theorem fold_letL (at_ : Nat) (l : List UInt8) : fold (letL at_ l) = fold l := by unfold fold; rw [may_letL, low_letL]
def letRec (at_ : Nat) (r : RecD) : RecD := ⟨letL at_ r.name, r.typ, r.cls, r.ttl, r.data⟩
theorem letRec_same (at_ : Nat) (x : RecD) : okRec (letRec at_ x) = okRec x ∧ recK (letRec at_ x) = recK x ∧ (letRec at_ x).ttl = x.ttl ∧ rfold (letRec at_ x).typ (letRec at_ x).data = rfold x.typ x.data :=
  ⟨by unfold okRec letRec; dsimp only; rw [may_letL], by unfold recK letRec; dsimp only; rw [fold_letL], rfl, rfl⟩
/-- Records in another row, one of them twice, the letters of names turned. -/
def rowTurn (l : List RecD) (k : Nat) : List RecD := (l.drop k ++ l.take k) ++ (l.drop k).take 1
def turnR (l : List RecD) (k at_ : Nat) : List RecD := (rowTurn l k).map (letRec at_)
theorem rowTurn_mem (l : List RecD) (k : Nat) (x : RecD) : x ∈ rowTurn l k ↔ x ∈ l := by
  unfold rowTurn
  rw [List.mem_append, List.mem_append]
  constructor
  · rintro ((h | h) | h)
    · exact List.mem_of_mem_drop h
    · exact List.mem_of_mem_take h
    · exact List.mem_of_mem_drop (List.mem_of_mem_take h)
  · intro h
    rw [← List.take_append_drop k l, List.mem_append] at h
    rcases h with h | h
    · exact .inl (.inr h)
    · exact .inl (.inl h)
theorem group_turn (l : List RecD) (k at_ : Nat) : groupR (turnR l k at_) = groupR l := by
  unfold turnR
  rw [group_map (letRec_same at_)]
  exact group_set (rowTurn_mem l k)
theorem follow_let (at_ : Nat) (n : List UInt8) (ty cls : Int) (l : List SetD) : followOf (letL at_ n) ty cls l = followOf n ty cls l := by
  unfold followOf
  rw [may_letL, fold_letL]
theorem ver_form (at_ k j : Nat) (n : List UInt8) (ty cls code : Int) (ans auth : List RecD) : verOf (letL at_ n) ty cls code (turnR ans k at_) (turnR auth j at_) = verOf n ty cls code ans auth := by
  unfold verOf
  rw [may_letL, group_turn, follow_let]
  unfold verFol
  rw [group_turn]
/-- All TTLs another one. -/
def allTtl (t : Int) (l : List RecD) : List RecD := l.map fun r => ⟨r.name, r.typ, r.cls, t, r.data⟩
theorem allTtl_strip (t : Int) (l : List RecD) : l.map strip = (allTtl t l).map strip := by
  unfold allTtl
  rw [List.map_map]
  rfl
theorem ver_form_ttl (t : Int) (at_ k j : Nat) (n : List UInt8) (ty cls code : Int) (ans auth : List RecD) : (verOf (letL at_ n) ty cls code (allTtl t (turnR ans k at_)) (turnR auth j at_)).same (verOf n ty cls code ans auth) := by
  have h := (ver_ttl (allTtl_strip t (turnR ans k at_)) (letL at_ n) ty cls code (turnR auth j at_)).1
  rw [ver_form] at h
  exact h
end Go.Proofs.YtbdjoihckienbaaGreatDoor
namespace Go.Proofs.YtbdjoihckienbaaGreatDoor
set_option linter.unusedSimpArgs false
set_option linter.unusedVariables false
open Go.RowKit
set_option maxRecDepth 100000

def letTo11 (at_ : Nat) (l : List UInt8) (k : Nat) : Nat → UInt8 := fun j => if j < k then letB at_ j (l.getD j 0) else l.getD j 0
theorem letTo11_step (at_ : Nat) (l : List UInt8) (k : Nat) (h : k < l.length) (b : UInt8) (hb : l[k] = b) : ∀ j, letTo11 at_ l (k + 1) j = if j = k then letB at_ k b else letTo11 at_ l k j := by
  intro j
  unfold letTo11
  by_cases e : j = k
  · subst e
    simp [h, hb]
  · rw [if_neg e]
    by_cases h1 : j < k
    · rw [if_pos h1, if_pos (by omega)]
    · rw [if_neg h1, if_neg (by omega)]
theorem xor_byte (b : UInt8) : bits .xor .u8 (b.toNat : Int) 32 = ((b ^^^ 32).toNat : Int) := by
  have key : ∀ n : Nat, n < 256 → bits .xor .u8 (n : Int) 32 = ((UInt8.ofNat n ^^^ 32).toNat : Int) := by decide +kernel
  have h := key b.toNat b.toNat_lt
  rw [show UInt8.ofNat b.toNat = b by simp] at h
  exact h
theorem letB_yes {at_ k : Nat} {b : UInt8} (h : isLet b = true) (h2 : (at_ + k) % 2 = 0) : letB at_ k b = b ^^^ 32 := if_pos ⟨h, h2⟩
theorem letB_no {at_ k : Nat} {b : UInt8} (h : isLet b = false ∨ (at_ + k) % 2 ≠ 0) : letB at_ k b = b := if_neg (fun e => by
  rcases h with h | h
  · rw [h] at e; cases e.1
  · exact h e.2)

set_option maxHeartbeats 2000000 in
theorem law11_lettered (l : List UInt8) (at_ : Nat) (w : World) (hl : l.length ≤ 1073741824) (ha : at_ ≤ 255) :
    Calls Tryz.prog 17 #[S l, .int .u8 (at_ : Int)] w fun e w' => e = .returned (S (letL at_ l)) ∧ Ext w w' := by
  have hconv := run_bytes_of_string (P := Tryz.prog) w 9 79 5 ⟨l.toArray⟩ Tryz.underlying9 Tryz.underlying79 Tryz.underlying5
  generalize hC : bytesRow ⟨l.toArray⟩ (grownCap w (ByteArray.mk l.toArray).size 0 5) = C at hconv
  generalize grownCap w (ByteArray.mk l.toArray).size 0 5 = cap at hconv hC
  have HC := Lib.hid hC
  have hw1 : IntKind.i64.wrap (at_ : Int) = (at_ : Int) := IntWalk.i64_in _ (by omega)
  clear hC
  go_enter Tryz.func17, Tryz.ntmps17
  go_wp2
  go_loopw [6] (fun i wr => ∃ k : Nat, k ≤ l.length ∧ i = .int .i64 k ∧ BRow wr w.heap.size l.length (letTo11 at_ l k) ∧ Ext w wr) (fun i _ => l.length - (intOf i).toNat)
  case atStart => exact ⟨0, by omega, rfl, brow_new w l cap C HC.out, ((Below.refl _ _).alloc (Nat.le_refl _) _).drew⟩
  case round =>
    obtain ⟨k, hk, rfl, hB, hE⟩ := hrel
    have HB := Lib.hid hB
    clear hB
    by_cases hlt : k < l.length
    · obtain ⟨b, Hb, hget, hwb, hbd⟩ := byte_at l k hlt
      have hc : wr.cell? ⟨w.heap.size, k, none⟩ = some (.int .u8 (b.toNat : Int)) := by
        rw [(HB.out k hlt).1]; simp [letTo11, hlt, Hb.out]
      have hf : wr.frozen? ⟨w.heap.size, k, none⟩ = false := (HB.out k hlt).2
      have Hs := Lib.hid (letTo11_step at_ l k hlt b Hb.out)
      have hsum : wrap64 ((at_ : Int) + (k : Int)) = (at_ : Int) + (k : Int) := IntWalk.wrap64_in _ ⟨by omega, by omega⟩
      have hx := xor_byte b
      have hki : (k : Int) < (l.length : Int) := by omega
      have hk0 : (0 : Int) ≤ (k : Int) := by omega
      clear hget hwb
      have hyes : Hid (letB at_ k b = b ^^^ 32 → ∀ j, letTo11 at_ l (k + 1) j = if j = k then b ^^^ 32 else letTo11 at_ l k j) := Lib.hid (fun h j => by rw [Hs.out j, h])
      have hno : Hid (letB at_ k b = b → ∀ j, letTo11 at_ l (k + 1) j = letTo11 at_ l k j) := Lib.hid (fun h j => by
        rw [Hs.out j, h]
        split
        · rename_i e; subst e; simp [letTo11, hlt, Hb.out]
        · rfl)
      by_cases hpar : (at_ + k) % 2 = 0
      · have ht : Int.tmod ((at_ : Int) + (k : Int)) 2 = 0 := by
          have : Int.tmod ((at_ : Int) + (k : Int)) 2 = (((at_ + k) % 2 : Nat) : Int) := rfl
          rw [this, hpar]; rfl
        rcases hL : isLet b with _ | _
        · have HN := Lib.hid (hno.out (letB_no (.inl hL)))
          unfold isLet at hL
          simp only [Bool.or_eq_false_iff, Bool.and_eq_false_iff, decide_eq_false_iff_not] at hL
          go_wp2
          all_goals first
            | (exfalso; omega)
            | (go_roundw
               case rel => exact ⟨k + 1, by omega, by go_num, HB.out.congr fun j _ => HN.out j, hE⟩
               case measure => simp [intOf]; omega)
        · have HY := Lib.hid (hyes.out (letB_yes hL hpar))
          unfold isLet at hL
          simp only [Bool.or_eq_true, Bool.and_eq_true, decide_eq_true_eq] at hL
          go_wp2
          all_goals first
            | (exfalso; omega)
            | (go_roundw
               case rel => exact ⟨k + 1, by omega, by go_num, (HB.out.set hlt (b ^^^ 32) _ (by first | rfl | exact hx)).congr fun j _ => HY.out j, hE.setCell (Nat.le_refl _) _⟩
               case measure => simp [intOf]; omega)
      · have ht : (Int.tmod ((at_ : Int) + (k : Int)) 2 == 0) = false := by
          have : Int.tmod ((at_ : Int) + (k : Int)) 2 = (((at_ + k) % 2 : Nat) : Int) := rfl
          rw [this, beq_eq_false_iff_ne]; omega
        have ht2 : ¬ Int.tmod ((at_ : Int) + (k : Int)) 2 = 0 := by
          have : Int.tmod ((at_ : Int) + (k : Int)) 2 = (((at_ + k) % 2 : Nat) : Int) := rfl
          rw [this]; omega
        have HN := Lib.hid (hno.out (letB_no (.inr hpar)))
        go_wp2
        all_goals
          go_roundw
          case rel => exact ⟨k + 1, by omega, by go_num, HB.out.congr fun j _ => HN.out j, hE⟩
          case measure => simp [intOf]; omega
    · have hback := run_convert_bytes_back (P := Tryz.prog) wr 79 9 5 ⟨w.heap.size, 0, none⟩ cap (letL at_ l) Tryz.underlying79 Tryz.underlying5 Tryz.underlying9 (fun j hj => by
        have hj' : j < l.length := by rw [letL_len] at hj; exact hj
        have := (HB.out j hj').1
        rw [show (Addr.add ⟨w.heap.size, 0, none⟩ j) = ⟨w.heap.size, j, none⟩ by unfold Addr.add; split <;> simp_all, this]
        simp [letTo11, letL, hj', show j < k by omega])
      rw [letL_len] at hback
      go_wp2
      go_ret
      exact ⟨rfl, hE⟩
end Go.Proofs.YtbdjoihckienbaaGreatDoor
namespace Go.Proofs.YtbdjoihckienbaaGreatDoor
set_option linter.unusedSimpArgs false
set_option linter.unusedVariables false
open Go.RowKit
set_option maxRecDepth 100000

def letToR (at_ : Nat) (l : List RecD) (k : Nat) : List RecD := (l.take k).map (letRec at_) ++ l.drop k
theorem letToR_zero (at_ : Nat) (l : List RecD) : letToR at_ l 0 = l := by simp [letToR]
theorem letToR_all (at_ : Nat) (l : List RecD) (k : Nat) (h : l.length ≤ k) : letToR at_ l k = l.map (letRec at_) := by unfold letToR; rw [List.take_of_length_le h, List.drop_of_length_le h, List.append_nil]
theorem letToR_at (at_ : Nat) (l : List RecD) (k : Nat) (h : k < l.length) : (letToR at_ l k)[k]? = some l[k] := by
  unfold letToR
  rw [List.getElem?_append_right (by simp; omega)]
  simp [Nat.min_eq_left (Nat.le_of_lt h), List.getElem?_eq_getElem h]
theorem letToR_step (at_ : Nat) (l : List RecD) (k : Nat) (h : k < l.length) : letToR at_ l (k + 1) = (letToR at_ l k).set k (letRec at_ l[k]) := by
  unfold letToR
  rw [List.set_append_right _ _ (by simp; omega), take_snoc l k h, List.map_append, List.append_assoc]
  congr 1
  simp only [List.length_map, List.length_take, Nat.min_eq_left (Nat.le_of_lt h), Nat.sub_self]
  rw [List.drop_eq_getElem_cons h]
  rfl
theorem Rd.takeR {w : World} {lo : Nat} {b off n : Nat} {ss : List RecD} (h : Rd w lo 5 (some ⟨b, off, none⟩) n (ss.flatMap recCells)) (m : Nat) (hm : m ≤ n) (hn : n = ss.length) : Rd w lo 5 (some ⟨b, off, none⟩) m ((ss.take m).flatMap recCells) := by
  subst hn
  refine ⟨by rw [flatR_len, List.length_take, Nat.min_eq_left hm], fun h0 => ?_⟩
  obtain ⟨b', off', e, hlo, hb, hc⟩ := h.2 (by omega)
  refine ⟨b', off', e, hlo, hb, fun j u hu => hc j u ?_⟩
  have e2 : ss.flatMap recCells = (ss.take m).flatMap recCells ++ (ss.drop m).flatMap recCells := by rw [← List.flatMap_append, List.take_append_drop]
  rw [e2, List.getElem?_append_left (List.getElem?_eq_some_iff.1 hu).1]
  exact hu
theorem Rd.dropR {w : World} {lo : Nat} {b off n : Nat} {ss : List RecD} (h : Rd w lo 5 (some ⟨b, off, none⟩) n (ss.flatMap recCells)) (m : Nat) (hm : m ≤ n) (hn : n = ss.length) : Rd w lo 5 (some ⟨b, off + m * 5, none⟩) (n - m) ((ss.drop m).flatMap recCells) := by
  subst hn
  refine ⟨by rw [flatR_len, List.length_drop], fun h0 => ?_⟩
  obtain ⟨b', off', e, hlo, hb, hc⟩ := h.2 (by omega)
  injection e with e
  injection e with e1 e2 _
  subst e1 e2
  refine ⟨b, off + m * 5, rfl, hlo, hb, fun j u hu => ?_⟩
  rw [Nat.add_assoc]
  refine hc (m * 5 + j) u ?_
  have e2 : ss.flatMap recCells = (ss.take m).flatMap recCells ++ (ss.drop m).flatMap recCells := by rw [← List.flatMap_append, List.take_append_drop]
  have e3 : ((ss.take m).flatMap recCells).length = m * 5 := by rw [flatR_len, List.length_take, Nat.min_eq_left hm]
  rw [e2, List.getElem?_append_right (by omega), e3, Nat.add_sub_cancel_left]
  exact hu

set_option maxHeartbeats 8000000 in
theorem law11_turned (v : Value) (l : List RecD) (tn : Int) (at_ : Nat) (w : World) (h : Recs w 0 v l) (hl4 : l.length ≤ 4096) (hnm0 : ∀ r ∈ l, r.name.length ≤ 1073741824) (ha : at_ ≤ 255) (hb1 : -9223372036854775808 ≤ tn) (hb2 : tn ≤ 9223372036854775807) :
    Calls Tryz.prog 16 #[v, .int .i64 tn, .int .u8 (at_ : Int)] w fun e w' => ∃ k v', e = .returned v' ∧ ORecs w' w.heap.size v' (turnR l k at_) ∧ Ext w w' := by
  obtain ⟨A, c, rfl, h1, h2, hrd⟩ := h
  unfold maxLen at h2
  by_cases hl0 : l.length = 0
  · have e0 : l = [] := List.eq_nil_of_length_eq_zero hl0
    subst e0
    go_enter Tryz.func16, Tryz.ntmps16
    go_wp2_with fail
    go_ret
    exact ⟨0, _, rfl, ⟨none, 0, rfl, Own.nil _ _ _ _⟩, Ext.refl _⟩
  have hl1 : ((l.length : Int) == 0) = false := by rw [beq_eq_false_iff_ne]; omega
  obtain ⟨i0, hi0, hz0, hz1, hz2⟩ := info_parts info_rec8
  obtain ⟨U, hU, hU2⟩ := u64_natm tn
  have hll := u64_inm l.length (by omega)
  obtain ⟨r, hr⟩ : ∃ r, U % l.length = r := ⟨_, rfl⟩
  have hrl : r < l.length := by rw [← hr]; exact Nat.mod_lt _ (by omega)
  have e1 : (U : Int) % (l.length : Int) = (r : Int) := by rw [← hr]; rfl
  have hne0 : ¬ ((l.length : Int) = 0) := by omega
  have hri : (r : Int) < (l.length : Int) := by omega
  have hr0 : (0 : Int) ≤ (r : Int) := by omega
  have hrle : (r : Int) ≤ (l.length : Int) := by omega
  have hrc : (r : Int) ≤ (c : Int) := by omega
  have hlc : (l.length : Int) ≤ (c : Int) := by omega
  have hcr : ¬ c = r := by omega
  have hcr2 : ¬ ((c : Int) = (r : Int)) := by omega
  obtain ⟨b, off, rfl, _, hbz, hc⟩ := hrd.2 (by omega)
  have hr1 := hrd.takeR r (by omega) rfl
  have hr2 := hrd.dropR r (by omega) rfl
  obtain ⟨x0, x1, x2, x3, x4⟩ := recs_cells hc r l[r] (List.getElem?_eq_getElem hrl)
  obtain ⟨L, hL⟩ : ∃ L, L = rowTurn l r := ⟨_, rfl⟩
  have HL := Lib.hid hL
  have HLl := Lib.hid (show L.length = l.length + 1 by rw [hL, rowTurn]; simp; omega)
  have Hnm := Lib.hid (show ∀ y ∈ L, y.name.length ≤ 1073741824 from fun y hy => hnm0 y ((rowTurn_mem l r y).1 (by rw [← hL]; exact hy)))
  have hd1 := Lib.hid (show (l.drop r).take 1 = [l[r]] by rw [List.drop_eq_getElem_cons hrl]; rfl)
  generalize hxr : l[r] = xr at *
  clear hr hl0 hxr hL hc hrd
  go_enter Tryz.func16, Tryz.ntmps16
  go_wp2_with fail
  refine wp_region_noPanic ?_
  refine wp_region_tree (S := (fun _ => True)) (.take 1 (.take 2 (.take 3 (.take 5 (.take 6 (.take 7 (.run 0 (.run 4 (.run 8 (.take 9 (.done))))))))))) (by kernel_rfl) (by kernel_rfl) (fun _ _ _ _ _ h => h) (trivial) ?_
  repeat ((with_reducible refine treeIs ?_); first
    | (refine treeTake (v := ?_) (by rfl) (by rfl) ?_ ?_; rotate_left; (focus (intro V hV; (try dsimp only at hV); (go_simp <;> with_reducible rfl))); (try simp only [Act.put, List.setIfInBounds_toArray, List.set_cons_zero, List.set_cons_succ]))
    | (refine treeSkip (by rfl) (by rfl) ?_; (try simp only [Act.put, List.setIfInBounds_toArray, List.set_cons_zero, List.set_cons_succ])))
  refine treeRun (by rfl) (fun K hK => ?_)
  go_simp
  refine hK.out _ _ ?_ ?_
  · exact trivial
  clear hK K
  (try simp only [Act.put, List.setIfInBounds_toArray, List.set_cons_zero, List.set_cons_succ])
  refine treeRun (by rfl) (fun K hK => ?_)
  refine step_app (w.drew.alloc (.cells #[] 48)) rfl (.tmp 20) (.tmp 23) _ rfl w.heap.size 48 i0 _ 5 40 Tryz.underlying28 hi0 hz0 hz1 hz2 rfl (by omega) (some ⟨w.heap.size, 0, none⟩) 0 0 [] rfl (own_zero w 48 5) 0 (some ⟨b, off + r * 5, none⟩) (l.length - r) (c - r) ((l.drop r).flatMap recCells) rfl (hr2.ext ((Ext.refl w).drew.alloc _)) (recs_one8 _) (by omega) (by omega) (by simp) ?_
  intro A5 c5 w5 hown5 hg5 hb5 hat5
  rw [Nat.zero_add, List.nil_append] at hown5
  rw [Nat.zero_add]
  have hE5 : Ext w w5 := ((Ext.refl w).drew.alloc _).then hb5 (Nat.le_refl _)
  refine hK.out _ _ ?_ ?_
  · exact trivial
  clear hK K
  (try simp only [Act.put, List.setIfInBounds_toArray, List.set_cons_zero, List.set_cons_succ])
  refine treeRun (by rfl) (fun K hK => ?_)
  refine step_app w5 rfl (.tmp 24) (.tmp 27) _ rfl w.heap.size 48 i0 _ 5 40 Tryz.underlying28 hi0 hz0 hz1 hz2 rfl (by omega) A5 (l.length - r) c5 ((l.drop r).flatMap recCells) rfl hown5 0 (some ⟨b, off, none⟩) r c ((l.take r).flatMap recCells) rfl (hr1.ext hE5) (recs_one8 _) (by omega) (by omega) hE5.size ?_
  intro A6 c6 w6 hown6 hg6 hb6 hat6
  have hE6 : Ext w w6 := hE5.then hb6 (Nat.le_refl _)
  refine hK.out _ _ ?_ ?_
  · exact trivial
  clear hK K
  (try simp only [Act.put, List.setIfInBounds_toArray, List.set_cons_zero, List.set_cons_succ])
  repeat ((with_reducible refine treeIs ?_); first
    | (refine treeTake (v := ?_) (by rfl) (by rfl) ?_ ?_; rotate_left; (focus (intro V hV; (try dsimp only at hV); (go_simp <;> with_reducible rfl))); (try simp only [Act.put, List.setIfInBounds_toArray, List.set_cons_zero, List.set_cons_succ]))
    | (refine treeSkip (by rfl) (by rfl) ?_; (try simp only [Act.put, List.setIfInBounds_toArray, List.set_cons_zero, List.set_cons_succ])))
  refine treeDone ?_
  refine NoPanic.normal ?_
  have hlen6 : l.length - r + r = l.length := by omega
  rw [hlen6] at hown6
  rw [← List.flatMap_append] at hown6
  rw [hlen6]
  clear hg5 hb5 hat5 hg6 hb6 hat6 hlen6 hr1 hr2
  rw [← hE6.cell (p := ⟨b, _, none⟩) hbz] at x0 x1 x2 x3 x4
  go_wp2_with (
    at_builtin
    refine wpList_app _ rfl (.tmp 29) (.tmp 34) _ rfl w.heap.size 48 i0 _ 5 40 Tryz.underlying28 hi0 hz0 hz1 hz2 rfl (by omega) A6 l.length c6 ((l.drop r ++ l.take r).flatMap recCells) rfl (hown6.ext ((Ext.refl _).alloc _)) 0 _ 1 1 (recCells xr) rfl (rd_new _ _ rfl _ _ 1 5 rfl) (rec_one8 xr) (by omega) (by omega) (by have := hE6.size; simp; omega) ?_
    intro A7 c7 w7 hown7 hg7 hb7 hat7)
  have hE7 : Ext w w7 := (hE6.alloc _).then hb7 (Nat.le_refl _)
  have hq7 : (l.drop r ++ l.take r).flatMap recCells ++ recCells xr = L.flatMap recCells := by
    simp only [HL.out, rowTurn, hd1.out, List.flatMap_append, List.flatMap_cons, List.flatMap_nil, List.append_nil]
  rw [hq7] at hown7
  obtain ⟨g, rfl, hgl, hgz0, hgf0, hgc0⟩ := hown7.addr (by omega)
  clear hq7 hg7 hb7 hat7 x0 x1 x2 x3 x4 hgz0 hgf0 hgc0 hown6 hown5
  have hcap := hown7.cap
  unfold maxLen at hcap
  go_loopw [9] (fun i wr => ∃ k : Nat, k ≤ l.length + 1 ∧ i = .int .i64 k ∧ Own wr w.heap.size 48 5 (some ⟨g, 0, none⟩) (l.length + 1) c7 ((letToR at_ L k).flatMap recCells) ∧ Ext w wr) (fun i _ => l.length + 1 - (intOf i).toNat)
  case atStart => exact ⟨0, by omega, rfl, by rw [letToR_zero]; exact hown7, hE7⟩
  case round =>
    obtain ⟨k, hk, rfl, hown, hE⟩ := hrel
    obtain ⟨wo, rfl⟩ : ∃ wo : World, wo = wr := ⟨_, rfl⟩
    have hLl := HLl.out
    by_cases hlt : k < l.length + 1
    · have hkL : k < L.length := by omega
      have hp : (letToR at_ L k)[k]? = some L[k] := letToR_at at_ L k hkL
      have Hst := Lib.hid (letToR_step at_ L k hkL)
      have hnm := Hnm.out L[k] (List.getElem_mem hkL)
      obtain ⟨g', e', _, hgz, hgf, hgc⟩ := hown.addr (by omega)
      injection e' with e'
      injection e' with e' _ _
      subst e'
      have q0 : wo.cell? ⟨g, k * 5, none⟩ = some (S L[k].name) := by
        have := hgc (k * 5 + 0) _ (flat_get recCells 5 (fun _ => rfl) _ k 0 _ hp (by omega))
        exact this
      have f0 := hgf (k * 5)
      have HF := Lib.hid (flat_setRm _ k L[k] (letRec at_ L[k]) 0 (S (letL at_ L[k].name)) hp (by omega) rfl)
      have HLt := Lib.hid (fun V => law11_lettered L[k].name at_ V hnm ha)
      generalize L[k] = y at *
      have hki : (k : Int) < (l.length : Int) + 1 := by omega
      have hk0 : (0 : Int) ≤ (k : Int) := by omega
      clear hgc hgf hp hLl hkL
      go_wp2_with fail
      refine (HLt.out wo).mono ?_; rintro e w8 ⟨rfl, hE8⟩
      have q8 := (hE8.cell (p := ⟨g, k * 5, none⟩) hgz).trans q0
      have f8 := (hE8.frozen (p := ⟨g, k * 5, none⟩) hgz).trans f0
      have hown8 := (hown.ext hE8).stored (k * 5 + 0) (S (letL at_ y.name)) (by omega)
      rw [HF.out, ← Hst.out] at hown8
      clear q0 f0
      go_wp2_with fail
      go_roundw
      case rel => exact ⟨k + 1, by omega, by go_num, hown8, (hE.trans hE8).setCell (show w.heap.size ≤ g from hgl) _⟩
      case measure => simp [intOf]; omega
    · have hki : ¬ (k : Int) < (l.length : Int) + 1 := by omega
      have e1 : letToR at_ L k = turnR l r at_ := by rw [letToR_all at_ L k (by omega), HL.out]; rfl
      rw [e1] at hown
      have e2 : (turnR l r at_).length = l.length + 1 := by rw [turnR, List.length_map, ← HL.out]; omega
      clear e1 hLl
      have HO := Lib.hid (show ORecs wo w.heap.size (.slice (some ⟨g, 0, none⟩) (l.length + 1) c7) (turnR l r at_) from ⟨_, c7, by rw [e2], by rw [e2]; exact hown⟩)
      clear e2
      go_wp2_with fail
      go_ret
      exact ⟨r, _, rfl, HO.out, hE⟩
end Go.Proofs.YtbdjoihckienbaaGreatDoor
namespace Go.Proofs.YtbdjoihckienbaaGreatDoor
set_option linter.unusedSimpArgs false
set_option linter.unusedVariables false
open Go.RowKit
set_option maxRecDepth 100000

theorem turn_bd {l : List RecD} (h : RecsBd l) (k at_ : Nat) (hl : l.length ≤ 4000) : RecsBd (turnR l k at_) := by
  refine ⟨?_, fun r hr => ?_⟩
  · unfold turnR rowTurn; simp only [List.length_map, List.length_append, List.length_take, List.length_drop]; omega
  · obtain ⟨y, hy, rfl⟩ := List.mem_map.1 hr
    have := h.2 y ((rowTurn_mem l k y).1 hy)
    exact ⟨by show (letL at_ y.name).length ≤ _; rw [letL_len]; exact this.1, this.2⟩
theorem turn_ok {l : List RecD} (h : RecsOk l) (k at_ : Nat) : RecsOk (turnR l k at_) := fun r hr => by
  obtain ⟨y, hy, rfl⟩ := List.mem_map.1 hr
  exact h y ((rowTurn_mem l k y).1 hy)
theorem all_bd {l : List RecD} (h : RecsBd l) (t : Int) : RecsBd (allTtl t l) := by
  refine ⟨by unfold allTtl; rw [List.length_map]; exact h.1, fun r hr => ?_⟩
  obtain ⟨y, hy, rfl⟩ := List.mem_map.1 hr
  exact h.2 y hy
theorem all_ok {l : List RecD} (h : RecsOk l) (t : Int) : RecsOk (allTtl t l) := fun r hr => by
  obtain ⟨y, hy, rfl⟩ := List.mem_map.1 hr
  exact h y hy
def ttlTo (t : Int) (l : List RecD) (k : Nat) : List RecD := allTtl t (l.take k) ++ l.drop k
theorem ttlTo_len (t : Int) (l : List RecD) (k : Nat) : (ttlTo t l k).length = l.length := by unfold ttlTo allTtl; simp; omega
theorem ttlTo_all (t : Int) (l : List RecD) (k : Nat) (h : l.length ≤ k) : ttlTo t l k = allTtl t l := by unfold ttlTo; rw [List.take_of_length_le h, List.drop_of_length_le h, List.append_nil]
theorem ttlTo_at (t : Int) (l : List RecD) (k : Nat) (h : k < l.length) : (ttlTo t l k)[k]? = some l[k] := by
  unfold ttlTo allTtl
  rw [List.getElem?_append_right (by simp; omega)]
  simp [Nat.min_eq_left (Nat.le_of_lt h), List.getElem?_eq_getElem h]
theorem ttlTo_step (t : Int) (l : List RecD) (k : Nat) (h : k < l.length) : ttlTo t l (k + 1) = (ttlTo t l k).set k ⟨l[k].name, l[k].typ, l[k].cls, t, l[k].data⟩ := by
  unfold ttlTo allTtl
  rw [List.set_append_right _ _ (by simp; omega), take_snoc l k h, List.map_append, List.append_assoc]
  congr 1
  simp only [List.length_map, List.length_take, Nat.min_eq_left (Nat.le_of_lt h), Nat.sub_self]
  rw [List.drop_eq_getElem_cons h]
  rfl

theorem cell_heq {w w' : World} {b : Nat} (h : w'.heap[b]? = w.heap[b]?) (j : Nat) : w'.cell? ⟨b, j, none⟩ = w.cell? ⟨b, j, none⟩ := by simp [World.cell?, h]
theorem froz_heq {w w' : World} {b : Nat} (h : w'.heap[b]? = w.heap[b]?) (j : Nat) : w'.frozen? ⟨b, j, none⟩ = w.frozen? ⟨b, j, none⟩ := by simp [World.frozen?, h]
theorem Own.heq {w w' : World} {lo : Nat} {e : TypeId} {sz n c : Nat} {A : Option Addr} {xs : List Value} (h : Own w lo e sz A n c xs) (hk : ∀ g, (Value.slice A n c).ownBlock = some g → w'.heap[g]? = w.heap[g]?) : Own w' lo e sz A n c xs := by
  refine ⟨h.1, ?_⟩
  rcases h.2 with h1 | ⟨g, cap, cur, h1, hg, hh, h4⟩
  · exact .inl h1
  · refine .inr ⟨g, cap, cur, h1, hg, (hk g ?_).trans hh, h4⟩
    injection h1 with h1
    subst h1; rfl

set_option maxHeartbeats 8000000 in
theorem law_verdictForm (x : MsgX) (n : List UInt8) (ty cls code : Int) (aA : Option Addr) (ac : Nat) (uA : Option Addr) (uc : Nat) (ans auth ext : List RecD) (tn nid tl : Int) (at_ : Nat) (w : World) (hg : Laid w) (ha : Recs w 0 (.slice aA ans.length ac) ans) (hu : Recs w 0 (.slice uA auth.length uc) auth) (hx : Recs w 0 (.slice x.xA x.xn x.xc) ext) (hao : ∀ r ∈ ans, RecOk r) (huo : ∀ r ∈ auth, RecOk r) (hxo : ∀ r ∈ ext, RecOk r) (hn : n.length ≤ maxLen) (hq : x.qn ≤ maxLen) (hb1 : -9223372036854775808 ≤ tn) (hb2 : tn ≤ 9223372036854775807) (hat : at_ ≤ 255) :
    Calls Tryz.prog 4 #[.agg #[S n, .int .u16 ty, .int .u16 cls], msgV x code (.slice aA ans.length ac) (.slice uA auth.length uc), .int .i64 tn, .int .u8 (at_ : Int), .int .u16 nid, .int .u32 tl] w fun e w' => e = .returned (.bool true) ∧ Ext w w' := by
  have HL := Lib.hid (fun W (hW : Ext w W) => law11_large x n ty cls code 0 aA ac uA uc ans auth ext W (ha.ext hW) (hu.ext hW) (hx.ext hW) hao huo hxo hn hq)
  have HA := Lib.hid (fun W (hW : Ext w W) => law11_awake W (hg.ext hW))
  rcases hb : largeM n ans auth ext x.qn with _ | _
  rotate_left
  · rw [hb] at HL
    clear hb
    obtain ⟨X, hX⟩ : ∃ X, X = ((w.alloc (.cells #[S n, .int .u16 ty, .int .u16 cls] 24)).alloc (.cells #[.int .u16 x.id, .bool x.qr, .int .u8 x.op, .bool x.aa, .bool x.tc, .bool x.rd, .bool x.ra, .bool x.z, .bool x.ad, .bool x.cd, .int .u8 code, .slice x.qA x.qn x.qc, .slice aA ans.length ac, .slice uA auth.length uc, .slice x.xA x.xn x.xc, .bool x.he, .int .u16 x.es, .int .u8 x.ee, .int .u8 x.ev, .int .u16 x.ef, .slice x.oA x.on x.oc] 33)) := ⟨_, rfl⟩
    obtain ⟨kq, _, zq⟩ := ext_new_at (w.heap.size) rfl ((Ext.refl (w.alloc (.cells #[S n, .int .u16 ty, .int .u16 cls] 24))).alloc (.cells #[.int .u16 x.id, .bool x.qr, .int .u8 x.op, .bool x.aa, .bool x.tc, .bool x.rd, .bool x.ra, .bool x.z, .bool x.ad, .bool x.cd, .int .u8 code, .slice x.qA x.qn x.qc, .slice aA ans.length ac, .slice uA auth.length uc, .slice x.xA x.xn x.xc, .bool x.he, .int .u16 x.es, .int .u8 x.ee, .int .u8 x.ev, .int .u16 x.ef, .slice x.oA x.on x.oc] 33))
    have zm : w.heap.size + 1 < ((w.alloc (.cells #[S n, .int .u16 ty, .int .u16 cls] 24)).alloc (.cells #[.int .u16 x.id, .bool x.qr, .int .u8 x.op, .bool x.aa, .bool x.tc, .bool x.rd, .bool x.ra, .bool x.z, .bool x.ad, .bool x.cd, .int .u8 code, .slice x.qA x.qn x.qc, .slice aA ans.length ac, .slice uA auth.length uc, .slice x.xA x.xn x.xc, .bool x.he, .int .u16 x.es, .int .u8 x.ee, .int .u8 x.ev, .int .u16 x.ef, .slice x.oA x.on x.oc] 33)).heap.size := by simp
    have hkm : ((w.alloc (.cells #[S n, .int .u16 ty, .int .u16 cls] 24)).alloc (.cells #[.int .u16 x.id, .bool x.qr, .int .u8 x.op, .bool x.aa, .bool x.tc, .bool x.rd, .bool x.ra, .bool x.z, .bool x.ad, .bool x.cd, .int .u8 code, .slice x.qA x.qn x.qc, .slice aA ans.length ac, .slice uA auth.length uc, .slice x.xA x.xn x.xc, .bool x.he, .int .u16 x.es, .int .u8 x.ee, .int .u8 x.ev, .int .u16 x.ef, .slice x.oA x.on x.oc] 33)).heap[w.heap.size + 1]? = some (.cells #[.int .u16 x.id, .bool x.qr, .int .u8 x.op, .bool x.aa, .bool x.tc, .bool x.rd, .bool x.ra, .bool x.z, .bool x.ad, .bool x.cd, .int .u8 code, .slice x.qA x.qn x.qc, .slice aA ans.length ac, .slice uA auth.length uc, .slice x.xA x.xn x.xc, .bool x.he, .int .u16 x.es, .int .u8 x.ee, .int .u8 x.ev, .int .u16 x.ef, .slice x.oA x.on x.oc] 33) := heap_new_at (w.alloc (.cells #[S n, .int .u16 ty, .int .u16 cls] 24)) _ (w.heap.size + 1) (by simp)
    rw [← hX] at kq zq zm hkm
    have hwX : Ext w X := by rw [hX]; exact ((Ext.refl _).alloc _).alloc _
    have HK := Lib.hid (show ∀ V, Ext X V → (∀ j, V.cell? ⟨w.heap.size, j, none⟩ = #[S n, .int .u16 ty, .int .u16 cls][j]?) from fun V hV => fun j => (hV.cell (p := ⟨w.heap.size, j, none⟩) zq).trans (kq j))
    have HM := Lib.hid (show ∀ V, Ext X V → V.heap[w.heap.size + 1]? = some (.cells #[.int .u16 x.id, .bool x.qr, .int .u8 x.op, .bool x.aa, .bool x.tc, .bool x.rd, .bool x.ra, .bool x.z, .bool x.ad, .bool x.cd, .int .u8 code, .slice x.qA x.qn x.qc, .slice aA ans.length ac, .slice uA auth.length uc, .slice x.xA x.xn x.xc, .bool x.he, .int .u16 x.es, .int .u8 x.ee, .int .u8 x.ev, .int .u16 x.ef, .slice x.oA x.on x.oc] 33) from fun V hV => (hV.block _ zm).trans hkm)
    clear hkm kq
    have c0 := HK.out X (Ext.refl _)
    go_enter Tryz.func4, Tryz.ntmps4
    go_upto_region 1 with fail
    rw [← hX]
    clear hX
    go_wp2_with (refine wpList_load_rowG (by rfl) 33 (.tmp 7) rfl (w.heap.size + 1) rfl 33 _ _ _ (HM.out _ (Ext.refl _)) Tryz.underlying33 rfl (by kernel_rfl) ?_)
    refine (HL.out _ hwX).mono ?_; rintro e w1 ⟨rfl, hE1⟩
    go_wp2_with fail
    refine (HA.out _ (hwX.trans hE1)).mono ?_; rintro e w2 ⟨rfl, hE2⟩
    go_wp2_with fail
    go_ret
    exact ⟨rfl, (hwX.trans hE1).trans hE2⟩
  obtain ⟨s1, s2, s3, _, _⟩ := largeM_no hb
  rw [hb] at HL
  have l1 := wsum_len ans
  have l2 := wsum_len auth
  have hbd1 := recsBd_of s2
  have hbd2 := recsBd_of s3
  have HV1 := Lib.hid (fun W (hW : Ext w W) => ver_of x n ty cls code 0 aA ac uA uc ans auth W (hg.ext hW) (ha.ext hW) (hu.ext hW) hbd1 hbd2 (recsOk_of hao) (recsOk_of huo) (by omega))
  have HT1 := Lib.hid (fun W (hW : Ext w W) => law11_turned _ ans tn at_ W (ha.ext hW) (by omega) (fun r hr => by have := (hbd1.2 r hr).1; omega) hat hb1 hb2)
  have HT2 := Lib.hid (fun W (hW : Ext w W) => law11_turned _ auth tn at_ W (hu.ext hW) (by omega) (fun r hr => by have := (hbd2.2 r hr).1; omega) hat hb1 hb2)
  have HLt := Lib.hid (fun W => law11_lettered n at_ W (by omega) hat)
  have HV2 := Lib.hid (fun W (hW : Ext w W) (La Lb : List RecD) (A1 : Option Addr) (c1 : Nat) (A2 : Option Addr) (c2 : Nat) (b1 : RecsBd La) (o1 : RecsOk La) (b2 : RecsBd Lb) (o2 : RecsOk Lb) (r1 : Recs W 0 (.slice A1 La.length c1) La) (r2 : Recs W 0 (.slice A2 Lb.length c2) Lb) => ver_of { x with id := nid, aa := !x.aa, rd := !x.rd, qA := none, qn := 0, qc := 0, xA := aA, xn := ans.length, xc := ac } (letL at_ n) ty cls code 0 A1 c1 A2 c2 La Lb W (hg.ext hW) r1 r2 b1 b2 o1 o2 (by rw [letL_len]; omega))
  have HF1 := Lib.hid (fun k j => ver_form at_ k j n ty cls code ans auth)
  have HF2 := Lib.hid (fun k j => ver_form_ttl tl at_ k j n ty cls code ans auth)
  have HBT := Lib.hid (fun k => And.intro (And.intro (turn_bd hbd1 k at_ (by omega)) (turn_ok (recsOk_of hao) k at_)) (And.intro (turn_bd hbd2 k at_ (by omega)) (turn_ok (recsOk_of huo) k at_)))
  generalize hR : verOf n ty cls code ans auth = R at *
  clear hb s1 s2 s3 hR
  obtain ⟨X, hX⟩ : ∃ X, X = ((w.alloc (.cells #[S n, .int .u16 ty, .int .u16 cls] 24)).alloc (.cells #[.int .u16 x.id, .bool x.qr, .int .u8 x.op, .bool x.aa, .bool x.tc, .bool x.rd, .bool x.ra, .bool x.z, .bool x.ad, .bool x.cd, .int .u8 code, .slice x.qA x.qn x.qc, .slice aA ans.length ac, .slice uA auth.length uc, .slice x.xA x.xn x.xc, .bool x.he, .int .u16 x.es, .int .u8 x.ee, .int .u8 x.ev, .int .u16 x.ef, .slice x.oA x.on x.oc] 33)) := ⟨_, rfl⟩
  obtain ⟨kq, _, zq⟩ := ext_new_at (w.heap.size) rfl ((Ext.refl (w.alloc (.cells #[S n, .int .u16 ty, .int .u16 cls] 24))).alloc (.cells #[.int .u16 x.id, .bool x.qr, .int .u8 x.op, .bool x.aa, .bool x.tc, .bool x.rd, .bool x.ra, .bool x.z, .bool x.ad, .bool x.cd, .int .u8 code, .slice x.qA x.qn x.qc, .slice aA ans.length ac, .slice uA auth.length uc, .slice x.xA x.xn x.xc, .bool x.he, .int .u16 x.es, .int .u8 x.ee, .int .u8 x.ev, .int .u16 x.ef, .slice x.oA x.on x.oc] 33))
  have zm : w.heap.size + 1 < ((w.alloc (.cells #[S n, .int .u16 ty, .int .u16 cls] 24)).alloc (.cells #[.int .u16 x.id, .bool x.qr, .int .u8 x.op, .bool x.aa, .bool x.tc, .bool x.rd, .bool x.ra, .bool x.z, .bool x.ad, .bool x.cd, .int .u8 code, .slice x.qA x.qn x.qc, .slice aA ans.length ac, .slice uA auth.length uc, .slice x.xA x.xn x.xc, .bool x.he, .int .u16 x.es, .int .u8 x.ee, .int .u8 x.ev, .int .u16 x.ef, .slice x.oA x.on x.oc] 33)).heap.size := by simp
  have hkm : ((w.alloc (.cells #[S n, .int .u16 ty, .int .u16 cls] 24)).alloc (.cells #[.int .u16 x.id, .bool x.qr, .int .u8 x.op, .bool x.aa, .bool x.tc, .bool x.rd, .bool x.ra, .bool x.z, .bool x.ad, .bool x.cd, .int .u8 code, .slice x.qA x.qn x.qc, .slice aA ans.length ac, .slice uA auth.length uc, .slice x.xA x.xn x.xc, .bool x.he, .int .u16 x.es, .int .u8 x.ee, .int .u8 x.ev, .int .u16 x.ef, .slice x.oA x.on x.oc] 33)).heap[w.heap.size + 1]? = some (.cells #[.int .u16 x.id, .bool x.qr, .int .u8 x.op, .bool x.aa, .bool x.tc, .bool x.rd, .bool x.ra, .bool x.z, .bool x.ad, .bool x.cd, .int .u8 code, .slice x.qA x.qn x.qc, .slice aA ans.length ac, .slice uA auth.length uc, .slice x.xA x.xn x.xc, .bool x.he, .int .u16 x.es, .int .u8 x.ee, .int .u8 x.ev, .int .u16 x.ef, .slice x.oA x.on x.oc] 33) := heap_new_at (w.alloc (.cells #[S n, .int .u16 ty, .int .u16 cls] 24)) _ (w.heap.size + 1) (by simp)
  rw [← hX] at kq zq zm hkm
  have hwX : Ext w X := by rw [hX]; exact ((Ext.refl _).alloc _).alloc _
  have HK := Lib.hid (show ∀ V, Ext X V → (∀ j, V.cell? ⟨w.heap.size, j, none⟩ = #[S n, .int .u16 ty, .int .u16 cls][j]?) from fun V hV => fun j => (hV.cell (p := ⟨w.heap.size, j, none⟩) zq).trans (kq j))
  have HM := Lib.hid (show ∀ V, Ext X V → V.heap[w.heap.size + 1]? = some (.cells #[.int .u16 x.id, .bool x.qr, .int .u8 x.op, .bool x.aa, .bool x.tc, .bool x.rd, .bool x.ra, .bool x.z, .bool x.ad, .bool x.cd, .int .u8 code, .slice x.qA x.qn x.qc, .slice aA ans.length ac, .slice uA auth.length uc, .slice x.xA x.xn x.xc, .bool x.he, .int .u16 x.es, .int .u8 x.ee, .int .u8 x.ev, .int .u16 x.ef, .slice x.oA x.on x.oc] 33) from fun V hV => (hV.block _ zm).trans hkm)
  clear hkm kq
  have c0 := HK.out X (Ext.refl _)
  go_enter Tryz.func4, Tryz.ntmps4
  go_upto_region 1 with fail
  rw [← hX]
  clear hX
  go_wp2_with (refine wpList_load_rowG (by rfl) 33 (.tmp 7) rfl (w.heap.size + 1) rfl 33 _ _ _ (HM.out _ (Ext.refl _)) Tryz.underlying33 rfl (by kernel_rfl) ?_)
  refine (HL.out _ hwX).mono ?_; rintro e w1 ⟨rfl, hE1⟩
  go_wp2_with fail
  refine (HA.out _ (hwX.trans hE1)).mono ?_; rintro e w2 ⟨rfl, hE2⟩
  have hX2 := hE1.trans hE2
  have c2 := HK.out w2 hX2
  clear c0
  go_wp2_with (refine wpList_load_rowG (by rfl) 33 (.tmp 7) rfl (w.heap.size + 1) rfl 33 _ _ _ (HM.out _ hX2) Tryz.underlying33 rfl (by kernel_rfl) ?_)
  refine (HV1.out _ (hwX.trans hX2)).mono ?_; rintro e w3 ⟨vs, vo, rfl, hs, ho, _, hE3⟩
  obtain ⟨sA, sc, rfl, _, _⟩ := hs.shape
  obtain ⟨oA, oc, rfl, _, _⟩ := ho.shape
  have hX3 := hX2.trans hE3
  have hX3' : Ext X (w3.alloc (.cells #[.int .u8 R.code, .slice sA R.sets.length sc, .slice oA R.soa.length oc] 38)) := hX3.alloc _
  clear c2
  obtain ⟨kv, _, zv⟩ := ext_new (Ext.refl (w3.alloc (.cells #[.int .u8 R.code, .slice sA R.sets.length sc, .slice oA R.soa.length oc] 38)))
  have HV := Lib.hid (show ∀ V, Ext (w3.alloc (.cells #[.int .u8 R.code, .slice sA R.sets.length sc, .slice oA R.soa.length oc] 38)) V → ∀ j, V.cell? ⟨w3.heap.size, j, none⟩ = #[.int .u8 R.code, .slice sA R.sets.length sc, .slice oA R.soa.length oc][j]? from fun V hV j => (hV.cell (p := ⟨w3.heap.size, j, none⟩) zv).trans (kv j))
  have Hs := Lib.hid (show ∀ V, Ext (w3.alloc (.cells #[.int .u8 R.code, .slice sA R.sets.length sc, .slice oA R.soa.length oc] 38)) V → Sets V 0 _ R.sets from fun V hV => ((hs.ext ((Ext.refl _).alloc _)).ext hV).sets.lower (Nat.zero_le _))
  have Ho := Lib.hid (show ∀ V, Ext (w3.alloc (.cells #[.int .u8 R.code, .slice sA R.sets.length sc, .slice oA R.soa.length oc] 38)) V → Sets V 0 _ R.soa from fun V hV => ((ho.ext ((Ext.refl _).alloc _)).ext hV).sets.lower (Nat.zero_le _))
  have hXN : X.heap.size ≤ w3.heap.size + 1 := Nat.le_succ_of_le hX3.size
  clear hs ho kv
  obtain ⟨Y0, hYe⟩ : ∃ Y0, Y0 = (w3.alloc (.cells #[.int .u8 R.code, .slice sA R.sets.length sc, .slice oA R.soa.length oc] 38)).alloc (.cells #[.int .u16 x.id, .bool x.qr, .int .u8 x.op, .bool x.aa, .bool x.tc, .bool x.rd, .bool x.ra, .bool x.z, .bool x.ad, .bool x.cd, .int .u8 code, .slice x.qA x.qn x.qc, .slice aA ans.length ac, .slice uA auth.length uc, .slice x.xA x.xn x.xc, .bool x.he, .int .u16 x.es, .int .u8 x.ee, .int .u8 x.ev, .int .u16 x.ef, .slice x.oA x.on x.oc] 33) := ⟨_, rfl⟩
  have hnY : Y0.heap[w3.heap.size + 1]? = some (.cells #[.int .u16 x.id, .bool x.qr, .int .u8 x.op, .bool x.aa, .bool x.tc, .bool x.rd, .bool x.ra, .bool x.z, .bool x.ad, .bool x.cd, .int .u8 code, .slice x.qA x.qn x.qc, .slice aA ans.length ac, .slice uA auth.length uc, .slice x.xA x.xn x.xc, .bool x.he, .int .u16 x.es, .int .u8 x.ee, .int .u8 x.ev, .int .u16 x.ef, .slice x.oA x.on x.oc] 33) := by rw [hYe]; exact heap_new_at _ _ _ (by simp)
  have zN : w3.heap.size + 1 < Y0.heap.size := by rw [hYe]; simp
  have hvY : Ext (w3.alloc (.cells #[.int .u8 R.code, .slice sA R.sets.length sc, .slice oA R.soa.length oc] 38)) Y0 := by rw [hYe]; exact (Ext.refl _).alloc _
  go_upto_region 4 with fail
  go_cut [16] (fun s16 wx => s16 = .pointer (some ⟨w3.heap.size + 1, 0, none⟩) ∧ Y0 = wx)
  case first =>
    as_aux_lemma =>
      have hz21 : ((w3.alloc (.cells #[.int .u8 R.code, .slice sA R.sets.length sc, .slice oA R.soa.length oc] 38)).alloc (.cells #[.int .u16 0, .bool false, .int .u8 0, .bool false, .bool false, .bool false, .bool false, .bool false, .bool false, .bool false, .int .u8 0, .slice none 0 0, .slice none 0 0, .slice none 0 0, .slice none 0 0, .bool false, .int .u16 0, .int .u8 0, .int .u8 0, .int .u16 0, .slice none 0 0] 33)).heap[w3.heap.size + 1]? = some (.cells #[.int .u16 0, .bool false, .int .u8 0, .bool false, .bool false, .bool false, .bool false, .bool false, .bool false, .bool false, .int .u8 0, .slice none 0 0, .slice none 0 0, .slice none 0 0, .slice none 0 0, .bool false, .int .u16 0, .int .u8 0, .int .u8 0, .int .u16 0, .slice none 0 0] 33) := heap_new_at _ _ _ (by simp)
      have hsz : (w3.alloc (.cells #[.int .u8 R.code, .slice sA R.sets.length sc, .slice oA R.soa.length oc] 38)).heap.size = w3.heap.size + 1 := by simp
      have h21 : (#[.int .u16 x.id, .bool x.qr, .int .u8 x.op, .bool x.aa, .bool x.tc, .bool x.rd, .bool x.ra, .bool x.z, .bool x.ad, .bool x.cd, .int .u8 code, .slice x.qA x.qn x.qc, .slice aA ans.length ac, .slice uA auth.length uc, .slice x.xA x.xn x.xc, .bool x.he, .int .u16 x.es, .int .u8 x.ee, .int .u8 x.ev, .int .u16 x.ef, .slice x.oA x.on x.oc] : Array Value).all (·.oneCell') = true := by simp [Value.oneCell']
      refine wp_region_lit ?_
      refine wpList_load_rowG (by rfl) 33 (.tmp 7) rfl (w.heap.size + 1) rfl 33 _ _ _ (HM.out _ hX3') Tryz.underlying33 rfl (by kernel_rfl) ?_
      refine Go.Great.wpList_allocTo rfl (some 16) rfl (.pointer (some ⟨(w3.alloc (.cells #[.int .u8 R.code, .slice sA R.sets.length sc, .slice oA R.soa.length oc] 38)).heap.size, 0, none⟩)) (.cells #[.int .u16 0, .bool false, .int .u8 0, .bool false, .bool false, .bool false, .bool false, .bool false, .bool false, .bool false, .int .u8 0, .slice none 0 0, .slice none 0 0, .slice none 0 0, .slice none 0 0, .bool false, .int .u16 0, .int .u8 0, .int .u8 0, .int .u16 0, .slice none 0 0] 33) (by kernel_rfl) ?_
      rw [hsz]
      refine Go.wpList_store_rowTo rfl 33 (.tmp 16) (.tmp 37) rfl rfl (w3.heap.size + 1) #[.int .u16 x.id, .bool x.qr, .int .u8 x.op, .bool x.aa, .bool x.tc, .bool x.rd, .bool x.ra, .bool x.z, .bool x.ad, .bool x.cd, .int .u8 code, .slice x.qA x.qn x.qc, .slice aA ans.length ac, .slice uA auth.length uc, .slice x.xA x.xn x.xc, .bool x.he, .int .u16 x.es, .int .u8 x.ee, .int .u8 x.ev, .int .u16 x.ef, .slice x.oA x.on x.oc] rfl rfl 33 #[.int .u16 0, .bool false, .int .u8 0, .bool false, .bool false, .bool false, .bool false, .bool false, .bool false, .bool false, .int .u8 0, .slice none 0 0, .slice none 0 0, .slice none 0 0, .slice none 0 0, .bool false, .int .u16 0, .int .u8 0, .int .u8 0, .int .u16 0, .slice none 0 0] hz21 (by kernel_rfl) rfl h21 ?_
      rw [alloc_setRow (w3.alloc (.cells #[.int .u8 R.code, .slice sA R.sets.length sc, .slice oA R.soa.length oc] 38)) #[.int .u16 0, .bool false, .int .u8 0, .bool false, .bool false, .bool false, .bool false, .bool false, .bool false, .bool false, .int .u8 0, .slice none 0 0, .slice none 0 0, .slice none 0 0, .slice none 0 0, .bool false, .int .u16 0, .int .u8 0, .int .u8 0, .int .u16 0, .slice none 0 0] #[.int .u16 x.id, .bool x.qr, .int .u8 x.op, .bool x.aa, .bool x.tc, .bool x.rd, .bool x.ra, .bool x.z, .bool x.ad, .bool x.cd, .int .u8 code, .slice x.qA x.qn x.qc, .slice aA ans.length ac, .slice uA auth.length uc, .slice x.xA x.xn x.xc, .bool x.he, .int .u16 x.es, .int .u8 x.ee, .int .u8 x.ev, .int .u16 x.ef, .slice x.oA x.on x.oc] 33 (w3.heap.size + 1) hsz.symm]
      refine wpList_nil ?_
      go_wp2_with fail
      go_meet
      exact ⟨rfl, hYe⟩
  case rest =>
  obtain ⟨rfl, rfl⟩ := hcut
  clear hYe
  have hXY := hX3'.trans hvY
  have HS5 := Lib.hid (show ∀ V, Ext Y0 V → V.cell? ⟨w.heap.size + 1, 3, none⟩ = some (.bool x.aa) ∧ V.cell? ⟨w.heap.size + 1, 5, none⟩ = some (.bool x.rd) ∧ V.cell? ⟨w.heap.size + 1, 12, none⟩ = some (.slice aA ans.length ac) from fun V hV => ⟨heap_cells (HM.out _ (hXY.trans hV)) 3, heap_cells (HM.out _ (hXY.trans hV)) 5, heap_cells (HM.out _ (hXY.trans hV)) 12⟩)
  have HS5' := Lib.hid (show ∀ V, Ext X V → V.cell? ⟨w.heap.size + 1, 3, none⟩ = some (.bool x.aa) ∧ V.cell? ⟨w.heap.size + 1, 5, none⟩ = some (.bool x.rd) ∧ V.cell? ⟨w.heap.size + 1, 12, none⟩ = some (.slice aA ans.length ac) from fun V hV => ⟨heap_cells (HM.out _ hV) 3, heap_cells (HM.out _ hV) 5, heap_cells (HM.out _ hV) 12⟩)
  go_upto_region 5 with fail
  go_cut [] (fun wx => wx.heap[w3.heap.size + 1]? = some (.cells #[.int .u16 nid, .bool x.qr, .int .u8 x.op, .bool (!x.aa), .bool x.tc, .bool (!x.rd), .bool x.ra, .bool x.z, .bool x.ad, .bool x.cd, .int .u8 code, .slice none 0 0, .slice aA ans.length ac, .slice uA auth.length uc, .slice aA ans.length ac, .bool x.he, .int .u16 x.es, .int .u8 x.ee, .int .u8 x.ev, .int .u16 x.ef, .slice x.oA x.on x.oc] 33) ∧ Ext (w3.alloc (.cells #[.int .u8 R.code, .slice sA R.sets.length sc, .slice oA R.soa.length oc] 38)) wx)
  case first =>
    as_aux_lemma =>
      have y0 : Y0.cell? ⟨w3.heap.size + 1, 0, none⟩ = some (.int .u16 x.id) := heap_cells hnY 0
      have y3 : Y0.cell? ⟨w3.heap.size + 1, 3, none⟩ = some (.bool x.aa) := heap_cells hnY 3
      have y5 : Y0.cell? ⟨w3.heap.size + 1, 5, none⟩ = some (.bool x.rd) := heap_cells hnY 5
      have y14 : Y0.cell? ⟨w3.heap.size + 1, 14, none⟩ = some (.slice x.xA x.xn x.xc) := heap_cells hnY 14
      have y11 : Y0.cell? ⟨w3.heap.size + 1, 11, none⟩ = some (.slice x.qA x.qn x.qc) := heap_cells hnY 11
      have yf : ∀ j, Y0.frozen? ⟨w3.heap.size + 1, j, none⟩ = false := fun j => frozen_of_row Y0 _ j _ _ hnY
      clear HS5
      have HS5 := HS5'
      refine wp_region_noPanic ?_
      refine wp_region_tree (S := (fun V => V.cell? ⟨w.heap.size + 1, 3, none⟩ = some (.bool x.aa) ∧ V.cell? ⟨w.heap.size + 1, 5, none⟩ = some (.bool x.rd) ∧ V.cell? ⟨w.heap.size + 1, 12, none⟩ = some (.slice aA ans.length ac))) (.take 0 (.take 1 (.take 2 (.take 3 (.take 4 (.take 5 (.take 6 (.take 7 (.take 8 (.take 9 (.take 10 (.take 11 (.take 12 (.run 13 (.take 14 (.take 15 (.run 16 (.take 17 (.take 18 (.run 19 (.take 20 (.run 21 (.take 22 (.run 23 (.done))))))))))))))))))))))))) (by kernel_rfl) (by kernel_rfl) (fun _ _ _ _ _ h => h) (HS5.out _ hXY.drew) ?_
      repeat ((with_reducible refine treeIs ?_); first
        | (refine treeTake (v := ?_) (by rfl) (by rfl) ?_ ?_; rotate_left; (focus (intro V hV; (try dsimp only at hV); (go_simp <;> with_reducible rfl))); (try simp only [Act.put, List.setIfInBounds_toArray, List.set_cons_zero, List.set_cons_succ]))
        | (refine treeSkip (by rfl) (by rfl) ?_; (try simp only [Act.put, List.setIfInBounds_toArray, List.set_cons_zero, List.set_cons_succ])))
      refine treeRun (by rfl) (fun K hK => ?_)
      go_simp
      refine hK.out _ _ ?_ ?_
      · exact HS5.out _ (by (repeat (first | with_reducible exact Ext.refl _ | with_reducible assumption | with_reducible refine Ext.alloc ?_ _ | with_reducible refine Ext.drewN ?_ _ | with_reducible refine Ext.drew ?_ | (with_reducible refine Ext.setCell ?_ ?hp _; case hp => (simp <;> omega)))))
      clear hK K
      (try simp only [Act.put, List.setIfInBounds_toArray, List.set_cons_zero, List.set_cons_succ])
      repeat ((with_reducible refine treeIs ?_); first
        | (refine treeTake (v := ?_) (by rfl) (by rfl) ?_ ?_; rotate_left; (focus (intro V hV; (try dsimp only at hV); (go_simp <;> with_reducible rfl))); (try simp only [Act.put, List.setIfInBounds_toArray, List.set_cons_zero, List.set_cons_succ]))
        | (refine treeSkip (by rfl) (by rfl) ?_; (try simp only [Act.put, List.setIfInBounds_toArray, List.set_cons_zero, List.set_cons_succ])))
      refine treeRun (by rfl) (fun K hK => ?_)
      go_simp
      refine hK.out _ _ ?_ ?_
      · exact HS5.out _ (by (repeat (first | with_reducible exact Ext.refl _ | with_reducible assumption | with_reducible refine Ext.alloc ?_ _ | with_reducible refine Ext.drewN ?_ _ | with_reducible refine Ext.drew ?_ | (with_reducible refine Ext.setCell ?_ ?hp _; case hp => (simp <;> omega)))))
      clear hK K
      (try simp only [Act.put, List.setIfInBounds_toArray, List.set_cons_zero, List.set_cons_succ])
      repeat ((with_reducible refine treeIs ?_); first
        | (refine treeTake (v := ?_) (by rfl) (by rfl) ?_ ?_; rotate_left; (focus (intro V hV; (try dsimp only at hV); (go_simp <;> with_reducible rfl))); (try simp only [Act.put, List.setIfInBounds_toArray, List.set_cons_zero, List.set_cons_succ]))
        | (refine treeSkip (by rfl) (by rfl) ?_; (try simp only [Act.put, List.setIfInBounds_toArray, List.set_cons_zero, List.set_cons_succ])))
      refine treeRun (by rfl) (fun K hK => ?_)
      go_simp
      refine hK.out _ _ ?_ ?_
      · exact HS5.out _ (by (repeat (first | with_reducible exact Ext.refl _ | with_reducible assumption | with_reducible refine Ext.alloc ?_ _ | with_reducible refine Ext.drewN ?_ _ | with_reducible refine Ext.drew ?_ | (with_reducible refine Ext.setCell ?_ ?hp _; case hp => (simp <;> omega)))))
      clear hK K
      (try simp only [Act.put, List.setIfInBounds_toArray, List.set_cons_zero, List.set_cons_succ])
      repeat ((with_reducible refine treeIs ?_); first
        | (refine treeTake (v := ?_) (by rfl) (by rfl) ?_ ?_; rotate_left; (focus (intro V hV; (try dsimp only at hV); (go_simp <;> with_reducible rfl))); (try simp only [Act.put, List.setIfInBounds_toArray, List.set_cons_zero, List.set_cons_succ]))
        | (refine treeSkip (by rfl) (by rfl) ?_; (try simp only [Act.put, List.setIfInBounds_toArray, List.set_cons_zero, List.set_cons_succ])))
      refine treeRun (by rfl) (fun K hK => ?_)
      go_simp
      refine hK.out _ _ ?_ ?_
      · exact HS5.out _ (by (repeat (first | with_reducible exact Ext.refl _ | with_reducible assumption | with_reducible refine Ext.alloc ?_ _ | with_reducible refine Ext.drewN ?_ _ | with_reducible refine Ext.drew ?_ | (with_reducible refine Ext.setCell ?_ ?hp _; case hp => (simp <;> omega)))))
      clear hK K
      (try simp only [Act.put, List.setIfInBounds_toArray, List.set_cons_zero, List.set_cons_succ])
      repeat ((with_reducible refine treeIs ?_); first
        | (refine treeTake (v := ?_) (by rfl) (by rfl) ?_ ?_; rotate_left; (focus (intro V hV; (try dsimp only at hV); (go_simp <;> with_reducible rfl))); (try simp only [Act.put, List.setIfInBounds_toArray, List.set_cons_zero, List.set_cons_succ]))
        | (refine treeSkip (by rfl) (by rfl) ?_; (try simp only [Act.put, List.setIfInBounds_toArray, List.set_cons_zero, List.set_cons_succ])))
      refine treeRun (by rfl) (fun K hK => ?_)
      go_simp
      refine hK.out _ _ ?_ ?_
      · exact HS5.out _ (by (repeat (first | with_reducible exact Ext.refl _ | with_reducible assumption | with_reducible refine Ext.alloc ?_ _ | with_reducible refine Ext.drewN ?_ _ | with_reducible refine Ext.drew ?_ | (with_reducible refine Ext.setCell ?_ ?hp _; case hp => (simp <;> omega)))))
      clear hK K
      (try simp only [Act.put, List.setIfInBounds_toArray, List.set_cons_zero, List.set_cons_succ])
      refine treeDone ?_
      refine NoPanic.normal ?_
      go_wp2_with fail
      go_meet
      have hvs : (w3.alloc (.cells #[.int .u8 R.code, .slice sA R.sets.length sc, .slice oA R.soa.length oc] 38)).heap.size ≤ w3.heap.size + 1 := (by simp)
      exact ⟨heap_set (heap_set (heap_set (heap_set (heap_set hnY 0 _) 3 _) 5 _) 14 _) 11 _, (by (repeat (first | with_reducible exact Ext.refl _ | with_reducible assumption | with_reducible refine Ext.alloc ?_ _ | with_reducible refine Ext.drewN ?_ _ | with_reducible refine Ext.drew ?_ | (with_reducible refine Ext.setCell ?_ ?hp _; case hp => (simp <;> omega)))))⟩
  case rest =>
  obtain ⟨hn5, hv5⟩ := hcut
  obtain ⟨W5, rfl⟩ : ∃ W5 : World, W5 = wc := ⟨_, rfl⟩
  have hX5 := hX3'.trans hv5
  have hnz : w3.heap.size + 1 < W5.heap.size := (Array.getElem?_eq_some_iff.1 hn5).1
  clear HS5 HS5' hnY zN hvY hXY
  have HS6 := Lib.hid (show ∀ V, Ext X V → V.cell? ⟨w.heap.size + 1, 12, none⟩ = some (.slice aA ans.length ac) ∧ V.cell? ⟨w.heap.size + 1, 13, none⟩ = some (.slice uA auth.length uc) from fun V hV => ⟨heap_cells (HM.out _ hV) 12, heap_cells (HM.out _ hV) 13⟩)
  go_upto_region 6 with fail
  go_cut [] (fun wx => ∃ (ka kb : Nat) (A1 : Option Addr) (c1 : Nat) (A2 : Option Addr) (c2 lo2 : Nat), wx.heap[w3.heap.size + 1]? = some (.cells #[.int .u16 nid, .bool x.qr, .int .u8 x.op, .bool (!x.aa), .bool x.tc, .bool (!x.rd), .bool x.ra, .bool x.z, .bool x.ad, .bool x.cd, .int .u8 code, .slice none 0 0, .slice A1 (turnR ans ka at_).length c1, .slice A2 (turnR auth kb at_).length c2, .slice aA ans.length ac, .bool x.he, .int .u16 x.es, .int .u8 x.ee, .int .u8 x.ev, .int .u16 x.ef, .slice x.oA x.on x.oc] 33) ∧ Own wx W5.heap.size 48 5 A1 (turnR ans ka at_).length c1 ((turnR ans ka at_).flatMap recCells) ∧ Own wx lo2 48 5 A2 (turnR auth kb at_).length c2 ((turnR auth kb at_).flatMap recCells) ∧ (∀ k, (Value.slice A1 (turnR ans ka at_).length c1).ownBlock = some k → k < lo2) ∧ Ext (w3.alloc (.cells #[.int .u8 R.code, .slice sA R.sets.length sc, .slice oA R.soa.length oc] 38)) wx)
  case first =>
    as_aux_lemma =>
      refine wp_region_noPanic ?_
      refine wp_region_tree (S := (fun V => V.cell? ⟨w.heap.size + 1, 12, none⟩ = some (.slice aA ans.length ac) ∧ V.cell? ⟨w.heap.size + 1, 13, none⟩ = some (.slice uA auth.length uc))) (.take 0 (.take 1 (.take 2 (.take 3 (.take 5 (.take 6 (.take 7 (.take 8 (.run 4 (.take 10 (.run 9 (.run 11 (.take 12 (.run 13 (.done))))))))))))))) (by kernel_rfl) (by kernel_rfl) (fun _ _ _ _ _ h => h) (HS6.out _ hX5.drew) ?_
      repeat ((with_reducible refine treeIs ?_); first
        | (refine treeTake (v := ?_) (by rfl) (by rfl) ?_ ?_; rotate_left; (focus (intro V hV; (try dsimp only at hV); (go_simp <;> with_reducible rfl))); (try simp only [Act.put, List.setIfInBounds_toArray, List.set_cons_zero, List.set_cons_succ]))
        | (refine treeSkip (by rfl) (by rfl) ?_; (try simp only [Act.put, List.setIfInBounds_toArray, List.set_cons_zero, List.set_cons_succ])))
      refine treeRun (by rfl) (fun K hK => ?_)
      go_simp
      refine (HT1.out _ (hwX.trans (hX5.trans ((Ext.refl W5).drew)))).mono ?_; rintro e wA ⟨ka, va, rfl, ⟨A1, c1, rfl, ho1⟩, hEa⟩
      have h5a : Ext W5 wA := Ext.trans ((Ext.refl W5).drew) hEa
      refine hK.out _ _ ?_ ?_
      · exact HS6.out _ (hX5.trans h5a)
      clear hK K
      (try simp only [Act.put, List.setIfInBounds_toArray, List.set_cons_zero, List.set_cons_succ])
      repeat ((with_reducible refine treeIs ?_); first
        | (refine treeTake (v := ?_) (by rfl) (by rfl) ?_ ?_; rotate_left; (focus (intro V hV; (try dsimp only at hV); (go_simp <;> with_reducible rfl))); (try simp only [Act.put, List.setIfInBounds_toArray, List.set_cons_zero, List.set_cons_succ]))
        | (refine treeSkip (by rfl) (by rfl) ?_; (try simp only [Act.put, List.setIfInBounds_toArray, List.set_cons_zero, List.set_cons_succ])))
      refine treeRun (by rfl) (fun K hK => ?_)
      go_simp
      refine (HT2.out _ (hwX.trans (hX5.trans h5a))).mono ?_; rintro e wB ⟨kb, vb, rfl, ⟨A2, c2, rfl, ho2⟩, hEb⟩
      have h5b : Ext W5 wB := h5a.trans hEb
      have hnB := (h5b.block _ hnz).trans hn5
      have cB12 : wB.cell? ⟨w3.heap.size + 1, 12, none⟩ = some (.slice aA ans.length ac) := heap_cells hnB 12
      have cB13 : wB.cell? ⟨w3.heap.size + 1, 13, none⟩ = some (.slice uA auth.length uc) := heap_cells hnB 13
      have fB : ∀ j, wB.frozen? ⟨w3.heap.size + 1, j, none⟩ = false := fun j => frozen_of_row wB _ j _ _ hnB
      have hWs : W5.heap.size ≤ wB.heap.size := h5b.size
      refine hK.out _ _ ?_ ?_
      · exact HS6.out _ (hX5.trans h5b)
      clear hK K
      (try simp only [Act.put, List.setIfInBounds_toArray, List.set_cons_zero, List.set_cons_succ])
      refine treeRun (by rfl) (fun K hK => ?_)
      have hX5b := hX5.trans h5b
      go_simp
      refine hK.out _ _ ?_ ?_
      · exact HS6.out _ (by (repeat (first | with_reducible exact Ext.refl _ | with_reducible assumption | with_reducible refine Ext.alloc ?_ _ | with_reducible refine Ext.drewN ?_ _ | with_reducible refine Ext.drew ?_ | (with_reducible refine Ext.setCell ?_ ?hp _; case hp => (simp <;> omega)))))
      clear hK K
      (try simp only [Act.put, List.setIfInBounds_toArray, List.set_cons_zero, List.set_cons_succ])
      repeat ((with_reducible refine treeIs ?_); first
        | (refine treeTake (v := ?_) (by rfl) (by rfl) ?_ ?_; rotate_left; (focus (intro V hV; (try dsimp only at hV); (go_simp <;> with_reducible rfl))); (try simp only [Act.put, List.setIfInBounds_toArray, List.set_cons_zero, List.set_cons_succ]))
        | (refine treeSkip (by rfl) (by rfl) ?_; (try simp only [Act.put, List.setIfInBounds_toArray, List.set_cons_zero, List.set_cons_succ])))
      refine treeRun (by rfl) (fun K hK => ?_)
      have hX5b := hX5.trans h5b
      go_simp
      refine hK.out _ _ ?_ ?_
      · exact HS6.out _ (by (repeat (first | with_reducible exact Ext.refl _ | with_reducible assumption | with_reducible refine Ext.alloc ?_ _ | with_reducible refine Ext.drewN ?_ _ | with_reducible refine Ext.drew ?_ | (with_reducible refine Ext.setCell ?_ ?hp _; case hp => (simp <;> omega)))))
      clear hK K
      (try simp only [Act.put, List.setIfInBounds_toArray, List.set_cons_zero, List.set_cons_succ])
      refine treeDone ?_
      refine NoPanic.normal ?_
      go_wp2_with fail
      go_meet
      exact ⟨ka, kb, A1, c1, A2, c2, wA.heap.size, heap_set (heap_set hnB 12 _) 13 _, Own.set_other (Own.set_other (ho1.ext hEb) (show w3.heap.size + 1 < W5.heap.size from hnz) _) (show w3.heap.size + 1 < W5.heap.size from hnz) _, Own.set_other (Own.set_other ho2 (show w3.heap.size + 1 < wA.heap.size from Nat.lt_of_lt_of_le hnz h5a.size) _) (show w3.heap.size + 1 < wA.heap.size from Nat.lt_of_lt_of_le hnz h5a.size) _, fun k hk => (ho1.blk k hk).2, ((hv5.trans h5b).setCell (show (w3.alloc (.cells #[.int .u8 R.code, .slice sA R.sets.length sc, .slice oA R.soa.length oc] 38)).heap.size ≤ w3.heap.size + 1 by simp) _).setCell (show (w3.alloc (.cells #[.int .u8 R.code, .slice sA R.sets.length sc, .slice oA R.soa.length oc] 38)).heap.size ≤ w3.heap.size + 1 by simp) _⟩
  case rest =>
  obtain ⟨ka, kb, A1, c1, A2, c2, lo2, hn8, hown1, hown2, hsp, hv8⟩ := hcut
  obtain ⟨W8, rfl⟩ : ∃ W8 : World, W8 = wc := ⟨_, rfl⟩
  have hX8 := hX3'.trans hv8
  obtain ⟨⟨hba, hoa⟩, _⟩ := HBT.out ka
  obtain ⟨_, hbb, hob⟩ := HBT.out kb
  have hF1 := HF1.out ka kb
  have hF2 := HF2.out ka kb
  clear HF1 HF2 HBT HS6 hn5
  generalize turnR ans ka at_ = L1 at *
  generalize turnR auth kb at_ = L2 at *
  have hcap1 := hown1.cap
  have hcap2 := hown2.cap
  unfold maxLen at hcap1 hcap2
  have hnz8 : w3.heap.size + 1 < W8.heap.size := (Array.getElem?_eq_some_iff.1 hn8).1
  have c8 := HK.out W8 hX8
  have zq8 : w.heap.size < W8.heap.size := Nat.lt_of_lt_of_le zq hX8.size
  go_wp2_with fail
  refine (HLt.out _).mono ?_; rintro e w9 ⟨rfl, hE9⟩
  obtain ⟨p9, pf9, pz9⟩ := ext_new hE9
  have h89 : Ext W8 w9 := ((Ext.refl _).alloc _).trans hE9
  have h8' : Ext W8 (w9.setCell ⟨W8.heap.size, 0, none⟩ (S (letL at_ n))) := h89.setCell (Nat.le_refl _) _
  have hn9 := (h8'.block _ hnz8).trans hn8
  have p9c : ∀ j, (w9.setCell ⟨W8.heap.size, 0, none⟩ (S (letL at_ n))).cell? ⟨W8.heap.size, j, none⟩ = #[S (letL at_ n), .int .u16 ty, .int .u16 cls][j]? := boxSet p9 0 (S (letL at_ n)) (by simp)
  have hr1 : Recs (w9.setCell ⟨W8.heap.size, 0, none⟩ (S (letL at_ n))) 0 (.slice A1 L1.length c1) L1 := ⟨A1, c1, rfl, hown1.cap.1, hown1.cap.2, ((hown1.ext h8').rd).lower (Nat.zero_le _)⟩
  have hr2 : Recs (w9.setCell ⟨W8.heap.size, 0, none⟩ (S (letL at_ n))) 0 (.slice A2 L2.length c2) L2 := ⟨A2, c2, rfl, hown2.cap.1, hown2.cap.2, ((hown2.ext h8').rd).lower (Nat.zero_le _)⟩
  have HVb := Lib.hid (HV2.out _ (hwX.trans (hX8.trans h8')) L1 L2 A1 c1 A2 c2 hba hoa hbb hob hr1 hr2)
  rw [hF1] at HVb
  clear c8 hr1 hr2 hcap2
  go_upto_region 9 with fail
  obtain ⟨W9, hW9⟩ : ∃ W9, W9 = w9.setCell ⟨W8.heap.size, 0, none⟩ (S (letL at_ n)) := ⟨_, rfl⟩
  rw [← hW9]
  rw [← hW9] at h8' hn9 p9c HVb
  clear hW9 p9 pf9
  go_wp2_with (refine wpList_load_rowG (by rfl) 33 (.tmp 16) rfl (w3.heap.size + 1) rfl 33 _ _ _ (hn9) Tryz.underlying33 rfl (by kernel_rfl) ?_)
  refine HVb.out.mono ?_; rintro e w10 ⟨vs2, vo2, rfl, hs2, ho2, _, hE10⟩
  obtain ⟨sA2, sc2, rfl, _, _⟩ := hs2.shape
  obtain ⟨oA2, oc2, rfl, _, _⟩ := ho2.shape
  have h10 : Ext W8 (w10.alloc (.cells #[.int .u8 R.code, .slice sA2 R.sets.length sc2, .slice oA2 R.soa.length oc2] 38)) := (h8'.trans hE10).alloc _
  have h910 : Ext W9 (w10.alloc (.cells #[.int .u8 R.code, .slice sA2 R.sets.length sc2, .slice oA2 R.soa.length oc2] 38)) := hE10.alloc _
  have kv10 := HV.out _ (hv8.trans h10)
  have HSm := Lib.hid (fun V (hV : Ext (w10.alloc (.cells #[.int .u8 R.code, .slice sA2 R.sets.length sc2, .slice oA2 R.soa.length oc2] 38)) V) => ref11_same 0 0 R.code R.code _ _ _ _ R.sets R.soa R.sets R.soa V (Hs.out _ ((hv8.trans h10).trans hV)) (Ho.out _ ((hv8.trans h10).trans hV)) (((hs2.ext ((Ext.refl _).alloc _)).ext hV).sets.lower (Nat.zero_le _)) (((ho2.ext ((Ext.refl _).alloc _)).ext hV).sets.lower (Nat.zero_le _)))
  rw [show verSame R.code R.sets R.soa R.code R.sets R.soa = true by unfold verSame; simp] at HSm
  go_wp2_with fail
  refine (HSm.out _ (Ext.refl _)).mono ?_; rintro e w11 ⟨rfl, hE11⟩
  have h11 : Ext W8 w11 := h10.trans hE11
  have hn11 := (h11.block _ hnz8).trans hn8
  obtain ⟨k11, kf11, kz11⟩ := ext_new hE11
  have pz9' : W8.heap.size < W9.heap.size := by
    have := (p9c 0)
    exact block_lt_of_cell (a := ⟨W8.heap.size, 0, none⟩) (p9c 0)
  have p11 : ∀ j, w11.cell? ⟨W8.heap.size, j, none⟩ = #[S (letL at_ n), .int .u16 ty, .int .u16 cls][j]? := fun j => ((h910.trans hE11).cell (p := ⟨W8.heap.size, j, none⟩) pz9').trans (p9c j)
  have ho11 := hown1.ext h11
  have ho12 := hown2.ext h11
  clear kv10 p9c hn9 HVb
  have hblk : Hid (∀ g, (Value.slice A1 L1.length c1).ownBlock = some g → W5.heap.size ≤ g ∧ g < W8.heap.size ∧ g < lo2) := Lib.hid (fun g hg => ⟨(hown1.blk g hg).1, (hown1.blk g hg).2, hsp g hg⟩)
  have h5s : (w3.alloc (.cells #[.int .u8 R.code, .slice sA R.sets.length sc, .slice oA R.soa.length oc] 38)).heap.size ≤ W5.heap.size := hv5.size
  have hcn11 : w11.cell? ⟨w3.heap.size + 1, 12, none⟩ = some (.slice A1 L1.length c1) := heap_cells hn11 12
  go_wp2_with fail
  go_loopw [21] (fun i wr => ∃ k : Nat, k ≤ L1.length ∧ i = .int .i64 k ∧ Own wr W5.heap.size 48 5 A1 L1.length c1 ((ttlTo tl L1 k).flatMap recCells) ∧ (∀ b, b < w11.heap.size → (Value.slice A1 L1.length c1).ownBlock ≠ some b → wr.heap[b]? = w11.heap[b]?) ∧ w11.heap.size ≤ wr.heap.size ∧ Ext (w3.alloc (.cells #[.int .u8 R.code, .slice sA R.sets.length sc, .slice oA R.soa.length oc] 38)) wr) (fun i _ => L1.length - (intOf i).toNat)
  case atStart => exact ⟨0, by omega, rfl, by rw [show ttlTo tl L1 0 = L1 by simp [ttlTo, allTtl]]; exact ho11, fun b _ _ => rfl, Nat.le_refl _, hv8.trans h11⟩
  case round =>
    obtain ⟨k, hk, rfl, hown, hkeep, hsz, hv⟩ := hrel
    obtain ⟨wo, rfl⟩ : ∃ wo : World, wo = wr := ⟨_, rfl⟩
    have hz811 : W8.heap.size ≤ w11.heap.size := h11.size
    have hnN : (Value.slice A1 L1.length c1).ownBlock ≠ some (w3.heap.size + 1) := fun e => by have := (hblk.out _ e).1; omega
    have hnO := (hkeep (w3.heap.size + 1) (by omega) hnN).trans hn11
    have cnO : wo.cell? ⟨w3.heap.size + 1, 12, none⟩ = some (.slice A1 L1.length c1) := heap_cells hnO 12
    by_cases hlt : k < L1.length
    · obtain ⟨g, rfl, hgl, hgz, hgf, hgc⟩ := hown.addr (by omega)
      have q3 := hgc (k * 5 + 3) _ (flat_get recCells 5 (fun _ => rfl) (ttlTo tl L1 k) k 3 L1[k] (ttlTo_at tl L1 k hlt) (by omega))
      have f3 := hgf (k * 5 + 3)
      have HFS := flat_setRm (ttlTo tl L1 k) k L1[k] ⟨L1[k].name, L1[k].typ, L1[k].cls, tl, L1[k].data⟩ 3 (.int .u32 tl) (ttlTo_at tl L1 k hlt) (by omega) rfl
      have hown' := hown.stored (k * 5 + 3) (.int .u32 tl) (by omega)
      rw [HFS, ← ttlTo_step tl L1 k hlt] at hown'
      have hki : (k : Int) < (L1.length : Int) := by omega
      have hk0 : (0 : Int) ≤ (k : Int) := by omega
      clear HFS hgc hgf
      go_wp2_with fail
      go_roundw
      case rel => exact ⟨k + 1, by omega, by go_num, hown', fun b hb hne => (Below.heap_setCell wo ⟨g, k * 5 + 3, none⟩ _ b (fun e => hne (by rw [e]; rfl))).trans (hkeep b hb hne), by simpa using hsz, hv.setCell (show (w3.alloc (.cells #[.int .u8 R.code, .slice sA R.sets.length sc, .slice oA R.soa.length oc] 38)).heap.size ≤ g by omega) _⟩
      case measure => simp [intOf]; omega
    · obtain rfl : k = L1.length := by omega
      rw [ttlTo_all tl L1 _ (Nat.le_refl _)] at hown
      have hnP : (Value.slice A1 L1.length c1).ownBlock ≠ some W8.heap.size := fun e => by have := (hblk.out _ e).2.1; omega
      have hz10 : W8.heap.size ≤ w10.heap.size := (h8'.trans hE10).size
      have hn2 : (Value.slice A1 L1.length c1).ownBlock ≠ some w10.heap.size := fun e => by have := (hblk.out _ e).2.1; omega
      have pzz : W8.heap.size < w11.heap.size := Nat.lt_of_lt_of_le pz9' (h910.trans hE11).size
      have pO : ∀ j, wo.cell? ⟨W8.heap.size, j, none⟩ = #[S (letL at_ n), .int .u16 ty, .int .u16 cls][j]? := fun j => (cell_heq (hkeep _ pzz hnP) j).trans (p11 j)
      have kO : ∀ j, wo.cell? ⟨w10.heap.size, j, none⟩ = #[.int .u8 R.code, .slice sA2 R.sets.length sc2, .slice oA2 R.soa.length oc2][j]? := fun j => (cell_heq (hkeep _ kz11 hn2) j).trans (k11 j)
      have kfO : ∀ j, wo.frozen? ⟨w10.heap.size, j, none⟩ = false := fun j => (froz_heq (hkeep _ kz11 hn2) j).trans (kf11 j)
      have hlA : (allTtl tl L1).length = L1.length := by unfold allTtl; rw [List.length_map]
      have hr1 : Recs wo 0 (.slice A1 (allTtl tl L1).length c1) (allTtl tl L1) := ⟨A1, c1, rfl, by rw [hlA]; exact hown.cap.1, hown.cap.2, by rw [hlA]; exact hown.rd.lower (Nat.zero_le _)⟩
      have ho2w : Own wo lo2 48 5 A2 L2.length c2 (L2.flatMap recCells) := ho12.heq (fun g hg => hkeep g (ho12.blk g hg).2 (fun e => by have h1 := (hblk.out _ e).2.2; have h2 := (ho12.blk g hg).1; omega))
      have hr2 : Recs wo 0 (.slice A2 L2.length c2) L2 := ⟨A2, c2, rfl, ho2w.cap.1, ho2w.cap.2, ho2w.rd.lower (Nat.zero_le _)⟩
      have HVc := HV2.out wo (hwX.trans (hX3'.trans hv)) (allTtl tl L1) L2 A1 c1 A2 c2 (all_bd hba tl) (all_ok hoa tl) hbb hob hr1 hr2
      rw [hlA] at HVc
      generalize hR2 : verOf (letL at_ n) ty cls code (allTtl tl L1) L2 = R2 at *
      have HVd := Lib.hid HVc
      obtain ⟨e1, e2, e3, e4⟩ := hF2
      have hwz : w10.heap.size < wo.heap.size := Nat.lt_of_lt_of_le kz11 hsz
      have hki : ¬ (L1.length : Int) < (L1.length : Int) := by omega
      have f9 : ((R2.err : Int) == (R.err : Int)) = true := by rw [e4]; simp
      clear HVc hr1 hr2 hlA hR2
      go_wp2_with (refine wpList_load_rowG (by rfl) 33 (.tmp 16) rfl (w3.heap.size + 1) rfl 33 _ _ _ (hnO) Tryz.underlying33 rfl (by kernel_rfl) ?_)
      refine HVd.out.mono ?_; rintro e w13 ⟨vs3, vo3, rfl, hs3, ho3, _, hE13⟩
      obtain ⟨sA3, sc3, rfl, _, _⟩ := hs3.shape
      obtain ⟨oA3, oc3, rfl, _, _⟩ := ho3.shape
      have k13 : ∀ j, w13.cell? ⟨w10.heap.size, j, none⟩ = #[.int .u8 R.code, .slice sA2 R.sets.length sc2, .slice oA2 R.soa.length oc2][j]? := fun j => (hE13.cell (p := ⟨w10.heap.size, j, none⟩) hwz).trans (kO j)
      have kf13 : ∀ j, w13.frozen? ⟨w10.heap.size, j, none⟩ = false := fun j => (hE13.frozen (p := ⟨w10.heap.size, j, none⟩) hwz).trans (kfO j)
      have hv13 := hv.trans hE13
      have hvz : (w3.alloc (.cells #[.int .u8 R.code, .slice sA R.sets.length sc, .slice oA R.soa.length oc] 38)).heap.size ≤ w10.heap.size := (hv8.trans (h8'.trans hE10)).size
      have hz13 : w10.heap.size < w13.heap.size := Nat.lt_of_lt_of_le hwz hE13.size
      have hvV : Ext (w3.alloc (.cells #[.int .u8 R.code, .slice sA R.sets.length sc, .slice oA R.soa.length oc] 38)) (((w13.setCell ⟨w10.heap.size, 0, none⟩ (.int .u8 R2.code)).setCell ⟨w10.heap.size, 1, none⟩ (.slice sA3 R2.sets.length sc3)).setCell ⟨w10.heap.size, 2, none⟩ (.slice oA3 R2.soa.length oc3)) := ((hv13.setCell hvz _).setCell hvz _).setCell hvz _
      have kvV := HV.out _ hv13
      have nvw : w3.heap.size ≠ w10.heap.size := by simp at hvz; omega
      have nvw2 : w10.heap.size ≠ w3.heap.size := fun e => nvw e.symm
      have HSn := Lib.hid (ref11_same 0 0 R.code R2.code _ _ _ _ R.sets R.soa R2.sets R2.soa _ (Hs.out _ hvV) (Ho.out _ hvV) ((osets_set3 hs3 hwz (.int .u8 R2.code) (.slice sA3 R2.sets.length sc3) (.slice oA3 R2.soa.length oc3)).sets.lower (Nat.zero_le _)) ((osets_set3 ho3 hwz (.int .u8 R2.code) (.slice sA3 R2.sets.length sc3) (.slice oA3 R2.soa.length oc3)).sets.lower (Nat.zero_le _)))
      rw [show verSame R.code R.sets R.soa R2.code R2.sets R2.soa = true by rw [e1, e2, e3]; unfold verSame; simp] at HSn
      clear kO kfO pO e1 e2 e3 e4
      go_wp2_with fail
      refine HSn.out.mono ?_; rintro e w14 ⟨rfl, hE14⟩
      go_wp2_with fail
      go_ret
      exact ⟨rfl, hwX.trans (hX3'.trans (hvV.trans hE14))⟩
end Go.Proofs.YtbdjoihckienbaaGreatDoor
namespace Go.Proofs.YtbdjoihckienbaaGreatDoor
set_option linter.unusedSimpArgs false
set_option linter.unusedVariables false
open Go.ChangeShapes Go.WideShapes Go.RowKit Go.Deep Go.Joins
set_option maxRecDepth 100000

theorem open_u8 {H : Type} {enc : TypeId × Value → H} {W : World} {r : Reach} {b0 : Nat} {v : Value} {d : DataW H} {p : List MemPlace}
    (hv : Value.okWide Tryz.prog W r b0 5 v) (h : DataW.Trod enc Tryz.prog W 0 (fun _ => true) true 5 v d p) : ∃ n : Int, v = .int .u8 n ∧ 0 ≤ n ∧ n ≤ 255 := by
  obtain ⟨n, rfl⟩ := okWide_int Tryz.underlying5 hv
  obtain ⟨fuel, hf⟩ := h
  obtain ⟨x, e, _, wf⟩ := DataW.trod_int Tryz.underlying5 hf
  simp only [Value.cells, List.cons.injEq, and_true] at e
  injection e with _ e
  subst e
  exact ⟨n, rfl, wf_u8 wf⟩
end Go.Proofs.YtbdjoihckienbaaGreatDoor
namespace Go.Proofs.YtbdjoihckienbaaGreatDoor
set_option linter.unusedSimpArgs false
set_option linter.unusedVariables false
open Go.ChangeShapes Go.WideShapes Go.ChangeAt Go.RowKit
set_option maxRecDepth 100000

theorem verdictForm_contract (H : Type) (enc : TypeId × Value → H) (W : World) (base : Nat) (args : Array Value) (ds gs : List (DataW H)) (before : List MemPlace)
    (hval : ∀ (j : Nat) t v, Tryz.f4.params[j]? = some t → args[j]? = some v → Value.okWide Tryz.prog W .any base t v)
    (hW : DataW.Whole enc Tryz.prog Tryz.f4.params.toList Rows.verdictFormSpec.vars false W args.toList ds gs before)
    (hsz : (DataW.weightsEach Tryz.prog (Tryz.f4.params.toList ++ (OpenSpec.ofChange Rows.verdictFormSpec).bare.plain.varTypes Tryz.prog) (ds ++ gs)).all (· ≤ reachBytes) = true)
    (hL : laidMetH Tryz.prog laidL W) :
    Calls Tryz.prog 4 args W fun e W' => ∃ v, e = .returned v ∧ Rows.verdictFormSpec.post enc Tryz.prog Tryz.f4 false true false false W args v W' := by
  have hW' := hW
  have hp : ∀ t ∈ Tryz.f4.params.toList, Tryz.prog.readableRec t = true ∧ t < Tryz.prog.types.size := by
    have h : (Tryz.f4.params.toList.all fun t => Tryz.prog.readableRec t && decide (t < Tryz.prog.types.size)) = true := by kernel_rfl
    simpa only [List.all_eq_true, Bool.and_eq_true, decide_eq_true_eq] using h
  have hg := laid_of hL
  obtain ⟨p, q, hA0, hV, rfl, _, _⟩ := hW
  have hA : DataW.TrodAll enc Tryz.prog W 0 (fun _ => true) true Tryz.f4.params.toList args.toList ds p := hA0
  clear hA0
  rw [Tryz.params4] at hA hval hsz
  obtain ⟨rfl, rfl⟩ := trodVars_none hV
  obtain ⟨v0, v1, v2, v3, v4, v5, d0, d1, d2, d3, d4, d5, p0, p1, p2, p3, p4, p5, rfl, rfl, rfl, h0, h1, h2, h3, h4, h5⟩ := trodAll_six hA
  obtain ⟨n1, ty1, cl1, rfl, hn1, _, _⟩ := open_question (hval 0 _ _ rfl rfl) h0
  obtain ⟨x1, code1, aA1, ac1, uA1, uc1, ans1, auth1, ext1, rfl, ha1, hu1, hx1, hao1, huo1, hxo1, hcd1, hq1⟩ := open_msg (hval 1 _ _ rfl rfl) h1
  obtain ⟨tn, rfl, hb1, hb2⟩ := open_i64 (hval 2 _ _ rfl rfl) h2
  obtain ⟨ai, rfl, ha0, ha9⟩ := open_u8 (hval 3 _ _ rfl rfl) h3
  obtain ⟨nid, rfl, _, _⟩ := open_u16 (hval 4 _ _ rfl rfl) h4
  obtain ⟨tl, rfl, _, _⟩ := open_u32 (hval 5 _ _ rfl rfl) h5
  obtain ⟨at_, rfl⟩ : ∃ at_ : Nat, ai = (at_ : Int) := ⟨ai.toNat, by omega⟩
  refine (law_verdictForm x1 n1 ty1 cl1 code1 aA1 ac1 uA1 uc1 ans1 auth1 ext1 tn nid tl at_ W hg ha1 hu1 hx1 hao1 huo1 hxo1 hn1 hq1 hb1 hb2 (by omega)).mono ?_
  rintro e W' ⟨rfl, hE⟩
  exact ⟨_, rfl, post_true laid_out rfl (by kernel_rfl) Tryz.underlying4 hp hW' rfl hE⟩

theorem verdictForm_reads (os : Os) {H : Type} (enc : TypeId × Value → H) : ∃ places, DataW.whole enc Tryz.prog ((laidWorld os).forCall (fun _ _ => 0) ⟨#[], #[.agg #[.string ⟨#[]⟩, .int .u16 0, .int .u16 0], .agg #[.int .u16 0, .bool false, .int .u8 0, .bool false, .bool false, .bool false, .bool false, .bool false, .bool false, .bool false, .int .u8 0, .slice none 0 0, .slice none 0 0, .slice none 0 0, .slice none 0 0, .bool false, .int .u16 0, .int .u8 0, .int .u8 0, .int .u16 0, .slice none 0 0], .int .i64 0, .int .u8 0, .int .u16 0, .int .u32 0], []⟩).memory Tryz.f4.params.toList Rows.verdictFormSpec.vars false (#[.agg #[.string ⟨#[]⟩, .int .u16 0, .int .u16 0], .agg #[.int .u16 0, .bool false, .int .u8 0, .bool false, .bool false, .bool false, .bool false, .bool false, .bool false, .bool false, .int .u8 0, .slice none 0 0, .slice none 0 0, .slice none 0 0, .slice none 0 0, .bool false, .int .u16 0, .int .u8 0, .int .u8 0, .int .u16 0, .slice none 0 0], .int .i64 0, .int .u8 0, .int .u16 0, .int .u32 0] : Array Value).toList 8 = some ([.agg [.lit (.string []), .lit (.int .u16 0), .lit (.int .u16 0)], .agg [.agg [.lit (.int .u16 0), .lit (.bool false), .lit (.int .u8 0), .lit (.bool false), .lit (.bool false), .lit (.bool false), .lit (.bool false), .lit (.bool false), .lit (.bool false), .lit (.bool false), .lit (.int .u8 0)], .nil, .nil, .nil, .nil, .lit (.bool false), .agg [.lit (.int .u16 0), .lit (.int .u8 0), .lit (.int .u8 0), .lit (.int .u16 0), .nil]], .lit (.int .i64 0), .lit (.int .u8 0), .lit (.int .u16 0), .lit (.int .u32 0)], [], places) :=
  ⟨[], by kernel_rfl⟩
theorem verdictForm_lifted (os : Os) (started : os.Started) (H : Type) (enc : TypeId × Value → H) (F : Stop.Interp) :
    ReturnsInHanded {} Tryz.checked os 4 .any ((OpenSpec.ofChange Rows.verdictFormSpec).preRow enc Tryz.prog Tryz.f4 Rows.verdictFormRow.domain false Rows.verdictFormRow.laid) (((OpenSpec.ofChange Rows.verdictFormSpec).at F).post enc Tryz.prog Tryz.f4 false true false false) := by
  obtain ⟨places, hx⟩ := verdictForm_reads os enc
  refine returnsInHanded_of_row (C := Tryz.checked) (s := OpenSpec.ofChange Rows.verdictFormSpec) own_knob started (by kernel_rfl) Tryz.func4
    (witness_row_at (enc := enc) (C := Tryz.checked) false (laidWorld os) #[.agg #[.string ⟨#[]⟩, .int .u16 0, .int .u16 0], .agg #[.int .u16 0, .bool false, .int .u8 0, .bool false, .bool false, .bool false, .bool false, .bool false, .bool false, .bool false, .int .u8 0, .slice none 0 0, .slice none 0 0, .slice none 0 0, .slice none 0 0, .bool false, .int .u16 0, .int .u8 0, .int .u8 0, .int .u16 0, .slice none 0 0], .int .i64 0, .int .u8 0, .int .u16 0, .int .u32 0] rfl (by kernel_rfl) (by kernel_rfl) (by kernel_rfl)
      (OpenSpec.preRow_of_cond 8 hx (by kernel_rfl) (fun k hk => by cases hk) (by kernel_rfl) (laid_met os _))) ?_
  intro W base args ds gs before hval hW _ _ hsz hL _ _
  exact verdictForm_contract H enc W base args ds gs before hval hW hsz hL
theorem verdictForm_said : Rows.VerdictFormSaid :=
  OpenClaim.holds_of_cond 4 Tryz.f4 rfl rfl rfl rfl rfl rfl rfl ⟨rfl, rfl, rfl, rfl, rfl⟩ rfl rfl rfl rfl rfl (by kernel_rfl) Tryz.func4 (by kernel_rfl)
    (of_decide_eq_true (by kernel_rfl)) (by unfold Func.isWrapper; first | (rw [if_pos (by decide +kernel)]; kernel_rfl) | (rw [if_neg (by decide +kernel)]; exact ⟨rfl, rfl⟩))
    (fun os started H enc _ F => by rw [OpenClaim.pre_eq_preRow]; exact verdictForm_lifted os started H enc F)
/-- THE CARD. -/
theorem verdictForm_card : Rows.VerdictFormCardSaid :=
  Claim7.holds_tied_plain_at .later [] _ _ _ _ verdictForm_said (fun _ h => by cases h) (by kernel_rfl) (fun _ h => by cases h) verdictForm_row_tie rfl ⟨rfl, rfl⟩ (by kernel_rfl) rfl
    (fun f fn hf hfn => by
      obtain rfl : f = 4 := Option.some.inj ((show Tryz.prog.funcNamed Rows.verdictFormRow.func = some 4 by kernel_rfl).symm.trans hf) |>.symm
      obtain rfl : fn = Tryz.f4 := (Option.some.inj (Tryz.func4.symm.trans hfn)).symm
      refine ⟨by kernel_rfl, fun j t ht => ?_⟩
      have h : (Tryz.f4.params.toList.all fun t => !Tryz.prog.wantsStandIn t) = true := by kernel_rfl
      have h2 := List.all_eq_true.1 h t (by simpa using Array.mem_of_getElem? ht)
      exact (by simpa using h2 : Tryz.prog.wantsStandIn t = false))
    (by kernel_rfl)
#print axioms verdictForm_card
end Go.Proofs.YtbdjoihckienbaaGreatDoor
