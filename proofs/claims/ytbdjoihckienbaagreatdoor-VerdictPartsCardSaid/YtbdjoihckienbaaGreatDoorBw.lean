/- Contracts of functions and plain lemmas that the proofs of this seat share (joined texts). No condition. -/
import Derived.Test.YtbdjoihckienbaaGreatDoorBg
import Derived.Test.YtbdjoihckienbaaGreatDoorBv
import Derived.Test.YtbdjoihckienbaaGreatDoorBu0
import Derived.BigRegion
namespace Go.Proofs.YtbdjoihckienbaaGreatDoor
set_option linter.unusedSimpArgs false
set_option linter.unusedVariables false
open Go.RowKit

def wght (r : RecD) : Nat := 12 + min 4000 r.name.length + min 4000 r.data.length
def wsum (l : List RecD) : Nat := (l.map wght).sum
theorem wsum_cons (x : RecD) (l : List RecD) : wsum (x :: l) = wght x + wsum l := by simp [wsum]
theorem wsum_mem {l : List RecD} {x : RecD} (h : x ∈ l) : wght x ≤ wsum l := by
  induction l with
  | nil => simp at h
  | cons a l ih =>
    rw [wsum_cons]
    rcases List.mem_cons.1 h with rfl | h
    · omega
    · have := ih h; omega
theorem wsum_len (l : List RecD) : 12 * l.length ≤ wsum l := by
  induction l with
  | nil => simp
  | cons a l ih =>
    rw [wsum_cons, List.length_cons]
    unfold wght
    omega
theorem recsBd_of {l : List RecD} (h2 : wsum l < 4000) : RecsBd l := by
  have h3 := wsum_len l
  refine ⟨by omega, fun r hr => ?_⟩
  have h4 := wsum_mem hr
  unfold wght at h4
  omega
theorem int_eq {k : IntKind} {a b : Int} (h : a = b) : Value.int k a = Value.int k b := by rw [h]
/-- What the count comes to: it stops behind 4000. -/
def recF : List RecD → Nat → Nat
  | [], s => s
  | x :: r, s => if s < 4000 then recF r (s + wght x) else s
def recN (l : List RecD) : Nat := recF l 0
theorem wght_le (x : RecD) : wght x ≤ 8012 := by unfold wght; omega
theorem recF_le : ∀ (l : List RecD) (s : Nat), s ≤ 12012 → recF l s ≤ 12012
  | [], s, h => h
  | x :: r, s, h => by
    unfold recF
    have := wght_le x
    split
    · exact recF_le r _ (by omega)
    · exact h
theorem recN_le (l : List RecD) : recN l ≤ 12012 := recF_le l 0 (by omega)
theorem recF_sum : ∀ (l : List RecD) (s : Nat), recF l s < 4000 → recF l s = s + wsum l
  | [], s, h => by simp [recF, wsum]
  | x :: r, s, h => by
    unfold recF at h ⊢
    split at h
    · rename_i h4
      rw [if_pos h4, recF_sum r _ h, wsum_cons]; omega
    · omega
theorem recN_sum {l : List RecD} (h : recN l < 4000) : wsum l < 4000 := by
  have := recF_sum l 0 h
  unfold recN at h
  omega
def largeM (n : List UInt8) (ans auth ext : List RecD) (qn : Nat) : Bool := decide (1000 < n.length) || (decide (4000 ≤ recN ans + recN auth + recN ext) || decide (100 < qn))
theorem largeM_no {n : List UInt8} {ans auth ext : List RecD} {qn : Nat} (h : largeM n ans auth ext qn = false) : n.length ≤ 1000 ∧ wsum ans < 4000 ∧ wsum auth < 4000 ∧ wsum ext < 4000 ∧ qn ≤ 100 := by
  unfold largeM at h
  simp only [Bool.or_eq_false_iff, decide_eq_false_iff_not] at h
  obtain ⟨h1, h2, h3⟩ := h
  exact ⟨by omega, recN_sum (by omega), recN_sum (by omega), recN_sum (by omega), by omega⟩
end Go.Proofs.YtbdjoihckienbaaGreatDoor
namespace Go.Proofs.YtbdjoihckienbaaGreatDoor
set_option linter.unusedSimpArgs false
set_option linter.unusedVariables false
open Go.RowKit
set_option maxRecDepth 100000

def zoneD (t : UInt8) : List UInt8 := [0, 0, 0, 0, 0, 0, 0, 0, 0, 0, 0, 0, 0, 0, 0, 0, 0, 0, 0, 0, 0, t]
abbrev zeros19 : List UInt8 := [0, 0, 0, 0, 0, 0, 0, 0, 0, 0, 0, 0, 0, 0, 0, 0, 0, 0, 0]
set_option maxHeartbeats 2000000 in
theorem law11_zone (n : List UInt8) (ttl tm : Int) (t : UInt8) (ht : tm = t.toNat) (w : World) :
    Calls Tryz.prog 18 #[S n, .int .u32 ttl, .int .u8 tm] w fun e w' => e = .returned (.agg #[S n, .int .u16 6, .int .u16 1, .int .u32 ttl, S (zoneD t)]) ∧ Ext w w' := by
  subst ht
  have hmk : ∀ W : World, (Instr.makeSlice 79 (.int .i64 19) (.int .i64 19)).run Tryz.prog W = .ok (.slice (some ⟨W.heap.size, 0, none⟩) 19 19) (W.alloc (.cells #[.int .u8 0, .int .u8 0, .int .u8 0, .int .u8 0, .int .u8 0, .int .u8 0, .int .u8 0, .int .u8 0, .int .u8 0, .int .u8 0, .int .u8 0, .int .u8 0, .int .u8 0, .int .u8 0, .int .u8 0, .int .u8 0, .int .u8 0, .int .u8 0, .int .u8 0] 5)) := fun W => by kernel_rfl
  have hzr : ∀ (W : World) (g : Nat), g = W.heap.size → Rd (W.alloc (.cells #[.int .u8 0, .int .u8 0, .int .u8 0, .int .u8 0, .int .u8 0, .int .u8 0, .int .u8 0, .int .u8 0, .int .u8 0, .int .u8 0, .int .u8 0, .int .u8 0, .int .u8 0, .int .u8 0, .int .u8 0, .int .u8 0, .int .u8 0, .int .u8 0, .int .u8 0] 5)) 0 1 (some ⟨g, 0, none⟩) 19 (zeros19.map U8) := fun W g hg => rd_new W g hg 5 [.int .u8 0, .int .u8 0, .int .u8 0, .int .u8 0, .int .u8 0, .int .u8 0, .int .u8 0, .int .u8 0, .int .u8 0, .int .u8 0, .int .u8 0, .int .u8 0, .int .u8 0, .int .u8 0, .int .u8 0, .int .u8 0, .int .u8 0, .int .u8 0, .int .u8 0] 19 1 rfl
  have hor : ∀ (W : World) (g : Nat), g = W.heap.size → Rd (W.alloc (.cells #[.int .u8 (t.toNat : Int)] 5)) 0 1 (some ⟨g, 0, none⟩) 1 ([t].map U8) := fun W g hg => rd_new W g hg 5 [.int .u8 (t.toNat : Int)] 1 1 rfl
  have E1 := conv_str 19 ((hzr (w.alloc (.cells #[S [], .int .u16 0, .int .u16 0, .int .u32 0, S []] 48)) (w.heap.size + 1) (by simp)).ext ((Ext.refl _).drew))
  have E2 := conv_str 19 ((hzr (w.alloc (.cells #[S [], .int .u16 0, .int .u16 0, .int .u32 0, S []] 48)) (w.heap.size + 1) (by simp)).ext (((Ext.refl _).alloc (.cells #[.int .u8 (t.toNat : Int)] 5)).drew))
  have E3 := conv_str 1 ((hor ((w.alloc (.cells #[S [], .int .u16 0, .int .u16 0, .int .u32 0, S []] 48)).alloc (.cells #[.int .u8 0, .int .u8 0, .int .u8 0, .int .u8 0, .int .u8 0, .int .u8 0, .int .u8 0, .int .u8 0, .int .u8 0, .int .u8 0, .int .u8 0, .int .u8 0, .int .u8 0, .int .u8 0, .int .u8 0, .int .u8 0, .int .u8 0, .int .u8 0, .int .u8 0] 5)) (w.heap.size + 1 + 1) (by simp)).ext ((Ext.refl _).drew))
  have E4 := conv_str 1 ((hor (w.alloc (.cells #[S [], .int .u16 0, .int .u16 0, .int .u32 0, S []] 48)) (w.heap.size + 1) (by simp)).ext ((Ext.refl _).drew))
  have E5 := conv_str 1 ((hor (w.alloc (.cells #[S [], .int .u16 0, .int .u16 0, .int .u32 0, S []] 48)) (w.heap.size + 1) (by simp)).ext (((Ext.refl _).alloc (.cells #[.int .u8 0, .int .u8 0, .int .u8 0, .int .u8 0, .int .u8 0, .int .u8 0, .int .u8 0, .int .u8 0, .int .u8 0, .int .u8 0, .int .u8 0, .int .u8 0, .int .u8 0, .int .u8 0, .int .u8 0, .int .u8 0, .int .u8 0, .int .u8 0, .int .u8 0] 5)).drew))
  have E6 := conv_str 19 ((hzr ((w.alloc (.cells #[S [], .int .u16 0, .int .u16 0, .int .u32 0, S []] 48)).alloc (.cells #[.int .u8 (t.toNat : Int)] 5)) (w.heap.size + 1 + 1) (by simp)).ext ((Ext.refl _).drew))
  clear hzr hor
  go_enter Tryz.func18, Tryz.ntmps18
  go_wp2_with fail
  go_region
  all_goals
    go_wp2_with fail
    refine bodyPost_ret (v := .agg #[S n, .int .u16 6, .int .u16 1, .int .u32 ttl, S (zoneD t)]) (by simp [results, Tryz.results18, go_sem, zoneD]) rfl ⟨rfl, by (repeat (first | with_reducible exact Ext.refl _ | with_reducible assumption | with_reducible refine Ext.alloc ?_ _ | with_reducible refine Ext.drewN ?_ _ | with_reducible refine Ext.drew ?_ | (with_reducible refine Ext.setCell ?_ ?hp _; case hp => (simp <;> omega))))⟩

set_option maxHeartbeats 2000000 in
theorem law11_records (lo : Nat) (v : Value) (l : List RecD) (w : World) (h : Recs w lo v l) (hok : ∀ r ∈ l, RecOk r) :
    Calls Tryz.prog 31 #[v] w fun e w' => e = .returned (.int .i64 (recN l)) ∧ ∃ m, w' = w.drewN m := by
  obtain ⟨A, c, rfl, h1, h2, hrd⟩ := h
  unfold maxLen at h2
  obtain ⟨R, hR⟩ : ∃ R, recN l = R := ⟨_, rfl⟩
  rw [hR]
  have HR := Lib.hid hR
  clear hR
  go_enter Tryz.func31, Tryz.ntmps31
  go_wp2_with fail
  go_loopw [3, 4] (fun n i wr => ∃ k q s : Nat, k ≤ l.length ∧ i = .int .i64 k ∧ n = .int .i64 s ∧ s ≤ 12012 ∧ recF (l.drop k) s = R ∧ wr = w.drewN q) (fun _ i _ => l.length - (intOf i).toNat)
  case atStart => exact ⟨0, 0, 0, by omega, rfl, rfl, by omega, HR.out, rfl⟩
  case round =>
    obtain ⟨k, q, s, hk, rfl, rfl, hs, hrf, rfl⟩ := hrel
    by_cases hlt : k < l.length
    · obtain ⟨b, off, rfl, _, hbz, hc⟩ := hrd.2 (by omega)
      have hcs := recs_cells hc k l[k] (List.getElem?_eq_getElem hlt)
      have hx := hok l[k] (List.getElem_mem hlt)
      rw [List.drop_eq_getElem_cons hlt, recF] at hrf
      have hwl := wght_le l[k]
      have Hrf := Lib.hid hrf
      clear hrf
      have Hw := Lib.hid (show wght l[k] = 12 + min 4000 l[k].name.length + min 4000 l[k].data.length from rfl)
      generalize l[k] = x at *
      obtain ⟨nm, ty, cl, tt, da⟩ := x
      obtain ⟨x0, x1, x2, x3, x4⟩ := hcs
      unfold RecOk maxLen at hx
      dsimp only at *
      obtain ⟨hn1, hd1, _⟩ := hx
      generalize wght ⟨nm, ty, cl, tt, da⟩ = W at *
      have hki : (k : Int) < (l.length : Int) := by omega
      have hk0 : (0 : Int) ≤ (k : Int) := by omega
      clear hc
      by_cases hs4 : s < 4000
      · have hsi : (s : Int) < 4000 := by omega
        have HF := Lib.hid (show recF (l.drop (k + 1)) (s + W) = R by rw [← Hrf.out, if_pos hs4])
        go_wp2_with fail
        go_quiet (fail)
        go_wp2_with fail
        go_roundw
        case rel => exact ⟨k + 1, _, s + W, by omega, by go_num, by rw [Hw.out]; exact int_eq (by omega), by omega, HF.out, rfl⟩
        case measure => simp [intOf]; omega
      · have hsi : decide ((s : Int) < 4000) = false := by simp; omega
        have HF := Lib.hid (show s = R by rw [← Hrf.out, if_neg hs4])
        have hge : (4000 : Int) ≤ (s : Int) := by omega
        go_wp2_with fail
        go_ret
        exact ⟨ret_int (by rw [HF.out]), q, rfl⟩
    · have e1 : l.drop k = [] := List.drop_of_length_le (by omega)
      rw [e1] at hrf
      have HF := Lib.hid (show s = R from hrf)
      clear e1 hrf
      go_wp2_with fail
      go_ret
      exact ⟨ret_int (by rw [HF.out]), q, rfl⟩

set_option maxHeartbeats 4000000 in
theorem law11_large (x : MsgX) (n : List UInt8) (ty cls code : Int) (lo : Nat) (aA : Option Addr) (ac : Nat) (uA : Option Addr) (uc : Nat) (ans auth ext : List RecD) (w : World)
    (ha : Recs w lo (.slice aA ans.length ac) ans) (hu : Recs w lo (.slice uA auth.length uc) auth) (hx : Recs w lo (.slice x.xA x.xn x.xc) ext) (hao : ∀ r ∈ ans, RecOk r) (huo : ∀ r ∈ auth, RecOk r) (hxo : ∀ r ∈ ext, RecOk r) (hn : n.length ≤ maxLen) (hq : x.qn ≤ maxLen) :
    Calls Tryz.prog 10 #[.agg #[S n, .int .u16 ty, .int .u16 cls], msgV x code (.slice aA ans.length ac) (.slice uA auth.length uc)] w fun e w' => e = .returned (.bool (largeM n ans auth ext x.qn)) ∧ Ext w w' := by
  have H1 := Lib.hid (fun W (hW : Ext w W) => law11_records lo _ ans W (ha.ext hW) hao)
  have H2 := Lib.hid (fun W (hW : Ext w W) => law11_records lo _ auth W (hu.ext hW) huo)
  have H3 := Lib.hid (fun W (hW : Ext w W) => law11_records lo _ ext W (hx.ext hW) hxo)
  have HL : Hid (largeM n ans auth ext x.qn = (decide (1000 < n.length) || (decide (4000 ≤ recN ans + recN auth + recN ext) || decide (100 < x.qn)))) := rfl
  generalize largeM n ans auth ext x.qn = B at *
  have b1 := recN_le ans
  have b2 := recN_le auth
  have b3 := recN_le ext
  generalize recN ans = s1 at *
  generalize recN auth = s2 at *
  generalize recN ext = s3 at *
  unfold maxLen at hn hq
  by_cases hn1 : 1000 < n.length
  · have f1 : (1000 : Int) < (n.length : Int) := by omega
    have HF := Lib.hid (show B = true by rw [HL.out, decide_eq_true hn1]; rfl)
    clear hn1
    go_enter Tryz.func10, Tryz.ntmps10
    go_wp2_with fail
    go_quiet (fail)
    go_wp2_with fail
    go_ret
    exact ⟨ret_bool HF.out.symm, by (repeat (first | with_reducible exact Ext.refl _ | with_reducible assumption | with_reducible refine Ext.alloc ?_ _ | with_reducible refine Ext.drewN ?_ _ | with_reducible refine Ext.drew ?_ | (with_reducible refine Ext.setCell ?_ ?hp _; case hp => (simp <;> omega))))⟩
  have f1 : decide ((1000 : Int) < (n.length : Int)) = false := by simp; omega
  by_cases h4 : 4000 ≤ s1 + s2 + s3
  · have HF := Lib.hid (show B = true by rw [HL.out, decide_eq_true h4]; simp)
    have f2 : (4000 : Int) ≤ (s1 : Int) + (s2 : Int) + (s3 : Int) := by omega
    have f3 : decide ((4000 : Int) ≤ (s1 : Int) + (s2 : Int) + (s3 : Int)) = true := by simpa using f2
    clear hn1 h4
    go_enter Tryz.func10, Tryz.ntmps10
    go_wp2_with fail
    go_quiet ((first | (go_at_call 31; with_reducible exact Calls.quiet_of (H1.out _ (by (repeat (first | with_reducible exact Ext.refl _ | with_reducible assumption | with_reducible refine Ext.alloc ?_ _ | with_reducible refine Ext.drewN ?_ _ | with_reducible refine Ext.drew ?_ | (with_reducible refine Ext.setCell ?_ ?hp _; case hp => (simp <;> omega))))))) | (go_at_call 31; with_reducible exact Calls.quiet_of (H2.out _ (by (repeat (first | with_reducible exact Ext.refl _ | with_reducible assumption | with_reducible refine Ext.alloc ?_ _ | with_reducible refine Ext.drewN ?_ _ | with_reducible refine Ext.drew ?_ | (with_reducible refine Ext.setCell ?_ ?hp _; case hp => (simp <;> omega))))))) | (go_at_call 31; with_reducible exact Calls.quiet_of (H3.out _ (by (repeat (first | with_reducible exact Ext.refl _ | with_reducible assumption | with_reducible refine Ext.alloc ?_ _ | with_reducible refine Ext.drewN ?_ _ | with_reducible refine Ext.drew ?_ | (with_reducible refine Ext.setCell ?_ ?hp _; case hp => (simp <;> omega)))))))))
    go_wp2_with fail
    go_ret
    exact ⟨ret_bool HF.out.symm, by (repeat (first | with_reducible exact Ext.refl _ | with_reducible assumption | with_reducible refine Ext.alloc ?_ _ | with_reducible refine Ext.drewN ?_ _ | with_reducible refine Ext.drew ?_ | (with_reducible refine Ext.setCell ?_ ?hp _; case hp => (simp <;> omega))))⟩
  · have HF := Lib.hid (show B = decide (100 < x.qn) by rw [HL.out, decide_eq_false hn1, decide_eq_false h4]; rfl)
    have f2 : ¬ (4000 : Int) ≤ (s1 : Int) + (s2 : Int) + (s3 : Int) := by omega
    have f3 : decide ((4000 : Int) ≤ (s1 : Int) + (s2 : Int) + (s3 : Int)) = false := by simpa using f2
    clear hn1 h4
    go_enter Tryz.func10, Tryz.ntmps10
    go_wp2_with fail
    go_quiet ((first | (go_at_call 31; with_reducible exact Calls.quiet_of (H1.out _ (by (repeat (first | with_reducible exact Ext.refl _ | with_reducible assumption | with_reducible refine Ext.alloc ?_ _ | with_reducible refine Ext.drewN ?_ _ | with_reducible refine Ext.drew ?_ | (with_reducible refine Ext.setCell ?_ ?hp _; case hp => (simp <;> omega))))))) | (go_at_call 31; with_reducible exact Calls.quiet_of (H2.out _ (by (repeat (first | with_reducible exact Ext.refl _ | with_reducible assumption | with_reducible refine Ext.alloc ?_ _ | with_reducible refine Ext.drewN ?_ _ | with_reducible refine Ext.drew ?_ | (with_reducible refine Ext.setCell ?_ ?hp _; case hp => (simp <;> omega))))))) | (go_at_call 31; with_reducible exact Calls.quiet_of (H3.out _ (by (repeat (first | with_reducible exact Ext.refl _ | with_reducible assumption | with_reducible refine Ext.alloc ?_ _ | with_reducible refine Ext.drewN ?_ _ | with_reducible refine Ext.drew ?_ | (with_reducible refine Ext.setCell ?_ ?hp _; case hp => (simp <;> omega)))))))))
    go_wp2_with fail
    go_ret
    exact ⟨ret_bool (by rw [HF.out]; simp; omega), by (repeat (first | with_reducible exact Ext.refl _ | with_reducible assumption | with_reducible refine Ext.alloc ?_ _ | with_reducible refine Ext.drewN ?_ _ | with_reducible refine Ext.drew ?_ | (with_reducible refine Ext.setCell ?_ ?hp _; case hp => (simp <;> omega))))⟩
end Go.Proofs.YtbdjoihckienbaaGreatDoor
