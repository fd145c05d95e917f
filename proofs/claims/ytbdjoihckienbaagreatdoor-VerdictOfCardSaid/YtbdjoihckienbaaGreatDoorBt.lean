/- Contracts of functions and plain lemmas that the proofs of this seat share (joined texts). No condition. -/
import Derived.Test.YtbdjoihckienbaaGreatDoorBd
import Derived.Test.YtbdjoihckienbaaGreatDoorBf
import Derived.Test.YtbdjoihckienbaaGreatDoorBa
namespace Go.Proofs.YtbdjoihckienbaaGreatDoor
set_option linter.unusedSimpArgs false
set_option linter.unusedVariables false
open Go.RowKit
set_option maxRecDepth 100000

theorem targetS_one (nm : List UInt8) (ty cl tt : Int) (d : List UInt8) : targetS ⟨nm, ty, cl, tt, [d]⟩ = if may d then some (fold d) else none := by
  unfold targetS
  simp only
  rw [rnames_name (by simp)]
  by_cases h : may d = true
  · simp [h]
  · simp [h]
theorem targetS_many (s : SetD) (h : s.data.length ≠ 1) : targetS s = none := by
  unfold targetS
  match hd : s.data, h with
  | [], _ => rfl
  | [_], h => exact absurd rfl h
  | _ :: _ :: _, _ => rfl

structure RFInv (w w1 : World) (lo : Nat) (l : List SetD) (ty cls : Int) (R : FolR) (here : List UInt8) (seen : List (List UInt8)) (ps : List (SetD × Value)) (sA : Option Addr) (sc : Nat) (pA : Option Addr) (pc : Nat) (wr : World) : Prop where
  h8 : ps.length ≤ 8
  hs : seen.length = ps.length + 1
  hh : here.length ≤ 255
  oseen : Own wr w1.heap.size 9 1 sA seen.length sc (seen.map S)
  opath : Own wr w1.heap.size 55 5 pA ps.length pc (ps.flatMap setCells)
  datas : ∀ p ∈ ps, Strs w lo p.2 p.1.data
  ext : Ext w1 wr
  eq : R = followF l ty cls (9 - ps.length) here seen (ps.map Prod.fst)
def RFollowPost (R : FolR) (w : World) (e : Ending) (w' : World) : Prop :=
  ∃ v u, e = .returned (.tuple #[v, S R.here, u, .int .i64 R.err]) ∧ Sets w' 0 v R.path ∧ Sets w' 0 u R.fin ∧ Ext w w'
theorem Sets.nil (w : World) (lo : Nat) : Sets w lo (.slice none 0 0) [] := (OSets.nil w lo).sets
theorem Own.sets {w w' : World} {lo lo' : Nat} {A : Option Addr} {c : Nat} {ps : List (SetD × Value)} (h : Own w' lo' 55 5 A ps.length c (ps.flatMap setCells)) (hd : ∀ p ∈ ps, Strs w lo p.2 p.1.data) (hE : Ext w w') : Sets w' 0 (.slice A ps.length c) (ps.map Prod.fst) :=
  ⟨ps, A, c, rfl, rfl, h.cap.1, h.cap.2, h.rd.lower (Nat.zero_le _), fun p hp => ((hd p hp).ext hE).lower (Nat.zero_le _)⟩
theorem strs_one {w : World} {lo : Nat} {d : Value} {x : List UInt8} (h : Strs w lo d [x]) : ∃ b off c, d = .slice (some ⟨b, off, none⟩) 1 c ∧ b < w.heap.size ∧ w.cell? ⟨b, off, none⟩ = some (S x) ∧ 1 ≤ c ∧ c ≤ maxLen := by
  obtain ⟨A, c, rfl, h1, h2, hrd⟩ := h
  obtain ⟨b, off, rfl, _, hb, hc⟩ := hrd.2 (by simp)
  exact ⟨b, off, c, rfl, hb, hc 0 _ rfl, h1, h2⟩

set_option maxHeartbeats 4000000 in
theorem ref_follow (lo : Nat) (n : List UInt8) (ty cls : Int) (v : Value) (l : List SetD) (w : World) (hS : Sets w lo v l) (hbd : SetsBd l) (hn : n.length ≤ 1048576) :
    Calls Tryz.prog 33 #[.agg #[S n, .int .u16 ty, .int .u16 cls], v] w (RFollowPost (followOf n ty cls l) w) := by
  by_cases hm : may n = true
  · have hR : followOf n ty cls l = followF l ty cls 9 (fold n) [fold n] [] := by unfold followOf; rw [if_pos hm]
    rw [hR]
    clear hR
    obtain ⟨R, hR⟩ : ∃ R, R = followF l ty cls 9 (fold n) [fold n] [] := ⟨_, rfl⟩
    rw [← hR]
    have HR := Lib.hid hR
    clear hR
    have hfl := fold_le n
    have HF0 := Lib.hid (fun W => ref_fold n W (by omega))
    have HM0 := Lib.hid (fun W => ref_may n W (by omega))
    rw [hm] at HM0
    obtain ⟨i0, hi0, hz0, hz1, hz2⟩ := info_parts info_str
    obtain ⟨j0, hj0, hy0, hy1, hy2⟩ := info_parts info_set
    go_enter Tryz.func33, Tryz.ntmps33
    go_wp2_with fail
    refine (HM0.out _).mono ?_; rintro e w0 ⟨rfl, hE0⟩
    obtain ⟨hq, hqf, hqz⟩ := ext_new hE0
    go_wp2_with fail
    refine (HF0.out _).mono ?_; rintro e w1 ⟨rfl, hE1'⟩
    have hE1 := hE0.trans hE1'
    generalize fold n = here0 at *
    clear hq hqf hqz hE0 hE1'
    go_wp2_with fail
    have hEw1 : Ext w w1 := ((Ext.refl w).alloc _).trans hE1
    go_loopw [8, 9, 10] (fun h s p wr => ∃ (here : List UInt8) (seen : List (List UInt8)) (ps : List (SetD × Value)) (sA : Option Addr) (sc : Nat) (pA : Option Addr) (pc : Nat), h = S here ∧ s = .slice sA seen.length sc ∧ p = .slice pA ps.length pc ∧ RFInv w w1 lo l ty cls R here seen ps sA sc pA pc wr) (fun _ _ p _ => 8 - lenOf p)
    case atStart =>
      refine ⟨here0, [here0], [], _, 1, none, 0, rfl, rfl, rfl, ⟨by simp, rfl, hfl, own_lit w1 _ _ rfl (Nat.le_refl _) _ _ 1 1 rfl (by unfold maxLen; omega), Own.nil _ _ _ _, by simp, (Ext.refl _).alloc _, HR.out⟩⟩
    case round =>
      obtain ⟨here, seen, ps, sA, sc, pA, pc, rfl, rfl, rfl, hI⟩ := hrel
      obtain ⟨wo, rfl⟩ : ∃ wo : World, wo = wr := ⟨_, rfl⟩
      have h8 := hI.h8
      have hs := hI.hs
      have hEwo := hEw1.trans hI.ext
      obtain ⟨hq, hqf, hqz⟩ := ext_new (hE1.trans hI.ext)
      have hq1 : wo.cell? ⟨w.heap.size, 1, none⟩ = some (.int .u16 ty) := hq 1
      have hq2 : wo.cell? ⟨w.heap.size, 2, none⟩ = some (.int .u16 cls) := hq 2
      have hF := hI.eq
      rw [show 9 - ps.length = (8 - ps.length) + 1 by omega] at hF
      simp only [followF] at hF
      have HS := Lib.hid hs
      clear hs hq hqf
      have HFind := Lib.hid (fun k W (hW : Ext w W) => ref_find lo v l here k cls w W hS hW hbd (by have := hI.hh; omega))
      by_cases hty : ty = 5
      · rw [if_pos hty] at hF
        have HF := Lib.hid hF
        clear hF
        have f5 : (ty == 5) = true := by rw [beq_iff_eq]; exact hty
        have f6 : (ty != 5) = false := by rw [bne, f5]; rfl
        clear hty
        go_wp2_with fail
        refine (HFind.out ty _ hEwo).mono ?_; rintro e w5 ⟨d5, rfl, ho5, hE5⟩
        obtain ⟨dA5, dc5, rfl⟩ := ho5.shape
        rcases hf5 : findS l here ty cls with _ | s5
        · have Hf5 := Lib.hid hf5
          rw [hf5] at ho5
          clear hf5
          dsimp only [Option.getD, Option.isSome] at ho5 ⊢
          go_wp2_with fail
          refine bodyPost_ret (results4 rfl _ _ _) rfl ?_
          have hEo := hE5.alloc (.cells #[S SetD.zero.name, .int .u16 SetD.zero.typ, .int .u16 SetD.zero.cls, .int .u32 SetD.zero.ttl, .slice dA5 SetD.zero.data.length dc5] 55)
          refine ⟨_, _, by rw [HF.out, Hf5.out]; rfl, ?_, ?_, hEwo.trans hEo⟩
          · rw [HF.out]; exact (hI.opath.ext hEo).sets hI.datas (hEwo.trans hEo)
          · rw [HF.out, Hf5.out]; exact Sets.nil _ _
        · have Hf5 := Lib.hid hf5
          rw [hf5] at ho5
          clear hf5
          dsimp only [Option.getD, Option.isSome] at ho5 ⊢
          go_wp2_with fail
          go_region
          go_wp2_with fail
          refine bodyPost_ret (results4 rfl _ _ _) rfl ?_
          have hEo : Ext wo _ := (hE5.alloc (.cells #[S s5.name, .int .u16 s5.typ, .int .u16 s5.cls, .int .u32 s5.ttl, .slice dA5 s5.data.length dc5] 55)).drew.alloc (.cells #[S s5.name, .int .u16 s5.typ, .int .u16 s5.cls, .int .u32 s5.ttl, .slice dA5 s5.data.length dc5] 55)
          refine ⟨_, _, by rw [HF.out, Hf5.out]; rfl, ?_, ?_, hEwo.trans hEo⟩
          · rw [HF.out]; exact (hI.opath.ext hEo).sets hI.datas (hEwo.trans hEo)
          · rw [HF.out, Hf5.out]
            exact Own.sets (ps := [(s5, .slice dA5 s5.data.length dc5)]) (own_lit _ _ 0 (by simp) (Nat.zero_le _) _ _ 1 5 rfl (by unfold maxLen; omega)) (fun p hp => by rw [List.mem_singleton] at hp; subst hp; exact ho5) (hEwo.trans hEo)
      · rw [if_neg hty] at hF
        have f5 : (ty == 5) = false := by rw [beq_eq_false_iff_ne]; exact hty
        have f6 : (ty != 5) = true := by rw [bne, f5]; rfl
        clear hty
        go_wp2_with fail
        refine (HFind.out 5 _ hEwo).mono ?_; rintro e w2 ⟨d2, rfl, ho2, hE2⟩
        obtain ⟨dA2, dc2, rfl⟩ := ho2.shape
        obtain ⟨hr, hrf, hrz⟩ := ext_new ((hE1.trans hI.ext).trans hE2)
        have hr1 : w2.cell? ⟨w.heap.size, 1, none⟩ = some (.int .u16 ty) := hr 1
        have hr2 : w2.cell? ⟨w.heap.size, 2, none⟩ = some (.int .u16 cls) := hr 2
        clear hr hrf hq1 hq2 hqz
        rcases hfa : findS l here 5 cls with _ | a
        · rw [hfa] at hF ho2
          have HF := Lib.hid hF
          clear hF hfa
          dsimp only [Option.getD, Option.isSome] at ho2 ⊢
          have hE2b := hE2.alloc (.cells #[S SetD.zero.name, .int .u16 SetD.zero.typ, .int .u16 SetD.zero.cls, .int .u32 SetD.zero.ttl, .slice dA2 SetD.zero.data.length dc2] 55)
          have hEw2 := hEwo.trans hE2b
          go_wp2_with fail
          refine (HFind.out ty _ hEw2).mono ?_; rintro e w5 ⟨d5, rfl, ho5, hE5⟩
          obtain ⟨dA5, dc5, rfl⟩ := ho5.shape
          rcases hf5 : findS l here ty cls with _ | s5
          · have Hf5 := Lib.hid hf5
            rw [hf5] at ho5
            clear hf5
            dsimp only [Option.getD, Option.isSome] at ho5 ⊢
            go_wp2_with fail
            refine bodyPost_ret (results4 rfl _ _ _) rfl ?_
            have hEo := (hE2b.trans hE5).alloc (.cells #[S SetD.zero.name, .int .u16 SetD.zero.typ, .int .u16 SetD.zero.cls, .int .u32 SetD.zero.ttl, .slice dA5 SetD.zero.data.length dc5] 55)
            refine ⟨_, _, by rw [HF.out, Hf5.out]; rfl, ?_, ?_, hEwo.trans hEo⟩
            · rw [HF.out]; exact (hI.opath.ext hEo).sets hI.datas (hEwo.trans hEo)
            · rw [HF.out, Hf5.out]; exact Sets.nil _ _
          · have Hf5 := Lib.hid hf5
            rw [hf5] at ho5
            clear hf5
            dsimp only [Option.getD, Option.isSome] at ho5 ⊢
            go_wp2_with fail
            go_region
            go_wp2_with fail
            refine bodyPost_ret (results4 rfl _ _ _) rfl ?_
            have hEo : Ext wo _ := ((hE2b.trans hE5).alloc (.cells #[S s5.name, .int .u16 s5.typ, .int .u16 s5.cls, .int .u32 s5.ttl, .slice dA5 s5.data.length dc5] 55)).drew.alloc (.cells #[S s5.name, .int .u16 s5.typ, .int .u16 s5.cls, .int .u32 s5.ttl, .slice dA5 s5.data.length dc5] 55)
            refine ⟨_, _, by rw [HF.out, Hf5.out]; rfl, ?_, ?_, hEwo.trans hEo⟩
            · rw [HF.out]; exact (hI.opath.ext hEo).sets hI.datas (hEwo.trans hEo)
            · rw [HF.out, Hf5.out]
              exact Own.sets (ps := [(s5, .slice dA5 s5.data.length dc5)]) (own_lit _ _ 0 (by simp) (Nat.zero_le _) _ _ 1 5 rfl (by unfold maxLen; omega)) (fun p hp => by rw [List.mem_singleton] at hp; subst hp; exact ho5) (hEwo.trans hEo)
        · rw [hfa] at hF ho2
          have Hfa := Lib.hid hfa
          clear hfa
          dsimp only [Option.getD, Option.isSome] at ho2 ⊢
          simp only [List.length_map] at hF
          have hE2b := hE2.alloc (.cells #[S a.name, .int .u16 a.typ, .int .u16 a.cls, .int .u32 a.ttl, .slice dA2 a.data.length dc2] 55)
          have hEw2 := hEwo.trans hE2b
          have hbda := hbd a (findS_mem Hfa.out)
          by_cases h88 : ps.length = 8
          · rw [if_pos h88] at hF
            have HF := Lib.hid hF
            have f8 : (8 : Int) ≤ (ps.length : Int) := by omega
            clear hF h88
            go_wp2_with fail
            refine bodyPost_ret (results4 rfl _ _ _) rfl ?_
            exact ⟨_, _, by rw [HF.out]; rfl, by rw [HF.out]; exact Sets.nil _ _, by rw [HF.out]; exact Sets.nil _ _, hEw2⟩
          · rw [if_neg h88] at hF
            have f8 : (ps.length : Int) < 8 := by omega
            have h87 : ps.length ≤ 7 := by omega
            clear h88
            go_wp2_with fail
            refine (HFind.out ty _ hEw2).mono ?_; rintro e w4 ⟨d4, rfl, ho4, hE4⟩
            obtain ⟨dA4, dc4, rfl⟩ := ho4.shape
            have hEw4 := hEw2.trans hE4
            obtain ⟨ha, haf, haz⟩ := ext_new hE4
            have ha0 : w4.cell? ⟨w2.heap.size, 0, none⟩ = some (S a.name) := ha 0
            have ha1 : w4.cell? ⟨w2.heap.size, 1, none⟩ = some (.int .u16 a.typ) := ha 1
            have ha2 : w4.cell? ⟨w2.heap.size, 2, none⟩ = some (.int .u16 a.cls) := ha 2
            have ha3 : w4.cell? ⟨w2.heap.size, 3, none⟩ = some (.int .u32 a.ttl) := ha 3
            have ha4 : w4.cell? ⟨w2.heap.size, 4, none⟩ = some (.slice dA2 a.data.length dc2) := ha 4
            clear ha haf hr1 hr2 hrz
            obtain ⟨B4, hB4⟩ : ∃ B : Bool, B = (findS l here ty cls).isSome := ⟨_, rfl⟩
            rw [← hB4] at hF ⊢
            generalize hs4 : (findS l here ty cls).getD SetD.zero = s4 at *
            obtain ⟨sn4, st4, sc4, sl4, sd4⟩ := s4
            dsimp only at ho4 ⊢
            have hE4b := hE4.alloc (.cells #[S sn4, .int .u16 st4, .int .u16 sc4, .int .u32 sl4, .slice dA4 sd4.length dc4] 55)
            have hEo4 : Ext wo _ := hE2b.trans hE4b
            have hEw4b := hEwo.trans hEo4
            clear hs4 hB4
            obtain ⟨an, at_, ac, al, ad⟩ := a
            dsimp only at *
            by_cases hl1 : ad.length = 1
            · obtain ⟨x, rfl⟩ := List.length_eq_one_iff.1 hl1
              rw [targetS_one] at hF
              have hx := hbda.2.2 x (by simp)
              obtain ⟨xb, xo, xc, e2, hxz, hxc, hxc1, hxc2⟩ := strs_one ho2
              injection e2 with e2 _ e3
              subst e2 e3
              have hxc4 := (hEw4.cell (p := ⟨xb, xo, none⟩) hxz).trans hxc
              have hxz4 : xb < w4.heap.size := Nat.lt_of_lt_of_le hxz hEw4.size
              have HMx := Lib.hid (fun W => ref_may x W (by omega))
              have HFx := Lib.hid (fun W => ref_fold x W (by omega))
              have hfx := fold_le x
              simp only [List.length_singleton] at *
              rcases hmx : may x with _ | _
              · rw [hmx] at HMx hF
                simp only [Bool.false_eq_true, if_false] at hF
                have HF := Lib.hid hF
                clear hF hmx
                go_wp2_with fail
                refine (HMx.out _).mono ?_; rintro e w6 ⟨rfl, hE6⟩
                go_wp2_with fail
                refine bodyPost_ret (results4 rfl _ _ _) rfl ?_
                exact ⟨_, _, by rw [HF.out]; rfl, by rw [HF.out]; exact Sets.nil _ _, by rw [HF.out]; exact Sets.nil _ _, hEw4b.trans hE6⟩
              · rw [hmx] at HMx hF
                simp only [if_true] at hF
                clear hmx
                rcases B4 with _ | _
                · simp only [Bool.false_eq_true, if_false] at hF
                  go_wp2_with fail
                  refine (HMx.out _).mono ?_; rintro e w6 ⟨rfl, hE6⟩
                  have hEo6 := hEo4.trans hE6
                  have hEw6 := hEwo.trans hEo6
                  obtain ⟨hd, hdf, hdz⟩ := ext_new (hE4b.trans hE6)
                  have hd0 : w6.cell? ⟨w2.heap.size, 0, none⟩ = some (S an) := hd 0
                  have hd1 : w6.cell? ⟨w2.heap.size, 1, none⟩ = some (.int .u16 at_) := hd 1
                  have hd2 : w6.cell? ⟨w2.heap.size, 2, none⟩ = some (.int .u16 ac) := hd 2
                  have hd3 : w6.cell? ⟨w2.heap.size, 3, none⟩ = some (.int .u32 al) := hd 3
                  have hd4 : w6.cell? ⟨w2.heap.size, 4, none⟩ = some (.slice (some ⟨xb, xo, none⟩) 1 dc2) := hd 4
                  have hxc6 := (hEw6.cell (p := ⟨xb, xo, none⟩) hxz).trans hxc
                  clear hd hdf hdz hxc4 hxz4 ha0 ha1 ha2 ha3 ha4
                  have hxz6 : xb < w6.heap.size := Nat.lt_of_lt_of_le hxz hEw6.size
                  go_wp2_with fail
                  refine (HFx.out _).mono ?_; rintro e w7 ⟨rfl, hE7⟩
                  have hEo7 := hEo6.trans hE7
                  have hEw7 := hEwo.trans hEo7
                  obtain ⟨hd, hdf, hdz⟩ := ext_new ((hE4b.trans hE6).trans hE7)
                  have hg0 : w7.cell? ⟨w2.heap.size, 0, none⟩ = some (S an) := hd 0
                  have hg1 : w7.cell? ⟨w2.heap.size, 1, none⟩ = some (.int .u16 at_) := hd 1
                  have hg2 : w7.cell? ⟨w2.heap.size, 2, none⟩ = some (.int .u16 ac) := hd 2
                  have hg3 : w7.cell? ⟨w2.heap.size, 3, none⟩ = some (.int .u32 al) := hd 3
                  have hg4 : w7.cell? ⟨w2.heap.size, 4, none⟩ = some (.slice (some ⟨xb, xo, none⟩) 1 dc2) := hd 4
                  clear hd hdf hdz hd0 hd1 hd2 hd3 hd4 hxc6 hxz6 HFx HMx
                  generalize fold x = next at *
                  have hos7 := hI.oseen.ext hEo7
                  have hop7 := hI.opath.ext hEo7
                  have hsl : seen.length ≤ 9 := by have := HS.out; omega
                  go_wp2_with fail
                  go_loop [15] (fun i => ∃ k : Nat, k ≤ seen.length ∧ i = .int .i64 k ∧ (seen.take k).contains next = false) (fun i => seen.length - (intOf i).toNat)
                  case atStart => exact ⟨0, by omega, rfl, rfl⟩
                  case round =>
                    obtain ⟨k, hk, rfl, hno⟩ := hrel
                    have Hno := Lib.hid hno
                    clear hno
                    by_cases hlt : k < seen.length
                    · obtain ⟨gs, rfl, _, hgsz, _, hgc⟩ := hos7.addr (by omega)
                      have hck := hgc k (S seen[k]) (by simp [List.getElem?_eq_getElem hlt])
                      obtain ⟨y, hy⟩ : ∃ y, y = seen[k] := ⟨_, rfl⟩
                      rw [← hy] at hck
                      have Hy := Lib.hid hy
                      have hki : (k : Int) < (seen.length : Int) := by omega
                      have hk0 : (0 : Int) ≤ (k : Int) := by omega
                      clear hgc hy
                      by_cases hyx : y = next
                      · have f1 := str_eq hyx
                        have hct : seen.contains next = true := by rw [List.contains_iff_mem, ← hyx, Hy.out]; exact List.getElem_mem hlt
                        rw [if_pos hct] at hF
                        have HF := Lib.hid hF
                        clear hyx hF hct
                        go_wp2_with fail
                        refine bodyPost_ret (results4 rfl _ _ _) rfl ?_
                        exact ⟨_, _, by rw [HF.out]; rfl, by rw [HF.out]; exact Sets.nil _ _, by rw [HF.out]; exact Sets.nil _ _, hEw7⟩
                      · have f1 := str_ne hyx
                        have Hyx := Lib.hid hyx
                        have HF0 := Lib.hid hF
                        clear hyx hF
                        go_wp2_with fail
                        go_round
                        case rel =>
                          refine ⟨k + 1, by omega, by go_num, ?_⟩
                          rw [take_snoc seen k hlt, ← Hy.out]
                          have h3 := Hno.out
                          simp [List.contains_eq_any_beq] at h3 ⊢
                          exact ⟨h3, fun e => Hyx.out e.symm⟩
                        case measure => simp [intOf]; omega
                    · have hct : seen.contains next = false := by
                        have := Hno.out
                        rwa [List.take_of_length_le (by omega)] at this
                      rw [if_neg (by rw [hct]; simp)] at hF
                      have HF := Lib.hid hF
                      clear hF hct
                      have hgz : w2.heap.size < w7.heap.size := Nat.lt_of_lt_of_le (by simp) ((hE4b.trans hE6).trans hE7).size
                      go_wp2_with (first
                        | (at_builtin
                           refine wpList_app _ rfl (.tmp 85) (.tmp 87) _ rfl w1.heap.size 9 i0 _ 1 16 Tryz.underlying53 hi0 hz0 hz1 hz2 rfl (by omega) sA seen.length sc (seen.map S) rfl (hos7.ext ((Ext.refl _).alloc _)) 0 _ 1 1 ([next].map S) rfl (rd_new _ _ rfl _ _ 1 1 rfl) (str_one _) (by omega) (by omega) (by have := (hI.ext.trans hEo7).size; simp; omega) ?_
                           intro A5 c5 w8 hown5 hg5 hb5 hat5
                           have hop8 := (hop7.ext ((Ext.refl w7).alloc (.cells #[S next] 9))).kept hg5 (own_ne (hop7.ext ((Ext.refl w7).alloc (.cells #[S next] 9))) (hos7.ext ((Ext.refl w7).alloc (.cells #[S next] 9))) (by decide))
                           have hsz8 : w1.heap.size ≤ w8.heap.size := Nat.le_trans (hI.ext.trans hEo7).size (Nat.le_trans (by simp) hb5.size)
                           have hnb : some w2.heap.size ≠ (Value.slice sA seen.length sc).ownBlock := fun e => absurd (hI.oseen.blk _ e.symm).2 (by have := hE2.size; omega)
                           have hkc : ∀ j u, w7.cell? ⟨w2.heap.size, j, none⟩ = some u → w8.cell? ⟨w2.heap.size, j, none⟩ = some u := fun j u h =>
                             hg5.cell (a := ⟨w2.heap.size, j, none⟩) ((((Ext.refl w7).alloc (.cells #[S next] 9)).cell (p := ⟨w2.heap.size, j, none⟩) hgz).trans h) hnb
                           have k0 := hkc 0 _ hg0
                           have k1 := hkc 1 _ hg1
                           have k2 := hkc 2 _ hg2
                           have k3 := hkc 3 _ hg3
                           have k4 := hkc 4 _ hg4
                           clear hkc hnb hg0 hg1 hg2 hg3 hg4)
                        | (at_builtin
                           refine wpList_app _ rfl (.tmp 89) (.tmp 91) _ rfl w1.heap.size 55 j0 _ 5 48 Tryz.underlying36 hj0 hy0 hy1 hy2 rfl (by omega) pA ps.length pc (ps.flatMap setCells) rfl (hop8.ext ((Ext.refl _).alloc _)) 0 _ 1 1 (setCells (⟨an, at_, ac, al, [x]⟩, .slice (some ⟨xb, xo, none⟩) 1 dc2)) rfl (rd_new _ _ (by simp) _ _ 1 5 rfl) (set_oneS _ _ _ _) (by omega) (by omega) (by simp; omega) ?_
                           intro A6 c6 w9 hown6 hg6 hb6 hat6))
                      have hE8 : Ext w1 w8 := ((hI.ext.trans hEo7).alloc _).then hb5 (Nat.le_refl _)
                      have hE9 : Ext w1 w9 := (hE8.alloc _).then hb6 (Nat.le_refl _)
                      have ho8 : Own (w8.alloc (.cells (setCells (⟨an, at_, ac, al, [x]⟩, .slice (some ⟨xb, xo, none⟩) 1 dc2)).toArray 55)) w1.heap.size 9 1 A5 (seen.length + 1) c5 (seen.map S ++ [next].map S) := hown5.ext ((Ext.refl w8).alloc _)
                      have ho9 := ho8.kept hg6 (own_ne ho8 (hop8.ext ((Ext.refl w8).alloc _)) (by decide))
                      go_roundw
                      case rel =>
                        refine ⟨next, seen ++ [next], ps ++ [(⟨an, at_, ac, al, [x]⟩, .slice (some ⟨xb, xo, none⟩) 1 dc2)], A5, c5, A6, c6, rfl, by simp, by simp, ⟨by simp; omega, by simp [HS.out], hfx, ?_, ?_, ?_, hE9, ?_⟩⟩
                        · rw [List.length_append, List.map_append]; exact ho9
                        · rw [List.length_append, List.flatMap_append]; simpa using hown6
                        · intro p hp
                          rcases List.mem_append.1 hp with h | h
                          · exact hI.datas p h
                          · rw [List.mem_singleton] at h; subst h; exact ho2
                        · rw [HF.out]; simp only [List.length_append, List.length_singleton, List.map_append, List.map_cons, List.map_nil]; congr 1; omega
                      case measure => simp only [lenOf]; omega
                · simp only [if_true] at hF
                  have HF := Lib.hid hF
                  clear hF
                  go_wp2_with fail
                  refine (HMx.out _).mono ?_; rintro e w6 ⟨rfl, hE6⟩
                  go_wp2_with fail
                  refine bodyPost_ret (results4 rfl _ _ _) rfl ?_
                  exact ⟨_, _, by rw [HF.out]; rfl, by rw [HF.out]; exact Sets.nil _ _, by rw [HF.out]; exact Sets.nil _ _, hEw4b.trans hE6⟩
            · rw [targetS_many _ (by exact hl1)] at hF
              have HF := Lib.hid hF
              obtain ⟨f1, f2⟩ := ne_one hl1
              clear hF hl1
              go_wp2_with fail
              refine bodyPost_ret (results4 rfl _ _ _) rfl ?_
              exact ⟨_, _, by rw [HF.out]; rfl, by rw [HF.out]; exact Sets.nil _ _, by rw [HF.out]; exact Sets.nil _ _, hEw4b⟩
  · have hR : followOf n ty cls l = FolR.bad 1 := by unfold followOf; rw [if_neg hm]
    rw [hR]
    have hm' : may n = false := by simpa using hm
    have HM0 := Lib.hid (fun W => ref_may n W (by omega))
    rw [hm'] at HM0
    clear hm hR
    go_enter Tryz.func33, Tryz.ntmps33
    go_wp2_with fail
    refine (HM0.out _).mono ?_; rintro e w0 ⟨rfl, hE0⟩
    go_wp2_with fail
    refine bodyPost_ret (results4 rfl _ _ _) rfl ?_
    exact ⟨_, _, rfl, Sets.nil _ _, Sets.nil _ _, ((Ext.refl _).alloc _).trans hE0⟩
end Go.Proofs.YtbdjoihckienbaaGreatDoor
