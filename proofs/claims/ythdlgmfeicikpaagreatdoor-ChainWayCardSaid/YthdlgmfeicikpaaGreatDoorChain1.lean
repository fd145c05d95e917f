/- The walks of chain.target and chain.Follow. -/
import Derived.Test.YthdlgmfeicikpaaGreatDoorFind1
namespace Go.Proofs.YthdlgmfeicikpaaGreatDoor
set_option linter.unusedSimpArgs false
set_option linter.unusedVariables false
open Go.RowKit
set_option maxRecDepth 100000

/-! ### Plain -/
/-- The name to which a CNAME set leads. -/
def targetS (s : SetD) : Option (List UInt8) :=
  match s.data with
  | [d] => match rnames 5 d with
    | [n] => some (fold n)
    | _ => none
  | _ => none
/-- The chain, where it ends, its end, the error's number. -/
structure FolR where
  path : List SetD
  here : List UInt8
  fin : List SetD
  err : Nat
def FolR.bad (e : Nat) : FolR := ⟨[], [], [], e⟩
def followF (l : List SetD) (ty cls : Int) : Nat → List UInt8 → List (List UInt8) → List SetD → FolR
  | 0, _, _, _ => FolR.bad 0
  | n + 1, here, seen, path =>
    if ty = 5 then ⟨path, here, (findS l here ty cls).toList, 0⟩
    else match findS l here 5 cls with
      | none => ⟨path, here, (findS l here ty cls).toList, 0⟩
      | some a =>
        if path.length = 8 then FolR.bad 5
        else match targetS a with
          | none => FolR.bad 3
          | some next =>
            if (findS l here ty cls).isSome then FolR.bad 3
            else if seen.contains next then FolR.bad 8
            else followF l ty cls n next (seen ++ [next]) (path ++ [a])
def followOf (n : List UInt8) (ty cls : Int) (l : List SetD) : FolR :=
  if may n then followF l ty cls 9 (fold n) [fold n] [] else FolR.bad 1

theorem fold_le (n : List UInt8) : (fold n).length ≤ 255 := by
  unfold fold
  split
  · rename_i h; rw [length_low]; exact may_le h
  · simp
theorem targetS_le (s : SetD) (n : List UInt8) (h : targetS s = some n) : n.length ≤ 255 := by
  unfold targetS at h
  split at h
  · split at h
    · injection h with h; rw [← h]; exact fold_le _
    · cases h
  · cases h
theorem rnames_bd (kind : Int) (d : List UInt8) : (rnames kind d).length ≤ 3 ∧ ∀ n ∈ rnames kind d, n.length ≤ d.length + 255 := by
  have h := partsOf_bd kind d
  unfold rnames
  refine ⟨?_, fun n hn => ?_⟩
  · rw [List.length_map]; exact Nat.le_trans (List.length_filter_le _ _) h.1
  · obtain ⟨p, hp, rfl⟩ := List.mem_map.1 hn
    exact h.2 p (List.mem_filter.1 hp).1

def TargetPost (r : Option (List UInt8)) (w : World) (e : Ending) (w' : World) : Prop := e = .returned (.tuple #[S (r.getD []), .bool r.isSome]) ∧ Ext w w'
theorem ne_one {n : Nat} (h : n ≠ 1) : ((n : Int) == 1) = false ∧ ((n : Int) != 1) = true := by
  have : ((n : Int) == 1) = false := by rw [beq_eq_false_iff_ne]; omega
  exact ⟨this, by rw [bne, this]; rfl⟩

set_option maxHeartbeats 1000000 in
theorem chain_target (lo : Nat) (s : SetD) (d : Value) (w : World) (hg : Laid w) (hs : Strs w lo d s.data) (hb : ∀ x ∈ s.data, x.length ≤ 1048576) :
    Calls Tryz.prog 64 #[setVal s d] w (TargetPost (targetS s) w) := by
  obtain ⟨nm, ty, cl, tt, da⟩ := s
  dsimp only at *
  obtain ⟨A, c, rfl, h1, h2, hrd⟩ := hs
  unfold maxLen at h2
  by_cases hl : da.length = 1
  · obtain ⟨x, rfl⟩ := List.length_eq_one_iff.1 hl
    obtain ⟨b, off, rfl, _, hbz, hc⟩ := hrd.2 (by simp)
    have c0 := hc 0 (S x) rfl
    have hT : targetS ⟨nm, ty, cl, tt, [x]⟩ = match rnames 5 x with | [n] => some (fold n) | _ => none := rfl
    rw [hT]
    have hx := hb x (by simp)
    have hnb := rnames_bd 5 x
    have HN := Lib.hid (fun W (h : Laid W) => rdata_names 5 x W h hx)
    generalize rnames 5 x = ns at *
    simp only [Nat.add_zero] at c0
    clear hc hrd hl hb hT
    simp only [List.length_singleton]
    go_enter Tryz.func64, Tryz.ntmps64
    go_wp2_with fail
    refine (HN.out _ (hg.ext ((Ext.refl _).alloc _))).mono ?_; rintro e w2 ⟨v, rfl, ho, hE2⟩
    obtain ⟨A5, c5, rfl, ho5⟩ := ho
    by_cases hn1 : ns.length = 1
    · obtain ⟨n, rfl⟩ := List.length_eq_one_iff.1 hn1
      obtain ⟨b5, off5, rfl, _, _, hc5⟩ := ho5.rd.2 (by simp)
      have c5' := hc5 0 (S n) rfl
      simp only [Nat.add_zero] at c5'
      have hnl := hnb.2 n (by simp)
      clear hc5 ho5 hn1 hnb
      simp only [List.length_singleton]
      go_wp2_with fail
      refine (name_fold n w2 (by unfold maxLen; omega)).mono ?_; rintro e w3 ⟨rfl, hE3⟩
      go_wp2_with fail
      go_ret2
      exact ⟨rfl, (((Ext.refl _).alloc _).trans hE2).trans hE3⟩
    · obtain ⟨f1, f2⟩ := ne_one hn1
      have HM : Hid ((match ns with | [n] => some (fold n) | _ => none) = none) := by
        match ns, hn1 with
        | [], _ => rfl
        | [_], h => exact absurd rfl h
        | _ :: _ :: _, _ => rfl
      have hn3 : (ns.length : Int) ≤ 3 := by have := hnb.1; omega
      clear hn1 hnb
      generalize (match ns with | [n] => some (fold n) | _ => none) = T at *
      go_wp2_with fail
      go_ret2
      exact ⟨by first | rfl | (rw [HM.out]; rfl), ((Ext.refl _).alloc _).trans hE2⟩
  · obtain ⟨f1, f2⟩ := ne_one hl
    have HM : Hid (targetS ⟨nm, ty, cl, tt, da⟩ = none) := by
      match da, hl with
      | [], _ => rfl
      | [_], h => exact absurd rfl h
      | _ :: _ :: _, _ => rfl
    generalize targetS ⟨nm, ty, cl, tt, da⟩ = T at *
    clear hl
    go_enter Tryz.func64, Tryz.ntmps64
    go_wp2_with fail
    go_ret2
    exact ⟨by rw [HM.out]; rfl, (Ext.refl _).alloc _⟩

/-! ### Follow -/
theorem own_ne {w : World} {lo lo' : Nat} {e e' : TypeId} {sz sz' n m c d : Nat} {A B : Option Addr} {xs ys : List Value} (h : Own w lo e sz A n c xs) (k : Own w lo' e' sz' B m d ys) (hne : e ≠ e') :
    (Value.slice A n c).ownBlock = none ∨ (Value.slice A n c).ownBlock ≠ (Value.slice B m d).ownBlock := by
  rcases h.2 with ⟨h1, _⟩ | ⟨g, cap, cur, h1, _, hh, _⟩
  · injection h1 with h1; subst h1; exact .inl rfl
  · rcases k.2 with ⟨k1, _⟩ | ⟨g', cap', cur', k1, _, kk, _⟩
    · injection h1 with h1; injection k1 with k1; subst h1 k1; exact .inr (by simp [Value.ownBlock])
    · injection h1 with h1; injection k1 with k1; subst h1 k1
      refine .inr (fun e0 => hne ?_)
      have : g = g' := by simpa [Value.ownBlock] using e0
      subst this
      rw [hh] at kk
      injection kk with kk
      injection kk
theorem OStrs.kept {w w' : World} {lo : Nat} {v : Value} {l : List (List UInt8)} (h : OStrs w lo v l) {row : Option Nat} (hg : w.grownBy w' row) (hne : v.ownBlock = none ∨ v.ownBlock ≠ row) : OStrs w' lo v l := by
  obtain ⟨A, c, rfl, ho⟩ := h
  exact ⟨A, c, rfl, ho.kept hg hne⟩
theorem OStrs.blk {w : World} {lo : Nat} {v : Value} {l : List (List UInt8)} (h : OStrs w lo v l) : ∀ k, v.ownBlock = some k → lo ≤ k ∧ k < w.heap.size := by
  obtain ⟨A, c, rfl, ho⟩ := h
  exact ho.blk
theorem info_set : (Tryz.prog.info? 27).map (fun i => (i.zero, i.size, i.bytes)) = some (some (.agg #[.string ⟨#[]⟩, .int .u16 0, .int .u16 0, .int .u32 0, .slice none 0 0]), 5, 48) := by kernel_rfl
theorem set_one (p : SetD × Value) {w : World} {lo : Nat} (h : OStrs w lo p.2 p.1.data) : ∀ u ∈ setCells p, u.oneCell' = true := by
  intro u hu
  obtain ⟨A, c, e, _⟩ := h
  simp only [setCells, List.mem_cons, List.not_mem_nil, or_false] at hu
  rcases hu with rfl | rfl | rfl | rfl | rfl <;> first | rfl | (rw [e]; rfl)

theorem own_lit (w : World) (g lo : Nat) (hg : g = w.heap.size) (hlo : lo ≤ w.heap.size) (e : TypeId) (cs : List Value) (n sz : Nat) (hl : cs.length = n * sz) (hn : n ≤ maxLen) : Own (w.alloc (.cells cs.toArray e)) lo e sz (some ⟨g, 0, none⟩) n n cs := by
  subst hg
  have := World.ownsRow_lit (size := sz) (e := e) w cs.toArray n hlo hn (by simpa using hl)
  simpa [Own] using this
theorem findS_mem {l : List SetD} {n : List UInt8} {k c : Int} {s : SetD} (h : findS l n k c = some s) : s ∈ l := List.mem_of_find?_eq_some h

theorem ostrs_ne {w : World} {lo lo' : Nat} {v : Value} {l : List (List UInt8)} {sz m d : Nat} {B : Option Addr} {ys : List Value} (h : OStrs w lo v l) (k : Own w lo' 27 sz B m d ys) :
    v.ownBlock = none ∨ v.ownBlock ≠ (Value.slice B m d).ownBlock := by
  obtain ⟨A, c, rfl, ho⟩ := h
  exact own_ne ho k (by decide)
theorem apart_step {v : Value} {old new : Option Nat} {size : Nat} (h : v.ownBlock = none ∨ v.ownBlock ≠ old) (hlt : ∀ k, v.ownBlock = some k → k < size) (hat : new = old ∨ new = some size) : v.ownBlock = none ∨ v.ownBlock ≠ new := by
  rcases h with h | h
  · exact .inl h
  · rcases hat with e | e
    · rw [e]; exact .inr h
    · refine .inr (fun e' => ?_)
      have := hlt size (e'.trans e)
      omega

/-- What holds at a round's head of chain.Follow: here, seen, the path. -/
structure FoInv (w1 : World) (l : List SetD) (ty cls : Int) (R : FolR) (here : List UInt8) (seen : List (List UInt8)) (ps : List (SetD × Value)) (sA : Option Addr) (sc : Nat) (pA : Option Addr) (pc : Nat) (wr : World) : Prop where
  h8 : ps.length ≤ 8
  hs : seen.length = ps.length + 1
  hh : here.length ≤ 255
  oseen : Own wr w1.heap.size 9 1 sA seen.length sc (seen.map S)
  opath : Own wr w1.heap.size 27 5 pA ps.length pc (ps.flatMap setCells)
  datas : ∀ p ∈ ps, OStrs wr w1.heap.size p.2 p.1.data
  apart : ∀ p ∈ ps, p.2.ownBlock = none ∨ p.2.ownBlock ≠ (Value.slice sA seen.length sc).ownBlock
  ext : Ext w1 wr
  eq : R = followF l ty cls (9 - ps.length) here seen (ps.map Prod.fst)

def FollowPost (R : FolR) (w : World) (e : Ending) (w' : World) : Prop :=
  ∃ v u wm, e = .returned (.tuple #[v, S R.here, u, .int .i64 R.err]) ∧ OSets wm w.heap.size v R.path ∧ Ext w wm ∧ OSets w' wm.heap.size u R.fin ∧ Ext wm w'
theorem OSets.nil (w : World) (lo : Nat) : OSets w lo (.slice none 0 0) [] := ⟨[], none, 0, rfl, rfl, Own.nil _ _ _ _, by simp⟩
theorem results4 {fn : Func} {t u v x : Tmp} (h : fn.results = #[.tmp t, .tmp u, .tmp v, .tmp x]) (tmps : Array Value) (P : Program) (w : World) :
    (results fn tmps).run P w = .ok (.tuple #[tmps.getD t undef, tmps.getD u undef, tmps.getD v undef, tmps.getD x undef]) w := by simp [results, h]

set_option maxHeartbeats 4000000 in
theorem chain_follow (lo : Nat) (n : List UInt8) (ty cls : Int) (v : Value) (l : List SetD) (w : World) (hg : Laid w) (hS : Sets w lo v l) (hbd : SetsBd l) (hn : n.length ≤ 1048576) :
    Calls Tryz.prog 38 #[.agg #[S n, .int .u16 ty, .int .u16 cls], v] w (FollowPost (followOf n ty cls l) w) := by
  have hn' : n.length ≤ maxLen := by unfold maxLen; omega
  by_cases hm : may n = true
  · have hR : followOf n ty cls l = followF l ty cls 9 (fold n) [fold n] [] := by unfold followOf; rw [if_pos hm]
    rw [hR]
    clear hR
    obtain ⟨R, hR⟩ : ∃ R, R = followF l ty cls 9 (fold n) [fold n] [] := ⟨_, rfl⟩
    rw [← hR]
    have HR := Lib.hid hR
    clear hR
    have hfl := fold_le n
    obtain ⟨i0, hi0, hz0, hz1, hz2⟩ := info_parts info_str
    obtain ⟨j0, hj0, hy0, hy1, hy2⟩ := info_parts info_set
    go_enter Tryz.func38, Tryz.ntmps38
    go_wp2_with fail
    go_step3
    go_wp2_with fail
    refine (name_may n _ hn').mono ?_; rintro e w' ⟨rfl, rfl⟩
    rw [hm]
    go_wp2_with fail
    refine (name_fold n _ hn').mono ?_; rintro e w1 ⟨rfl, hE1⟩
    generalize fold n = here0 at *
    go_wp2_with fail
    have hw1 : w.heap.size ≤ w1.heap.size := (((Ext.refl w).alloc _).trans hE1).size
    have hEw1 : Ext w w1 := ((Ext.refl w).alloc _).trans hE1
    go_step3
    go_wp2_with fail
    go_loopw [6, 8, 9, 10] (fun o6 h s p wr => ∃ (here : List UInt8) (seen : List (List UInt8)) (ps : List (SetD × Value)) (sA : Option Addr) (sc : Nat) (pA : Option Addr) (pc : Nat), o6 = .slice none 0 0 ∧ h = S here ∧ s = .slice sA seen.length sc ∧ p = .slice pA ps.length pc ∧ FoInv w1 l ty cls R here seen ps sA sc pA pc wr) (fun _ _ _ p _ => 8 - lenOf p)
    case atStart =>
      refine ⟨here0, [here0], [], _, 1, none, 0, rfl, rfl, rfl, rfl, ⟨by simp, rfl, hfl, own_lit w1 _ _ rfl (Nat.le_refl _) _ _ 1 1 rfl (by unfold maxLen; omega), Own.nil _ _ _ _, by simp, by simp, (Ext.refl _).alloc _, HR.out⟩⟩
    case round =>
      obtain ⟨here, seen, ps, sA, sc, pA, pc, rfl, rfl, rfl, rfl, hI⟩ := hrel
      obtain ⟨wo, rfl⟩ : ∃ wo : World, wo = wr := ⟨_, rfl⟩
      have h8 := hI.h8
      have hs := hI.hs
      obtain ⟨hq, hqf, hqz⟩ := ext_new (hE1.trans hI.ext)
      have hF := hI.eq
      rw [show 9 - ps.length = (8 - ps.length) + 1 by omega] at hF
      simp only [followF] at hF
      have HS := Lib.hid hs
      clear hs
      by_cases hty : ty = 5
      · rw [if_pos hty] at hF
        have HF := Lib.hid hF
        clear hF
        have f5 : (ty == 5) = true := by rw [beq_iff_eq]; exact hty
        have f6 : (ty != 5) = false := by rw [bne, f5]; rfl
        clear hty
        go_wp2_with fail
        refine (rrset_find lo v l here ty cls _ (hS.ext (hEw1.trans hI.ext)) hbd (by have := hI.hh; omega)).mono ?_; rintro e w5 ⟨d5, rfl, ho5, hE5⟩
        obtain ⟨dA5, dc5, rfl, hoo5⟩ := ho5
        rcases hf5 : findS l here ty cls with _ | s5
        · have Hf5 := Lib.hid hf5
          rw [hf5] at hoo5
          clear hf5
          dsimp only [Option.getD, Option.isSome] at hoo5 ⊢
          go_wp2_with fail
          refine bodyPost_ret (results4 rfl _ _ _) rfl ?_
          have hEo := ((Ext.refl wo).trans hE5).alloc (.cells #[S SetD.zero.name, .int .u16 SetD.zero.typ, .int .u16 SetD.zero.cls, .int .u32 SetD.zero.ttl, .slice dA5 SetD.zero.data.length dc5] 27)
          refine ⟨_, _, wo, by rw [HF.out, Hf5.out]; rfl, ?_, hEw1.trans hI.ext, ?_, hEo⟩
          · rw [HF.out]
            exact ⟨ps, pA, pc, rfl, rfl, hI.opath.lower hw1, fun p hp => (hI.datas p hp).lower hw1⟩
          · rw [HF.out, Hf5.out]; exact OSets.nil _ _
        · have Hf5 := Lib.hid hf5
          rw [hf5] at hoo5
          clear hf5
          dsimp only [Option.getD, Option.isSome] at hoo5 ⊢
          go_wp2_with fail
          refine bodyPost_ret (results4 rfl _ _ _) rfl ?_
          have hEo := (((Ext.refl wo).trans hE5).alloc (.cells #[S s5.name, .int .u16 s5.typ, .int .u16 s5.cls, .int .u32 s5.ttl, .slice dA5 s5.data.length dc5] 27)).alloc (.cells #[S s5.name, .int .u16 s5.typ, .int .u16 s5.cls, .int .u32 s5.ttl, .slice dA5 s5.data.length dc5] 27)
          refine ⟨_, _, wo, by rw [HF.out, Hf5.out]; rfl, ?_, hEw1.trans hI.ext, ?_, hEo⟩
          · rw [HF.out]
            exact ⟨ps, pA, pc, rfl, rfl, hI.opath.lower hw1, fun p hp => (hI.datas p hp).lower hw1⟩
          · rw [HF.out, Hf5.out]
            refine ⟨[(s5, .slice dA5 s5.data.length dc5)], _, 1, rfl, rfl, own_lit _ _ _ (by simp) (Nat.le_trans hE5.size (by simp)) _ _ 1 5 rfl (by unfold maxLen; omega), ?_⟩
            intro p hp
            rw [List.mem_singleton] at hp
            subst hp
            exact ⟨dA5, dc5, rfl, (hoo5.ext ((Ext.refl _).alloc _)).ext ((Ext.refl _).alloc _)⟩
      · rw [if_neg hty] at hF
        have f5 : (ty == 5) = false := by rw [beq_eq_false_iff_ne]; exact hty
        have f6 : (ty != 5) = true := by rw [bne, f5]; rfl
        clear hty
        go_wp2_with fail
        refine (rrset_find lo v l here 5 cls _ (hS.ext (hEw1.trans hI.ext)) hbd (by have := hI.hh; omega)).mono ?_; rintro e w2 ⟨d2, rfl, ho2, hE2⟩
        obtain ⟨dA2, dc2, rfl, hoo2⟩ := ho2
        rcases hfa : findS l here 5 cls with _ | a
        · rw [hfa] at hF hoo2
          have HF := Lib.hid hF
          clear hF hfa
          dsimp only [Option.getD, Option.isSome] at hoo2 ⊢
          have hE2b := hE2.alloc (.cells #[S SetD.zero.name, .int .u16 SetD.zero.typ, .int .u16 SetD.zero.cls, .int .u32 SetD.zero.ttl, .slice dA2 SetD.zero.data.length dc2] 27)
          have hEw2 := (hEw1.trans hI.ext).trans hE2b
          obtain ⟨hq2, hqf2, hqz2⟩ := ext_new ((hE1.trans hI.ext).trans hE2)
          clear hq hqf hqz
          go_wp2_with fail
          refine (rrset_find lo v l here ty cls _ (hS.ext hEw2) hbd (by have := hI.hh; omega)).mono ?_; rintro e w5 ⟨d5, rfl, ho5, hE5⟩
          obtain ⟨dA5, dc5, rfl, hoo5⟩ := ho5
          rcases hf5 : findS l here ty cls with _ | s5
          · have Hf5 := Lib.hid hf5
            rw [hf5] at hoo5
            clear hf5
            dsimp only [Option.getD, Option.isSome] at hoo5 ⊢
            go_wp2_with fail
            refine bodyPost_ret (results4 rfl _ _ _) rfl ?_
            have hEo := (hE2b.trans hE5).alloc (.cells #[S SetD.zero.name, .int .u16 SetD.zero.typ, .int .u16 SetD.zero.cls, .int .u32 SetD.zero.ttl, .slice dA5 SetD.zero.data.length dc5] 27)
            refine ⟨_, _, wo, by rw [HF.out, Hf5.out]; rfl, ?_, hEw1.trans hI.ext, ?_, hEo⟩
            · rw [HF.out]
              exact ⟨ps, pA, pc, rfl, rfl, hI.opath.lower hw1, fun p hp => (hI.datas p hp).lower hw1⟩
            · rw [HF.out, Hf5.out]; exact OSets.nil _ _
          · have Hf5 := Lib.hid hf5
            rw [hf5] at hoo5
            clear hf5
            dsimp only [Option.getD, Option.isSome] at hoo5 ⊢
            go_wp2_with fail
            refine bodyPost_ret (results4 rfl _ _ _) rfl ?_
            have hEo := ((hE2b.trans hE5).alloc (.cells #[S s5.name, .int .u16 s5.typ, .int .u16 s5.cls, .int .u32 s5.ttl, .slice dA5 s5.data.length dc5] 27)).alloc (.cells #[S s5.name, .int .u16 s5.typ, .int .u16 s5.cls, .int .u32 s5.ttl, .slice dA5 s5.data.length dc5] 27)
            refine ⟨_, _, wo, by rw [HF.out, Hf5.out]; rfl, ?_, hEw1.trans hI.ext, ?_, hEo⟩
            · rw [HF.out]
              exact ⟨ps, pA, pc, rfl, rfl, hI.opath.lower hw1, fun p hp => (hI.datas p hp).lower hw1⟩
            · rw [HF.out, Hf5.out]
              refine ⟨[(s5, .slice dA5 s5.data.length dc5)], _, 1, rfl, rfl, own_lit _ _ _ (by simp) (Nat.le_trans hE2b.size (Nat.le_trans hE5.size (by simp))) _ _ 1 5 rfl (by unfold maxLen; omega), ?_⟩
              intro p hp
              rw [List.mem_singleton] at hp
              subst hp
              exact ⟨dA5, dc5, rfl, ((hoo5.ext ((Ext.refl _).alloc _)).ext ((Ext.refl _).alloc _)).lower hE2b.size⟩
        · rw [hfa] at hF hoo2
          have Hfa := Lib.hid hfa
          clear hfa
          dsimp only [Option.getD, Option.isSome] at hF hoo2 ⊢
          simp only [List.length_map] at hF
          have hEwo := hEw1.trans hI.ext
          have hE2b := hE2.alloc (.cells #[S a.name, .int .u16 a.typ, .int .u16 a.cls, .int .u32 a.ttl, .slice dA2 a.data.length dc2] 27)
          have hEw2 := hEwo.trans hE2b
          have hbda := hbd a (findS_mem Hfa.out)
          by_cases h88 : ps.length = 8
          · rw [if_pos h88] at hF
            have HF := Lib.hid hF
            have f8 : ((ps.length : Int) == 8) = true := by rw [beq_iff_eq]; omega
            clear hF h88
            go_wp2_with fail
            refine bodyPost_ret (results4 rfl _ _ _) rfl ?_
            exact ⟨_, _, _, by rw [HF.out]; rfl, by rw [HF.out]; exact OSets.nil _ _, hEw2, by rw [HF.out]; exact OSets.nil _ _, Ext.refl _⟩
          · rw [if_neg h88] at hF
            have f8 : ((ps.length : Int) == 8) = false := by rw [beq_eq_false_iff_ne]; omega
            have h87 : ps.length ≤ 7 := by omega
            clear h88
            obtain ⟨hq2, hqf2, hqz2⟩ := ext_new ((hE1.trans hI.ext).trans hE2)
            clear hq hqf hqz
            go_wp2_with fail
            refine (chain_target wo.heap.size a (.slice dA2 a.data.length dc2) _ (hg.ext hEw2) ((OStrs.strs ⟨dA2, dc2, rfl, hoo2⟩).ext ((Ext.refl _).alloc _)) hbda.2.2).mono ?_; rintro e w3 ⟨rfl, hE3⟩
            have hEw3 := hEw2.trans hE3
            obtain ⟨hq3, hqf3, hqz3⟩ := ext_new ((((hE1.trans hI.ext).trans hE2).alloc (.cells #[S a.name, .int .u16 a.typ, .int .u16 a.cls, .int .u32 a.ttl, .slice dA2 a.data.length dc2] 27)).trans hE3)
            obtain ⟨hb3, hbf3, hbz3⟩ := ext_new hE3
            clear hq2 hqf2 hqz2
            rcases htg : targetS a with _ | next
            · rw [htg] at hF
              have HF := Lib.hid hF
              clear hF htg
              dsimp only [Option.getD, Option.isSome]
              go_wp2_with fail
              refine bodyPost_ret (results4 rfl _ _ _) rfl ?_
              exact ⟨_, _, _, by rw [HF.out]; rfl, by rw [HF.out]; exact OSets.nil _ _, hEw3, by rw [HF.out]; exact OSets.nil _ _, Ext.refl _⟩
            · rw [htg] at hF
              have hnx := targetS_le a next htg
              clear htg
              dsimp only [Option.getD, Option.isSome] at hF ⊢
              go_wp2_with fail
              refine (rrset_find lo v l here ty cls _ (hS.ext hEw3) hbd (by have := hI.hh; omega)).mono ?_; rintro e w4 ⟨d4, rfl, ho4, hE4⟩
              obtain ⟨dA4, dc4, rfl, hoo4⟩ := ho4
              have hEw4 := hEw3.trans hE4
              rcases hfb : findS l here ty cls with _ | s4
              · rw [hfb] at hF hoo4
                rw [if_neg (by simp)] at hF
                clear hfb
                dsimp only [Option.getD, Option.isSome] at hoo4 ⊢
                have hE4b := hE4.alloc (.cells #[S SetD.zero.name, .int .u16 SetD.zero.typ, .int .u16 SetD.zero.cls, .int .u32 SetD.zero.ttl, .slice dA4 SetD.zero.data.length dc4] 27)
                have hEoS : Ext wo _ := (hE2b.trans hE3).trans hE4b
                have hEw4b := hEw3.trans hE4b
                by_cases hct : seen.contains next = true
                · rw [if_pos hct] at hF
                  have HF := Lib.hid hF
                  have Hct := Lib.hid hct
                  clear hF hct
                  go_wp2_with fail
                  refine (sl_contains 0 _ seen next _ (((OStrs.strs ⟨sA, sc, rfl, hI.oseen⟩).ext hEoS).lower (Nat.zero_le _))).mono ?_; rintro e w' ⟨rfl, rfl⟩
                  rw [Hct.out]
                  go_wp2_with fail
                  refine bodyPost_ret (results4 rfl _ _ _) rfl ?_
                  exact ⟨_, _, _, by rw [HF.out]; rfl, by rw [HF.out]; exact OSets.nil _ _, hEw4b, by rw [HF.out]; exact OSets.nil _ _, Ext.refl _⟩
                · have hct' : seen.contains next = false := by simpa using hct
                  rw [if_neg hct] at hF
                  have HF := Lib.hid hF
                  have Hct := Lib.hid hct'
                  clear hF hct hct'
                  go_wp2_with fail
                  refine (sl_contains 0 _ seen next _ (((OStrs.strs ⟨sA, sc, rfl, hI.oseen⟩).ext hEoS).lower (Nat.zero_le _))).mono ?_; rintro e w' ⟨rfl, rfl⟩
                  rw [Hct.out]
                  obtain ⟨hb4, hbf4, hbz4⟩ := ext_new (hE3.trans hE4)
                  clear hb3 hbf3 hbz3 hq3 hqf3 hqz3
                  have hz4 : w2.heap.size < w4.heap.size := hbz4
                  have hop := (hI.opath.ext hEoS).ext ((Ext.refl _).alloc (.cells #[S a.name, .int .u16 a.typ, .int .u16 a.cls, .int .u32 a.ttl, .slice dA2 a.data.length dc2] 27))
                  have hos := (hI.oseen.ext hEoS).ext ((Ext.refl _).alloc (.cells #[S a.name, .int .u16 a.typ, .int .u16 a.cls, .int .u32 a.ttl, .slice dA2 a.data.length dc2] 27))
                  have hod : ∀ p ∈ ps, OStrs _ w1.heap.size p.2 p.1.data := fun p hp => ((hI.datas p hp).ext hEoS).ext ((Ext.refl _).alloc (.cells #[S a.name, .int .u16 a.typ, .int .u16 a.cls, .int .u32 a.ttl, .slice dA2 a.data.length dc2] 27))
                  have hnew : OStrs _ w1.heap.size (.slice dA2 a.data.length dc2) a.data := (((OStrs.lower ⟨dA2, dc2, rfl, hoo2⟩ hI.ext.size).ext (((Ext.refl _).alloc (.cells #[S a.name, .int .u16 a.typ, .int .u16 a.cls, .int .u32 a.ttl, .slice dA2 a.data.length dc2] 27)).trans (hE3.trans hE4b))).ext ((Ext.refl _).alloc (.cells #[S a.name, .int .u16 a.typ, .int .u16 a.cls, .int .u32 a.ttl, .slice dA2 a.data.length dc2] 27)))
                  have hnewlo := hoo2.blk
                  have hnsep : (Value.slice dA2 a.data.length dc2).ownBlock = none ∨ (Value.slice dA2 a.data.length dc2).ownBlock ≠ (Value.slice sA seen.length sc).ownBlock := by
                    rcases hbk : (Value.slice dA2 a.data.length dc2).ownBlock with _ | k
                    · exact .inl rfl
                    · exact .inr (fun e' => by have h1 := (hnewlo k hbk).1; have h2 := (hI.oseen.blk k e'.symm).2; omega)
                  go_wp2_with (first
                    | (at_builtin
                       refine wpList_app _ rfl (.tmp 65) (.tmp 67) _ rfl w1.heap.size 27 j0 _ 5 48 Tryz.underlying22 hj0 hy0 hy1 hy2 rfl (by omega) pA ps.length pc (ps.flatMap setCells) rfl hop 0 _ 1 1 (setCells (a, .slice dA2 a.data.length dc2)) rfl (rd_new _ _ (by simp) _ _ 1 5 rfl) (set_one _ hnew) (by omega) (by omega) (by have := (hI.ext.trans hEoS).size; simp at this ⊢; omega) ?_
                       intro A5 c5 w5 hown5 hg5 hb5 hat5
                       have hos5 := hos.kept hg5 (own_ne hos hop (by decide))
                       have hod5 : ∀ p ∈ ps, OStrs w5 w1.heap.size p.2 p.1.data := fun p hp => (hod p hp).kept hg5 (ostrs_ne (hod p hp) hop)
                       have hnew5 := hnew.kept hg5 (ostrs_ne hnew hop)
                       have hsz5 : w1.heap.size ≤ w5.heap.size := Nat.le_trans (hI.ext.trans hEoS).size (Nat.le_trans (by simp) hb5.size))
                    | (at_builtin
                       refine wpList_app _ rfl (.tmp 69) (.tmp 71) _ rfl w1.heap.size 9 i0 _ 1 16 Tryz.underlying25 hi0 hz0 hz1 hz2 rfl (by omega) sA seen.length sc (seen.map S) rfl (hos5.ext ((Ext.refl _).alloc _)) 0 _ 1 1 ([next].map S) rfl (rd_new _ _ rfl _ _ 1 1 rfl) (str_one _) (by have := HS.out; omega) (by omega) (by simp; omega) ?_
                       intro A6 c6 w6 hown6 hg6 hb6 hat6))
                  have hE5 : Ext w1 w5 := ((hI.ext.trans hEoS).alloc _).then hb5 (Nat.le_refl _)
                  have hE6 : Ext w1 w6 := (hE5.alloc _).then hb6 (Nat.le_refl _)
                  go_roundw
                  case rel =>
                    refine ⟨next, seen ++ [next], ps ++ [(a, .slice dA2 a.data.length dc2)], A6, c6, A5, c5, rfl, rfl, by simp, by simp, ⟨by simp; omega, by simp [HS.out], hnx, ?_, ?_, ?_, ?_, hE6, ?_⟩⟩
                    · rw [List.length_append, List.map_append]; exact hown6
                    · rw [List.length_append, List.flatMap_append]
                      have h1 : Own (w5.alloc (.cells #[S next] 9)) w1.heap.size 27 5 A5 (ps.length + 1) c5 (ps.flatMap setCells ++ setCells (a, .slice dA2 a.data.length dc2)) := hown5.ext ((Ext.refl w5).alloc (.cells #[S next] 9))
                      have h2 := h1.kept hg6 (own_ne h1 (hos5.ext ((Ext.refl w5).alloc (.cells #[S next] 9))) (by decide))
                      simpa using h2
                    · intro p hp
                      rcases List.mem_append.1 hp with h | h
                      · exact ((hod5 p h).ext ((Ext.refl w5).alloc (.cells #[S next] 9))).kept hg6 (hI.apart p h)
                      · rw [List.mem_singleton] at h
                        subst h
                        exact (hnew5.ext ((Ext.refl w5).alloc (.cells #[S next] 9))).kept hg6 hnsep
                    · intro p hp
                      rw [List.length_append]
                      rcases List.mem_append.1 hp with h | h
                      · exact apart_step (hI.apart p h) (fun k hk => (((hod5 p h).ext ((Ext.refl w5).alloc (.cells #[S next] 9))).blk k hk).2) hat6
                      · rw [List.mem_singleton] at h
                        subst h
                        exact apart_step hnsep (fun k hk => ((hnew5.ext ((Ext.refl w5).alloc (.cells #[S next] 9))).blk k hk).2) hat6
                    · rw [HF.out]; simp only [List.length_append, List.length_singleton, List.map_append, List.map_cons, List.map_nil]; congr 1; omega
                  case measure => simp only [lenOf]; omega
              · rw [hfb] at hF hoo4
                rw [if_pos rfl] at hF
                have HF := Lib.hid hF
                clear hF hfb
                dsimp only [Option.getD, Option.isSome] at hoo4 ⊢
                go_wp2_with fail
                refine bodyPost_ret (results4 rfl _ _ _) rfl ?_
                exact ⟨_, _, _, by rw [HF.out]; rfl, by rw [HF.out]; exact OSets.nil _ _, hEw4.alloc _, by rw [HF.out]; exact OSets.nil _ _, Ext.refl _⟩
  · have hR : followOf n ty cls l = FolR.bad 1 := by unfold followOf; rw [if_neg hm]
    rw [hR]
    have hm' : may n = false := by simpa using hm
    clear hm hR
    go_enter Tryz.func38, Tryz.ntmps38
    go_wp2_with fail
    go_step3
    go_wp2_with fail
    refine (name_may n _ hn').mono ?_; rintro e w' ⟨rfl, rfl⟩
    rw [hm']
    go_wp2_with fail
    refine bodyPost_ret (results4 rfl _ _ _) rfl ?_
    exact ⟨_, _, _, rfl, OSets.nil _ _, (Ext.refl _).alloc _, OSets.nil _ _, Ext.refl _⟩
end Go.Proofs.YthdlgmfeicikpaaGreatDoor
