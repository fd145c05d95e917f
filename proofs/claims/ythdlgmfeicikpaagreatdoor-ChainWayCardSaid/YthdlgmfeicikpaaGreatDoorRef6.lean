/- The walks of hustingsref05: joined, Whole, May, Fold. -/
import Derived.Test.YthdlgmfeicikpaaGreatDoorPlRef5
namespace Go.Proofs.YthdlgmfeicikpaaGreatDoor
set_option linter.unusedSimpArgs false
set_option linter.unusedVariables false
open Go.RowKit
set_option maxRecDepth 100000

theorem prs_cells {w : World} {b off : Nat} {l : List Pr} (hc : ∀ j u, (l.flatMap Pr.cells)[j]? = some u → w.cell? ⟨b, off + j, none⟩ = some u) (k : Nat) (p : Pr) (hp : l[k]? = some p) :
    w.cell? ⟨b, off + k * 2, none⟩ = some (S p.s) ∧ w.cell? ⟨b, off + k * 2 + 1, none⟩ = some (.bool p.nm) := by
  refine ⟨?_, ?_⟩
  · exact hc (k * 2 + 0) _ (flat_get Pr.cells 2 (fun _ => rfl) l k 0 p hp (by omega))
  · rw [Nat.add_assoc]; exact hc (k * 2 + 1) _ (flat_get Pr.cells 2 (fun _ => rfl) l k 1 p hp (by omega))
theorem joinR_snoc (l : List Pr) (k : Nat) (h : k < l.length) : joinR (l.take (k + 1)) = joinR (l.take k) ++ l[k].s := by
  rw [take_snoc l k h]
  unfold joinR
  rw [List.flatMap_append, List.flatMap_cons, List.flatMap_nil, List.append_nil]
theorem foldR_snoc (l : List Pr) (k : Nat) (h : k < l.length) : foldR (l.take (k + 1)) = foldR (l.take k) ++ (if l[k].nm then fold l[k].s else l[k].s) := by
  rw [take_snoc l k h]
  unfold foldR
  rw [List.flatMap_append, List.flatMap_cons, List.flatMap_nil, List.append_nil]
theorem join_le (l : List Pr) (n : Nat) (h : ∀ p ∈ l, p.s.length ≤ n) : (joinR l).length ≤ l.length * n := by
  induction l with
  | nil => simp [joinR]
  | cons p l ih =>
    have h1 := h p (by simp)
    have h2 := ih (fun q hq => h q (by simp [hq]))
    unfold joinR at *
    rw [List.flatMap_cons, List.length_append, List.length_cons, Nat.add_mul]; omega
theorem fold_len_le (n : List UInt8) : (fold n).length ≤ n.length + 255 := Nat.le_trans (fold_le n) (by omega)
theorem foldR_le (l : List Pr) (n : Nat) (h : ∀ p ∈ l, p.s.length ≤ n) : (foldR l).length ≤ l.length * (n + 255) := by
  induction l with
  | nil => simp [foldR]
  | cons p l ih =>
    have h1 := h p (by simp)
    have h2 := ih (fun q hq => h q (by simp [hq]))
    have h3 : (if p.nm then fold p.s else p.s).length ≤ n + 255 := by
      split
      · have := fold_len_le p.s; omega
      · omega
    unfold foldR at *
    rw [List.flatMap_cons, List.length_append, List.length_cons, Nat.add_mul]; omega
theorem refLoop_bd (msg : List UInt8) (behind : Nat) : ∀ (n pos : Nat) (acc : List Pr), (∀ p ∈ acc, p.s.length ≤ msg.length + 255) → (refLoop msg behind n pos acc).1.length ≤ acc.length + n + 1 ∧ ∀ p ∈ (refLoop msg behind n pos acc).1, p.s.length ≤ msg.length + 255
  | 0, pos, acc, h => by
    simp only [refLoop]
    split
    · simp
    · split
      · simp
      · refine ⟨by simp, fun p hp => ?_⟩
        rcases List.mem_append.1 hp with h1 | h1
        · exact h p h1
        · rw [List.mem_singleton] at h1; subst h1; simp; omega
  | n + 1, pos, acc, h => by
    simp only [refLoop]
    split
    · simp
    · have hb := readN_bd msg pos
      have := refLoop_bd msg behind n (readN msg pos).2.1 (acc ++ [⟨(readN msg pos).1, true⟩]) (fun p hp => by
        rcases List.mem_append.1 hp with h1 | h1
        · exact h p h1
        · rw [List.mem_singleton] at h1; subst h1; have := hb.2; dsimp only; omega)
      refine ⟨?_, this.2⟩
      have h3 := this.1
      simp at h3; omega
theorem refPieces_bd (msg : List UInt8) (pos : Nat) (k : Int) : (refPieces msg pos k).1.length ≤ 4 ∧ ∀ p ∈ (refPieces msg pos k).1, p.s.length ≤ msg.length + 255 := by
  unfold refPieces
  have hb := layoutOf_bd k
  split
  · simp
  · split
    · split
      · refine ⟨by simp, fun p hp => ?_⟩
        rw [List.mem_singleton] at hp; subst hp; simp; omega
      · simp
    · split
      · refine ⟨by simp, fun p hp => ?_⟩
        rw [List.mem_singleton] at hp; subst hp; simp; omega
      · split
        · simp
        · have := refLoop_bd msg (layoutOf k).2.2.1 (layoutOf k).2.1 (pos + (layoutOf k).1) [⟨(msg.drop pos).take (layoutOf k).1, false⟩] (fun p hp => by
            rw [List.mem_singleton] at hp; subst hp; simp; omega)
          refine ⟨?_, this.2⟩
          have h3 := this.1
          simp at h3; omega

set_option maxHeartbeats 1000000 in
theorem ref_joined (lo : Nat) (v : Value) (l : List Pr) (w : World) (h : Prs w lo v l) (hl : l.length ≤ 4) (hb : ∀ p ∈ l, p.s.length ≤ 2097152) :
    Calls Tryz.prog 103 #[v] w fun e w' => e = .returned (S (joinR l)) ∧ w = w' := by
  obtain ⟨A, c, rfl, hown⟩ := h
  have hrd := hown.rd
  clear hown
  go_enter Tryz.func103, Tryz.ntmps103
  go_wp2
  go_loop [3, 4] (fun o i => ∃ k : Nat, k ≤ l.length ∧ i = .int .i64 k ∧ o = S (joinR (l.take k))) (fun _ i => l.length - (intOf i).toNat)
  case atStart => exact ⟨0, by omega, rfl, rfl⟩
  case round =>
    obtain ⟨k, hk, rfl, rfl⟩ := hrel
    have htb := join_le (l.take k) 2097152 (fun p hp => hb p (List.mem_of_mem_take hp))
    have htl : (l.take k).length ≤ 4 := Nat.le_trans (List.length_take_le _ _) (by omega)
    have htb2 : (joinR (l.take k)).length ≤ 8388608 := Nat.le_trans htb (Nat.mul_le_mul_right 2097152 htl)
    clear htb htl
    by_cases hlt : k < l.length
    · have hp : l[k]? = some l[k] := List.getElem?_eq_getElem hlt
      have hpl : l[k].s.length ≤ 2097152 := hb _ (List.getElem_mem hlt)
      have Hts := Lib.hid (joinR_snoc l k hlt)
      generalize l[k] = p at *
      generalize joinR (l.take k) = T at *
      obtain ⟨b, off, rfl, _, hbz, hc⟩ := hrd.2 (by omega)
      obtain ⟨h0, h1⟩ := prs_cells hc k p hp
      clear hc hp hrd hb
      go_wp2
      go_round
      case rel => exact ⟨k + 1, by omega, by go_num, by rw [Hts.out]⟩
      case measure => simp [intOf]; omega
    · have e1 : l.take k = l := List.take_of_length_le (by omega)
      rw [e1] at htb2 ⊢
      clear e1
      go_wp2
      go_ret
      exact ⟨rfl, rfl⟩

def WholeRPost (kind : Int) (d : List UInt8) (w : World) (e : Ending) (w' : World) : Prop := ∃ v, e = .returned (.tuple #[v, .bool (wholeR kind d).isSome]) ∧ Prs w' w.heap.size v ((wholeR kind d).getD []) ∧ Ext w w'
theorem wholeR_bad {kind : Int} {d : List UInt8} (h : ¬ ((refPieces d 0 kind).2 = 0 ∧ joinR (refPieces d 0 kind).1 = d)) : wholeR kind d = none := by unfold wholeR; rw [if_neg h]
theorem wholeR_good {kind : Int} {d : List UInt8} (h : (refPieces d 0 kind).2 = 0 ∧ joinR (refPieces d 0 kind).1 = d) : wholeR kind d = some (refPieces d 0 kind).1 := by unfold wholeR; rw [if_pos h]

set_option maxHeartbeats 1000000 in
theorem ref_whole (kind : Int) (data : List UInt8) (w : World) (hl : data.length ≤ 1048576) :
    Calls Tryz.prog 74 #[.int .u16 kind, S data] w (WholeRPost kind data w) := by
  have Hs := Lib.hid (ref_pieces data 0 kind w hl (Nat.zero_le _))
  have hbd := refPieces_bd data 0 kind
  have Hbad := Lib.hid (@wholeR_bad kind data)
  have Hgood := Lib.hid (@wholeR_good kind data)
  generalize refPieces data 0 kind = R at *
  obtain ⟨l, er⟩ := R
  dsimp only at *
  by_cases her : er = 0
  · subst her
    by_cases ht : joinR l = data
    · have hw := Hgood.out ⟨rfl, ht⟩
      have Hw := Lib.hid hw
      clear hw Hbad Hgood
      have Ht := Lib.hid ht
      clear ht
      go_enter Tryz.func74, Tryz.ntmps74
      go_wp2_with fail
      refine Hs.out.mono ?_; rintro e w1 ⟨v, rfl, hP, hE1⟩
      go_wp2_with fail
      refine (ref_joined _ v l w1 hP hbd.1 (fun p hp => by have := hbd.2 p hp; omega)).mono ?_; rintro e w2 ⟨rfl, rfl⟩
      rw [Ht.out]
      go_wp2_with fail
      go_ret2
      obtain ⟨A, c, rfl, hown⟩ := hP
      refine ⟨_, by rw [Hw.out]; rfl, ?_, hE1⟩
      rw [Hw.out]
      exact ⟨A, c, rfl, hown⟩
    · have hw := Hbad.out (fun h => ht h.2)
      have Hw := Lib.hid hw
      have f1 := str_ne ht
      clear hw Hbad Hgood ht
      go_enter Tryz.func74, Tryz.ntmps74
      go_wp2_with fail
      refine Hs.out.mono ?_; rintro e w1 ⟨v, rfl, hP, hE1⟩
      go_wp2_with fail
      refine (ref_joined _ v l w1 hP hbd.1 (fun p hp => by have := hbd.2 p hp; omega)).mono ?_; rintro e w2 ⟨rfl, rfl⟩
      go_wp2_with fail
      go_ret2
      refine ⟨_, by rw [Hw.out]; rfl, ?_, hE1⟩
      rw [Hw.out]
      exact ⟨none, 0, rfl, Own.nil _ _ _ _⟩
  · have hw := Hbad.out (fun h => her h.1)
    have Hw := Lib.hid hw
    have f1 : ((er : Int) == 0) = false := len_ne her
    have f2 : ((er : Int) != 0) = true := by rw [bne, f1]; rfl
    clear hw Hbad Hgood her
    go_enter Tryz.func74, Tryz.ntmps74
    go_wp2_with fail
    refine Hs.out.mono ?_; rintro e w1 ⟨v, rfl, hP, hE1⟩
    go_wp2_with fail
    go_ret2
    refine ⟨_, by rw [Hw.out]; rfl, ?_, hE1⟩
    rw [Hw.out]
    exact ⟨none, 0, rfl, Own.nil _ _ _ _⟩

theorem ref_rmay (kind : Int) (data : List UInt8) (w : World) (hl : data.length ≤ 1048576) :
    Calls Tryz.prog 53 #[.int .u16 kind, S data] w fun e w' => e = .returned (.bool (rmay kind data)) ∧ Ext w w' := by
  have HL := Lib.hid (ref_whole kind data w hl)
  unfold WholeRPost at HL
  rw [wholeR_may] at HL
  generalize rmay kind data = m at *
  generalize (wholeR kind data).getD [] = l at *
  go_enter Tryz.func53, Tryz.ntmps53
  go_wp2_with fail
  refine HL.out.mono ?_; rintro e w1 ⟨v, rfl, ho, hE⟩
  go_wp2_with fail
  go_ret
  exact ⟨rfl, hE⟩

theorem wholeR_bd (kind : Int) (d : List UInt8) : ((wholeR kind d).getD []).length ≤ 4 ∧ ∀ p ∈ (wholeR kind d).getD [], p.s.length ≤ d.length + 255 := by
  have h := refPieces_bd d 0 kind
  unfold wholeR
  split
  · exact h
  · simp

set_option maxHeartbeats 1000000 in
theorem ref_rfold (kind : Int) (data : List UInt8) (w : World) (hl : data.length ≤ 1040000) :
    Calls Tryz.prog 55 #[.int .u16 kind, S data] w fun e w' => e = .returned (S (rfold kind data)) ∧ Ext w w' := by
  have HL := Lib.hid (ref_whole kind data w (by omega))
  have hbd := wholeR_bd kind data
  rw [← wholeR_fold]
  unfold WholeRPost at HL
  generalize (wholeR kind data).isSome = m at *
  generalize (wholeR kind data).getD [] = l at *
  have hl4 := hbd.1
  have hb : ∀ p ∈ l, p.s.length ≤ 1041000 := fun p hp => by have := hbd.2 p hp; omega
  go_enter Tryz.func55, Tryz.ntmps55
  go_wp2_with fail
  refine HL.out.mono ?_; rintro e w1 ⟨v, rfl, ho, hE1⟩
  obtain ⟨A, c, rfl, hown⟩ := ho
  have hrd := hown.rd
  clear hown HL hbd
  go_wp2_with fail
  go_loopw [7, 8] (fun o i wr => ∃ k : Nat, k ≤ l.length ∧ i = .int .i64 k ∧ o = S (foldR (l.take k)) ∧ Ext w1 wr) (fun _ i _ => l.length - (intOf i).toNat)
  case atStart => exact ⟨0, by omega, rfl, rfl, Ext.refl _⟩
  case round =>
    obtain ⟨k, hk, rfl, rfl, hE⟩ := hrel
    obtain ⟨wo, rfl⟩ : ∃ wo : World, wo = wr := ⟨_, rfl⟩
    have htb := foldR_le (l.take k) 1041000 (fun p hp => hb p (List.mem_of_mem_take hp))
    have htl : (l.take k).length ≤ 4 := Nat.le_trans (List.length_take_le _ _) (by omega)
    have htb2 : (foldR (l.take k)).length ≤ 8388608 := Nat.le_trans htb (Nat.le_trans (Nat.mul_le_mul_right (1041000 + 255) htl) (by omega))
    clear htb htl
    by_cases hlt : k < l.length
    · have hp : l[k]? = some l[k] := List.getElem?_eq_getElem hlt
      have hpl : l[k].s.length ≤ 1041000 := hb _ (List.getElem_mem hlt)
      have Hts := Lib.hid (foldR_snoc l k hlt)
      generalize l[k] = p at *
      generalize foldR (l.take k) = T at *
      obtain ⟨b, off, rfl, _, hbz, hc⟩ := hrd.2 (by omega)
      obtain ⟨h0, h1⟩ := prs_cells hc k p hp
      rw [← hE.cell (p := ⟨b, _, none⟩) hbz] at h0 h1
      clear hc hp hrd hb
      obtain ⟨ps, pn⟩ := p
      dsimp only at *
      rcases pn with _ | _
      · go_wp2_with fail
        go_roundw
        case rel => exact ⟨k + 1, by omega, by go_num, by rw [Hts.out]; rfl, hE⟩
        case measure => simp [intOf]; omega
      · have hfl := fold_le ps
        go_wp2_with fail
        refine (ref_fold ps _ (by omega)).mono ?_; rintro e w3 ⟨rfl, hE3⟩
        generalize fold ps = F at *
        go_wp2_with fail
        go_roundw
        case rel => exact ⟨k + 1, by omega, by go_num, by rw [Hts.out]; rfl, hE.trans hE3⟩
        case measure => simp [intOf]; omega
    · have e1 : l.take k = l := List.take_of_length_le (by omega)
      rw [e1] at htb2 ⊢
      clear e1
      go_wp2
      go_ret
      exact ⟨rfl, hE1.trans hE⟩
end Go.Proofs.YthdlgmfeicikpaaGreatDoor
