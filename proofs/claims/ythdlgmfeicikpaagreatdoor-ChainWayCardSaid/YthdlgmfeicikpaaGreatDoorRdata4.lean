/- The walks of package rdata: text, whole, Names. -/
import Derived.Test.YthdlgmfeicikpaaGreatDoorRdata3
namespace Go.Proofs.YthdlgmfeicikpaaGreatDoor
set_option linter.unusedSimpArgs false
set_option linter.unusedVariables false
open Go.RowKit
set_option maxRecDepth 100000

/-! ### Plain -/
theorem splitL_bd (msg : List UInt8) : ∀ (cs : List Chk) (pos : Nat), pos ≤ msg.length → (splitL cs msg pos).1.length ≤ cs.length ∧ ∀ p ∈ (splitL cs msg pos).1, p.text.length ≤ msg.length + 255
  | [], pos, _ => by simp only [splitL]; split <;> simp
  | c :: cs, pos, hp => by
    simp only [splitL]
    split
    · simp
    · rename_i h1
      have h1' : (runChk c msg pos).2 = 0 := by omega
      have hb := runChk_bd c msg pos hp h1'
      have ih := splitL_bd msg cs _ hb.1
      split
      · simp
      · refine ⟨by simp; exact ih.1, fun p hpm => ?_⟩
        rcases List.mem_cons.1 hpm with rfl | h
        · exact hb.2
        · exact ih.2 p h
theorem checksOf_len (k : Int) : (checksOf k).length ≤ 3 := by
  unfold checksOf
  repeat' split
  all_goals simp
theorem splitOf_bd (msg : List UInt8) (pos : Nat) (kind : Int) (hp : pos ≤ msg.length) : (splitOf msg pos kind).1.length ≤ 3 ∧ ∀ p ∈ (splitOf msg pos kind).1, p.text.length ≤ msg.length + 255 := by
  unfold splitOf
  split
  · simp
  · have h := splitL_bd msg (checksOf kind) pos hp
    exact ⟨Nat.le_trans h.1 (checksOf_len kind), h.2⟩
theorem textOf_take_le (l : List Pc) (n : Nat) (h : ∀ p ∈ l, p.text.length ≤ n) : (textOf l).length ≤ l.length * n := by
  induction l with
  | nil => simp [textOf]
  | cons p l ih =>
    have h1 := h p (by simp)
    have h2 := ih (fun q hq => h q (by simp [hq]))
    simp only [textOf, List.flatMap_cons, List.length_append, List.length_cons] at *
    rw [Nat.add_mul]; omega
theorem textOf_snoc (l : List Pc) (k : Nat) (h : k < l.length) : textOf (l.take (k + 1)) = textOf (l.take k) ++ l[k].text := by
  rw [take_snoc l k h]
  unfold textOf
  rw [List.flatMap_append, List.flatMap_cons, List.flatMap_nil, List.append_nil]
theorem flat_get {α β : Type} (f : α → List β) (sz : Nat) (hf : ∀ x, (f x).length = sz) : ∀ (l : List α) (k j : Nat) (x : α), l[k]? = some x → j < sz → (l.flatMap f)[k * sz + j]? = (f x)[j]?
  | [], k, j, x, h, _ => by simp at h
  | a :: l, 0, j, x, h, hj => by
    simp at h; subst h
    rw [List.flatMap_cons, Nat.zero_mul, Nat.zero_add, List.getElem?_append_left (by rw [hf]; exact hj)]
  | a :: l, k + 1, j, x, h, hj => by
    simp only [List.getElem?_cons_succ] at h
    rw [List.flatMap_cons, List.getElem?_append_right (by rw [hf, Nat.add_mul]; omega), hf]
    rw [← flat_get f sz hf l k j x h hj]
    congr 1; rw [Nat.add_mul]; omega

/-- The cells of part k. -/
theorem pcs_cells {w : World} {lo b off : Nat} {l : List Pc} {n : Nat} (hc : ∀ j u, (l.flatMap Pc.cells)[j]? = some u → w.cell? ⟨b, off + j, none⟩ = some u) (k : Nat) (p : Pc) (hp : l[k]? = some p) :
    w.cell? ⟨b, off + k * 3, none⟩ = some (S p.text) ∧ w.cell? ⟨b, off + k * 3 + 1, none⟩ = some (.bool p.nm) ∧ w.cell? ⟨b, off + k * 3 + 2, none⟩ = some (.int .i64 p.next) := by
  refine ⟨?_, ?_, ?_⟩
  · exact hc (k * 3 + 0) _ (flat_get Pc.cells 3 (fun _ => rfl) l k 0 p hp (by omega))
  · rw [Nat.add_assoc]; exact hc (k * 3 + 1) _ (flat_get Pc.cells 3 (fun _ => rfl) l k 1 p hp (by omega))
  · rw [Nat.add_assoc]; exact hc (k * 3 + 2) _ (flat_get Pc.cells 3 (fun _ => rfl) l k 2 p hp (by omega))

set_option maxHeartbeats 1000000 in
theorem rdata_text (lo : Nat) (v : Value) (l : List Pc) (w : World) (h : Pcs w lo v l) (hl : l.length ≤ 3) (hb : ∀ p ∈ l, p.text.length ≤ 2097152) :
    Calls Tryz.prog 71 #[v] w fun e w' => e = .returned (S (textOf l)) ∧ Ext w w' := by
  obtain ⟨A, c, rfl, hown⟩ := h
  have hrd := hown.rd
  clear hown
  by_cases h1 : l.length = 1
  · obtain ⟨p, rfl⟩ := List.length_eq_one_iff.1 h1
    obtain ⟨b, off, rfl, _, _, hc⟩ := hrd.2 (by simp)
    obtain ⟨h0, _⟩ := pcs_cells (lo := 0) (n := 0) hc 0 p rfl
    have e1 : textOf [p] = p.text := by simp [textOf]
    rw [e1]
    simp only [Nat.zero_mul, Nat.add_zero] at h0
    clear e1 hc hrd hb hl h1
    go_enter Tryz.func71, Tryz.ntmps71
    go_wp2
    go_ret
    exact ⟨rfl, Ext.refl _⟩
  · have f1 : ((l.length : Int) == 1) = false := by rw [beq_eq_false_iff_ne]; omega
    obtain ⟨i0, hi0, hz0, hz1, hz2⟩ := info_parts info_u8
    go_enter Tryz.func71, Tryz.ntmps71
    go_wp2
    go_loopw [3, 15] (fun o i wr => ∃ (k : Nat) (B : Option Addr) (d : Nat), k ≤ l.length ∧ i = .int .i64 k ∧ o = .slice B (textOf (l.take k)).length d ∧ Own wr w.heap.size 5 1 B (textOf (l.take k)).length d ((textOf (l.take k)).map U8) ∧ Ext w wr) (fun _ i _ => l.length - (intOf i).toNat)
    case atStart => exact ⟨0, none, 0, by omega, rfl, rfl, Own.nil _ _ _ _, Ext.refl _⟩
    case round =>
      obtain ⟨k, B, d, hk, rfl, rfl, hown, hE⟩ := hrel
      obtain ⟨wo, rfl⟩ : ∃ wo : World, wo = wr := ⟨_, rfl⟩
      by_cases hlt : k < l.length
      · have hp : l[k]? = some l[k] := List.getElem?_eq_getElem hlt
        have hpl : l[k].text.length ≤ 2097152 := hb _ (List.getElem_mem hlt)
        have hts : textOf (l.take (k + 1)) = textOf (l.take k) ++ l[k].text := textOf_snoc l k hlt
        have htb := textOf_take_le (l.take k) 2097152 (fun p hp => hb p (List.mem_of_mem_take hp))
        have htl : (l.take k).length ≤ 3 := Nat.le_trans (List.length_take_le _ _) (by omega)
        have htb2 : (textOf (l.take k)).length ≤ 6291456 := Nat.le_trans htb (Nat.mul_le_mul_right 2097152 htl)
        generalize l[k] = p at *
        have Hts := Lib.hid hts
        generalize textOf (l.take k) = T at *
        obtain ⟨b, off, rfl, _, hbz, hc⟩ := hrd.2 (by omega)
        obtain ⟨h0, h1', h2⟩ := pcs_cells (lo := 0) (n := 0) hc k p hp
        rw [← hE.cell (p := ⟨b, _, none⟩) hbz] at h0 h1' h2
        have hbz2 : b < wo.heap.size := Nat.lt_of_lt_of_le hbz hE.size
        clear hts htb htl hc hp hrd hb
        go_wp2_with (
             refine wpList_app_str _ rfl (.tmp 19) (.tmp 21) _ _ rfl w.heap.size 5 i0 Tryz.underlying74 Tryz.underlying9 hi0 hz0 hz1 hz2 B T.length d (T.map U8) rfl (hown.ext ((Ext.refl _).alloc _)) p.text rfl (by omega) (by have := hE.size; simp; omega) ?_
             intro A5 c5 w5 hown5 hg5 hb5)
        go_roundw
        case rel =>
          refine ⟨k + 1, A5, c5, by omega, by go_num, by rw [Hts.out, List.length_append], ?_, (hE.alloc _).then hb5 (Nat.le_refl _)⟩
          rw [Hts.out, List.length_append, List.map_append]
          exact hown5
        case measure => simp [intOf]; omega
      · have e1 : l.take k = l := List.take_of_length_le (by omega)
        rw [e1] at hown ⊢
        clear e1
        have hcv := conv_str d hown.rd
        go_wp2
        go_ret
        exact ⟨rfl, hE⟩

/-- What rdata.whole returns. -/
def WholePost (kind : Int) (data : List UInt8) (w : World) (e : Ending) (w' : World) : Prop := ∃ v, e = .returned (.tuple #[v, .bool (wholeOf kind data).isSome]) ∧ Pcs w' w.heap.size v (partsOf kind data) ∧ Ext w w'
theorem whole_bad {kind : Int} {data : List UInt8} (h : ¬ ((splitOf data 0 kind).2 = 0 ∧ textOf (splitOf data 0 kind).1 = data)) : wholeOf kind data = none := by unfold wholeOf; rw [if_neg h]
theorem whole_good {kind : Int} {data : List UInt8} (h : (splitOf data 0 kind).2 = 0 ∧ textOf (splitOf data 0 kind).1 = data) : wholeOf kind data = some (splitOf data 0 kind).1 := by unfold wholeOf; rw [if_pos h]

theorem str_ne {a b : List UInt8} (h : a ≠ b) : (a == b) = false := by rw [beq_eq_false_iff_ne]; exact h

set_option maxHeartbeats 1000000 in
theorem rdata_whole (kind : Int) (data : List UInt8) (w : World) (hg : Laid w) (hl : data.length ≤ 1048576) :
    Calls Tryz.prog 49 #[.int .u16 kind, S data] w (WholePost kind data w) := by
  have Hs := Lib.hid (rdata_split data 0 kind w hg hl (Nat.zero_le _))
  have hbd := splitOf_bd data 0 kind (Nat.zero_le _)
  have Hbad := Lib.hid (@whole_bad kind data)
  have Hgood := Lib.hid (@whole_good kind data)
  generalize splitOf data 0 kind = R at *
  obtain ⟨l, er⟩ := R
  dsimp only at *
  by_cases her : er = 0
  · subst her
    by_cases ht : textOf l = data
    · have hw := Hgood.out ⟨rfl, ht⟩
      have Hw := Lib.hid hw
      clear hw Hbad Hgood
      have Ht := Lib.hid ht
      clear ht
      go_enter Tryz.func49, Tryz.ntmps49
      go_wp2_with fail
      refine Hs.out.mono ?_; rintro e w1 ⟨v, rfl, hP, hE1⟩
      go_wp2_with fail
      refine (rdata_text _ v l w1 hP hbd.1 (fun p hp => by have := hbd.2 p hp; omega)).mono ?_; rintro e w2 ⟨rfl, hE2⟩
      rw [Ht.out]
      go_wp2_with fail
      go_ret2
      obtain ⟨A, c, rfl, hown⟩ := hP
      refine ⟨_, by rw [Hw.out]; rfl, ?_, hE1.trans hE2⟩
      unfold partsOf
      rw [Hw.out]
      exact ⟨A, c, rfl, hown.ext hE2⟩
    · have hw := Hbad.out (fun h => ht h.2)
      have Hw := Lib.hid hw
      have f1 := str_ne ht
      clear hw Hbad Hgood ht
      go_enter Tryz.func49, Tryz.ntmps49
      go_wp2_with fail
      refine Hs.out.mono ?_; rintro e w1 ⟨v, rfl, hP, hE1⟩
      go_wp2_with fail
      refine (rdata_text _ v l w1 hP hbd.1 (fun p hp => by have := hbd.2 p hp; omega)).mono ?_; rintro e w2 ⟨rfl, hE2⟩
      go_wp2_with fail
      go_ret2
      refine ⟨_, by rw [Hw.out]; rfl, ?_, hE1.trans hE2⟩
      unfold partsOf
      rw [Hw.out]
      exact ⟨none, 0, rfl, Own.nil _ _ _ _⟩
  · have hw := Hbad.out (fun h => her h.1)
    have Hw := Lib.hid hw
    have f1 : ((er : Int) == 0) = false := len_ne her
    have f2 : ((er : Int) != 0) = true := by rw [bne, f1]; rfl
    clear hw Hbad Hgood her
    go_enter Tryz.func49, Tryz.ntmps49
    go_wp2_with fail
    refine Hs.out.mono ?_; rintro e w1 ⟨v, rfl, hP, hE1⟩
    go_wp2_with fail
    go_ret2
    refine ⟨_, by rw [Hw.out]; rfl, ?_, hE1⟩
    unfold partsOf
    rw [Hw.out]
    exact ⟨none, 0, rfl, Own.nil _ _ _ _⟩

theorem info_str : (Tryz.prog.info? 9).map (fun i => (i.zero, i.size, i.bytes)) = some (some (.string ⟨#[]⟩), 1, 16) := by kernel_rfl
theorem str_one (l : List (List UInt8)) : ∀ u ∈ l.map S, u.oneCell' = true := by
  intro u hu
  obtain ⟨b, _, rfl⟩ := List.mem_map.1 hu
  rfl

/-- A []string of the call's own. -/
def OStrs (w : World) (lo : Nat) (v : Value) (l : List (List UInt8)) : Prop := ∃ A c, v = .slice A l.length c ∧ Own w lo 9 1 A l.length c (l.map S)
theorem OStrs.strs {w : World} {lo : Nat} {v : Value} {l : List (List UInt8)} (h : OStrs w lo v l) : Strs w lo v l := by
  obtain ⟨A, c, e, h⟩ := h
  exact ⟨A, c, e, h.cap.1, h.cap.2, h.rd⟩
theorem OStrs.ext {w w' : World} {lo : Nat} {v : Value} {l : List (List UInt8)} (h : OStrs w lo v l) (hE : Ext w w') : OStrs w' lo v l := by
  obtain ⟨A, c, e, h⟩ := h
  exact ⟨A, c, e, h.ext hE⟩
theorem OStrs.lower {w : World} {lo lo' : Nat} {v : Value} {l : List (List UInt8)} (h : OStrs w lo v l) (hl : lo' ≤ lo) : OStrs w lo' v l := by
  obtain ⟨A, c, e, h⟩ := h
  exact ⟨A, c, e, h.lower hl⟩

def NamesPost (l : List (List UInt8)) (w : World) (e : Ending) (w' : World) : Prop := ∃ v, e = .returned v ∧ OStrs w' w.heap.size v l ∧ Ext w w'
/-- The names of the first k parts. -/
def namesTo (l : List Pc) (k : Nat) : List (List UInt8) := ((l.take k).filter Pc.nm).map Pc.text
theorem namesTo_yes (l : List Pc) (k : Nat) (h : k < l.length) (p : Pc) (hp : l[k] = p) (hn : p.nm = true) : namesTo l (k + 1) = namesTo l k ++ [p.text] := by
  unfold namesTo; rw [take_snoc l k h, List.filter_append, hp]; simp [hn]
theorem namesTo_no (l : List Pc) (k : Nat) (h : k < l.length) (p : Pc) (hp : l[k] = p) (hn : p.nm = false) : namesTo l (k + 1) = namesTo l k := by
  unfold namesTo; rw [take_snoc l k h, List.filter_append, hp]; simp [hn]
theorem namesTo_len (l : List Pc) (k : Nat) : (namesTo l k).length ≤ l.length := by
  unfold namesTo
  rw [List.length_map]
  exact Nat.le_trans (List.length_filter_le _ _) (by simp; omega)

theorem partsOf_bd (kind : Int) (data : List UInt8) : (partsOf kind data).length ≤ 3 ∧ ∀ p ∈ partsOf kind data, p.text.length ≤ data.length + 255 := by
  have h := splitOf_bd data 0 kind (Nat.zero_le _)
  unfold partsOf wholeOf
  split
  · exact h
  · simp

set_option maxHeartbeats 1000000 in
theorem rdata_names (kind : Int) (data : List UInt8) (w : World) (hg : Laid w) (hl : data.length ≤ 1048576) :
    Calls Tryz.prog 78 #[.int .u16 kind, S data] w (NamesPost (rnames kind data) w) := by
  have Hs := Lib.hid (rdata_whole kind data w hg hl)
  have hbd := partsOf_bd kind data
  have hR : rnames kind data = namesTo (partsOf kind data) (partsOf kind data).length := by unfold rnames namesTo; rw [List.take_length]
  rw [hR]
  clear hR
  unfold WholePost at Hs
  generalize (wholeOf kind data).isSome = ok at *
  generalize partsOf kind data = l at *
  obtain ⟨i0, hi0, hz0, hz1, hz2⟩ := info_parts info_str
  go_enter Tryz.func78, Tryz.ntmps78
  go_wp2_with fail
  refine Hs.out.mono ?_; rintro e w1 ⟨v, rfl, ⟨A, c, rfl, hown⟩, hE1⟩
  have hrd := hown.rd
  have hl3 := hbd.1
  clear hown hbd Hs
  go_wp2_with fail
  go_loopw [7, 18] (fun o i wr => ∃ (k : Nat) (B : Option Addr) (d : Nat), k ≤ l.length ∧ i = .int .i64 k ∧ o = .slice B (namesTo l k).length d ∧ Own wr w1.heap.size 9 1 B (namesTo l k).length d ((namesTo l k).map S) ∧ Ext w1 wr) (fun _ i _ => l.length - (intOf i).toNat)
  case atStart => exact ⟨0, none, 0, by omega, rfl, rfl, Own.nil _ _ _ _, Ext.refl _⟩
  case round =>
    obtain ⟨k, B, d, hk, rfl, rfl, hown, hE⟩ := hrel
    obtain ⟨wo, rfl⟩ : ∃ wo : World, wo = wr := ⟨_, rfl⟩
    by_cases hlt : k < l.length
    · have hp : l[k]? = some l[k] := List.getElem?_eq_getElem hlt
      have hy := namesTo_yes l k hlt
      have hn := namesTo_no l k hlt
      have htl := namesTo_len l k
      generalize l[k] = p at *
      generalize namesTo l k = T at *
      obtain ⟨b, off, rfl, _, hbz, hc⟩ := hrd.2 (by omega)
      obtain ⟨h0, h1', h2⟩ := pcs_cells (lo := 0) (n := 0) hc k p hp
      rw [← hE.cell (p := ⟨b, _, none⟩) hbz] at h0 h1' h2
      have hbz2 : b < wo.heap.size := Nat.lt_of_lt_of_le hbz hE.size
      have Hy := Lib.hid (hy p rfl)
      have Hn := Lib.hid (hn p rfl)
      clear hc hp hrd hy hn
      obtain ⟨pt, pn, px⟩ := p
      dsimp only at *
      rcases pn with _ | _
      · go_wp2_with fail
        go_roundw
        case rel =>
          refine ⟨k + 1, B, d, by omega, by go_num, by rw [Hn.out rfl], ?_, hE.alloc _⟩
          rw [Hn.out rfl]; exact hown.ext ((Ext.refl _).alloc _)
        case measure => simp [intOf]; omega
      · go_wp2_with (
           at_builtin
           refine wpList_app _ rfl (.tmp 24) (.tmp 27) _ rfl w1.heap.size 9 i0 _ 1 16 Tryz.underlying25 hi0 hz0 hz1 hz2 rfl (by omega) B T.length d (T.map S) rfl ((hown.ext ((Ext.refl _).alloc _)).ext ((Ext.refl _).alloc _)) 0 _ 1 1 ([pt].map S) rfl (rd_new _ _ (by simp) _ _ 1 1 rfl) (str_one _) (by omega) (by omega) (by have := hE.size; simp; omega) ?_
           intro A5 c5 w5 hown5 hg5 hb5 _)
        go_roundw
        case rel =>
          refine ⟨k + 1, A5, c5, by omega, by go_num, by rw [Hy.out rfl, List.length_append]; rfl, ?_, ((hE.alloc _).alloc _).then hb5 (Nat.le_refl _)⟩
          rw [Hy.out rfl, List.length_append, List.map_append]; exact hown5
        case measure => simp [intOf]; omega
    · have e1 : k = l.length := by omega
      subst e1
      go_wp2_with fail
      go_ret
      exact ⟨_, rfl, ⟨B, d, rfl, hown.lower hE1.size⟩, hE1.trans hE⟩
end Go.Proofs.YthdlgmfeicikpaaGreatDoor
