/- Contracts of functions and plain lemmas that the proofs of this seat share (joined texts). No condition. -/
import Derived.Test.YtdnpmapelmjfpaaGreatDoorRc
import Derived.Test.YtdnpmapelmjfpaaGreatDoorRa
namespace Go.Proofs.YtdnpmapelmjfpaaGreatDoor
set_option linter.unusedSimpArgs false
set_option linter.unusedVariables false
open Go.RowKit
set_option maxRecDepth 100000
structure SetD where
  name : List UInt8
  typ : Int
  cls : Int
  ttl : Int
  data : List (List UInt8)
  deriving DecidableEq
def SetD.zero : SetD := ⟨[], 0, 0, 0, []⟩
def setCells (p : SetD × Value) : List Value := [S p.1.name, .int .u16 p.1.typ, .int .u16 p.1.cls, .int .u32 p.1.ttl, p.2]
abbrev setVal (s : SetD) (d : Value) : Value := .agg #[S s.name, .int .u16 s.typ, .int .u16 s.cls, .int .u32 s.ttl, d]
def Sets (w : World) (lo : Nat) (v : Value) (l : List SetD) : Prop :=
  ∃ (ps : List (SetD × Value)) (A : Option Addr) (c : Nat), ps.map Prod.fst = l ∧ v = .slice A ps.length c ∧ ps.length ≤ c ∧ c ≤ maxLen ∧ Rd w lo 5 A ps.length (ps.flatMap setCells) ∧ ∀ p ∈ ps, Strs w lo p.2 p.1.data
def OSets (w : World) (lo : Nat) (v : Value) (l : List SetD) : Prop :=
  ∃ (ps : List (SetD × Value)) (A : Option Addr) (c : Nat), ps.map Prod.fst = l ∧ v = .slice A ps.length c ∧ Own w lo 79 5 A ps.length c (ps.flatMap setCells) ∧ ∀ p ∈ ps, OStrs w lo p.2 p.1.data
theorem Sets.ext {w w' : World} {lo : Nat} {v : Value} {l : List SetD} (h : Sets w lo v l) (hE : Ext w w') : Sets w' lo v l := by
  obtain ⟨ps, A, c, h1, h2, h3, h4, h5, h6⟩ := h
  exact ⟨ps, A, c, h1, h2, h3, h4, h5.ext hE, fun p hp => (h6 p hp).ext hE⟩
theorem OSets.ext {w w' : World} {lo : Nat} {v : Value} {l : List SetD} (h : OSets w lo v l) (hE : Ext w w') : OSets w' lo v l := by
  obtain ⟨ps, A, c, h1, h2, h3, h4⟩ := h
  exact ⟨ps, A, c, h1, h2, h3.ext hE, fun p hp => (h4 p hp).ext hE⟩
theorem OSets.sets {w : World} {lo : Nat} {v : Value} {l : List SetD} (h : OSets w lo v l) : Sets w lo v l := by
  obtain ⟨ps, A, c, h1, h2, h3, h4⟩ := h
  exact ⟨ps, A, c, h1, h2, h3.cap.1, h3.cap.2, h3.rd, fun p hp => (h4 p hp).strs⟩
theorem OSets.lower {w : World} {lo lo' : Nat} {v : Value} {l : List SetD} (h : OSets w lo v l) (hl : lo' ≤ lo) : OSets w lo' v l := by
  obtain ⟨ps, A, c, h1, h2, h3, h4⟩ := h
  exact ⟨ps, A, c, h1, h2, h3.lower hl, fun p hp => (h4 p hp).lower hl⟩
theorem Strs.lower {w : World} {lo lo' : Nat} {v : Value} {l : List (List UInt8)} (h : Strs w lo v l) (hl : lo' ≤ lo) : Strs w lo' v l := by
  obtain ⟨A, c, e, h1, h2, h3⟩ := h
  exact ⟨A, c, e, h1, h2, h3.lower hl⟩
theorem Sets.lower {w : World} {lo lo' : Nat} {v : Value} {l : List SetD} (h : Sets w lo v l) (hl : lo' ≤ lo) : Sets w lo' v l := by
  obtain ⟨ps, A, c, h1, h2, h3, h4, h5, h6⟩ := h
  exact ⟨ps, A, c, h1, h2, h3, h4, h5.lower hl, fun p hp => (h6 p hp).lower hl⟩

def IdxPost (l : List (List UInt8)) (s : List UInt8) (w : World) (e : Ending) (w' : World) : Prop := (∃ n : Int, e = .returned (.int .i64 n) ∧ decide (0 ≤ n) = l.contains s) ∧ w = w'

set_option maxHeartbeats 1000000 in
theorem sl_index_hit (lo : Nat) (v : Value) (l : List (List UInt8)) (s : List UInt8) (w : World) (h : Strs w lo v l) :
    Calls Tryz.prog 212 #[v, S s] w (IdxPost l s w) := by
  obtain ⟨A, c, rfl, h1, h2, hrd⟩ := h
  unfold maxLen at h2
  go_enter Tryz.func212, Tryz.ntmps212
  go_wp2
  go_loop [5, 8] (fun _ i => ∃ k : Nat, k ≤ l.length ∧ i = .int .i64 k ∧ (l.take k).contains s = false) (fun _ i => l.length - (intOf i).toNat)
  case atStart => exact ⟨0, by omega, rfl, rfl⟩
  case round =>
    obtain ⟨k, hk, rfl, hno⟩ := hrel
    have Hno := Lib.hid hno
    clear hno
    by_cases hlt : k < l.length
    · obtain ⟨b, off, rfl, _, _, hc⟩ := hrd.2 (by omega)
      have hck := hc k (S l[k]) (by simp [List.getElem?_eq_getElem hlt])
      obtain ⟨x, hx⟩ : ∃ x, x = l[k] := ⟨_, rfl⟩
      rw [← hx] at hck
      have Hx := Lib.hid hx
      clear hc hrd hx
      by_cases hs : s = x
      · have f1 : (s == x) = true := by rw [hs]; simp
        have Hs := Lib.hid hs
        clear hs
        go_wp2
        go_ret
        refine ⟨⟨k, rfl, ?_⟩, rfl⟩
        have : l.contains s = true := by rw [List.contains_iff_mem, Hs.out, Hx.out]; exact List.getElem_mem hlt
        rw [this]; simp
      · have f1 : (s == x) = false := by rw [beq_eq_false_iff_ne]; exact hs
        have Hs := Lib.hid hs
        clear hs
        go_wp2
        go_round
        case rel =>
          refine ⟨k + 1, by omega, by go_num, ?_⟩
          rw [take_snoc l k hlt]
          have h3 := Hno.out
          rw [← Hx.out]
          simp [List.contains_eq_any_beq] at h3 ⊢
          refine ⟨h3, ?_⟩
          exact Hs.out
        case measure => simp [intOf]; omega
    · have e1 : l.take k = l := List.take_of_length_le (by omega)
      rw [e1] at Hno
      clear e1
      go_wp2
      go_ret
      exact ⟨⟨-1, rfl, by rw [Hno.out]; rfl⟩, rfl⟩

theorem sl_contains (lo : Nat) (v : Value) (l : List (List UInt8)) (s : List UInt8) (w : World) (h : Strs w lo v l) :
    Calls Tryz.prog 149 #[v, S s] w fun e w' => e = .returned (.bool (l.contains s)) ∧ w = w' := by
  have Hh := Lib.hid (sl_index_hit lo v l s w h)
  clear h
  go_enter Tryz.func149, Tryz.ntmps149
  go_wp2_with (go_at_call 212; refine Hh.out.mono ?_; rintro e w' ⟨⟨n, rfl, hn⟩, rfl⟩; have Hn := Lib.hid hn; clear hn)
  go_ret
  exact ⟨ret_bool Hn.out, rfl⟩

theorem own_zero (w : World) (e : TypeId) (sz : Nat) : Own (w.alloc (.cells #[] e)) w.heap.size e sz (some ⟨w.heap.size, 0, none⟩) 0 0 [] := World.ownsRow_made w #[] 0 (Nat.le_refl _) (by unfold maxLen; omega) (by simp)
def ClonePost (l : List (List UInt8)) (w : World) (e : Ending) (w' : World) : Prop := ∃ v, e = .returned v ∧ OStrs w' w.heap.size v l ∧ Ext w w'

set_option maxHeartbeats 1000000 in
theorem sl_clone (lo : Nat) (v : Value) (l : List (List UInt8)) (w : World) (h : Strs w lo v l) (hb : l.length ≤ 65536) :
    Calls Tryz.prog 153 #[v] w (ClonePost l w) := by
  obtain ⟨A, c, rfl, h1, h2, hrd⟩ := h
  have hn := fun W a n c => Lib.run_eql_slice_nil (P := Tryz.prog) W 77 9 a n c 0 0 Tryz.underlying77
  obtain ⟨i0, hi0, hz0, hz1, hz2⟩ := info_parts info_str
  rcases A with _ | a
  · have h0 : l.length = 0 := by
      rcases Nat.eq_zero_or_pos l.length with h | h
      · exact h
      · obtain ⟨_, _, e, _⟩ := hrd.2 h; cases e
    have : l = [] := List.eq_nil_of_length_eq_zero h0
    subst this
    go_enter Tryz.func153, Tryz.ntmps153
    go_wp2_with fail
    go_ret
    exact ⟨_, rfl, ⟨none, 0, rfl, Own.nil _ _ _ _⟩, Ext.refl _⟩
  · go_enter Tryz.func153, Tryz.ntmps153
    go_wp2_with (
      at_builtin
      refine wpList_app _ rfl (.tmp 5) (.tmp 6) _ rfl w.heap.size 9 i0 _ 1 16 Tryz.underlying77 hi0 hz0 hz1 hz2 rfl (by omega) _ 0 0 [] rfl (own_zero w _ _) lo (some a) l.length c (l.map S) rfl (hrd.ext ((Ext.refl _).alloc _)) (str_one _) (by omega) (by omega) (by simp) ?_
      intro A5 c5 w5 hown5 hg5 hb5 _)
    go_ret
    rw [Nat.zero_add] at hown5
    exact ⟨_, rfl, ⟨A5, c5, rfl, hown5⟩, ((Ext.refl _).alloc _).then hb5 (Nat.le_refl _)⟩
theorem rdata_may (kind : Int) (data : List UInt8) (w : World) (hg : Laid w) (hl : data.length ≤ 1048576) :
    Calls Tryz.prog 40 #[.int .u16 kind, S data] w fun e w' => e = .returned (.bool (rmay kind data)) ∧ Ext w w' := by
  have Hs := Lib.hid (rdata_whole kind data w hg hl)
  unfold WholePost at Hs
  have hm : rmay kind data = (wholeOf kind data).isSome := rfl
  rw [hm]
  clear hm
  generalize (wholeOf kind data).isSome = ok at *
  generalize partsOf kind data = l at *
  go_enter Tryz.func40, Tryz.ntmps40
  go_wp2_with fail
  refine Hs.out.mono ?_; rintro e w1 ⟨v, rfl, ⟨A, c, rfl, hown⟩, hE1⟩
  go_wp2_with fail
  go_ret
  exact ⟨rfl, hE1⟩

def foldPc (p : Pc) : List UInt8 := if p.nm then fold p.text else p.text
def foldTo (l : List Pc) (k : Nat) : List UInt8 := (l.take k).flatMap foldPc
theorem foldTo_step (l : List Pc) (k : Nat) (h : k < l.length) : foldTo l (k + 1) = foldTo l k ++ foldPc l[k] := by
  unfold foldTo; rw [take_snoc l k h, List.flatMap_append]; simp
theorem foldPc_len (p : Pc) : (foldPc p).length ≤ p.text.length := by
  unfold foldPc
  split
  · unfold fold
    split
    · rw [length_low]; omega
    · simp
  · omega
theorem foldTo_len (l : List Pc) (B : Nat) (hB : ∀ p ∈ l, p.text.length ≤ B) : ∀ k, k ≤ l.length → (foldTo l k).length ≤ k * B
  | 0, _ => by simp [foldTo]
  | k + 1, h => by
    rw [foldTo_step l k (by omega), List.length_append, Nat.add_mul]
    have := foldTo_len l B hB k (by omega)
    have := foldPc_len l[k]
    have := hB l[k] (List.getElem_mem (by omega))
    omega

set_option maxHeartbeats 1000000 in
theorem rdata_fold (kind : Int) (data : List UInt8) (w : World) (hg : Laid w) (hl : data.length ≤ 1048576) :
    Calls Tryz.prog 80 #[.int .u16 kind, S data] w fun e w' => e = .returned (S (rfold kind data)) ∧ Ext w w' := by
  have Hs := Lib.hid (rdata_whole kind data w hg hl)
  have hbd := partsOf_bd kind data
  have hR : rfold kind data = foldTo (partsOf kind data) (partsOf kind data).length := by unfold rfold foldTo; rw [List.take_length]; rfl
  rw [hR]
  clear hR
  unfold WholePost at Hs
  generalize (wholeOf kind data).isSome = ok at *
  generalize partsOf kind data = l at *
  obtain ⟨i0, hi0, hz0, hz1, hz2⟩ := info_parts info_u8
  go_enter Tryz.func80, Tryz.ntmps80
  go_wp2_with fail
  refine Hs.out.mono ?_; rintro e w1 ⟨v, rfl, ⟨A, c, rfl, hown⟩, hE1⟩
  have hrd := hown.rd
  have hl3 := hbd.1
  have hft := foldTo_len l (data.length + 255) hbd.2
  have hb2 := hbd.2
  clear hown hbd Hs
  go_wp2_with fail
  go_loopw [7, 18] (fun o i wr => ∃ (k : Nat) (B : Option Addr) (d : Nat), k ≤ l.length ∧ i = .int .i64 k ∧ o = .slice B (foldTo l k).length d ∧ Own wr w1.heap.size 5 1 B (foldTo l k).length d ((foldTo l k).map U8) ∧ Ext w1 wr) (fun _ i _ => l.length - (intOf i).toNat)
  case atStart => exact ⟨0, none, 0, by omega, rfl, rfl, Own.nil _ _ _ _, Ext.refl _⟩
  case round =>
    obtain ⟨k, B, d, hk, rfl, rfl, hown, hE⟩ := hrel
    obtain ⟨wo, rfl⟩ : ∃ wo : World, wo = wr := ⟨_, rfl⟩
    by_cases hlt : k < l.length
    · have hp : l[k]? = some l[k] := List.getElem?_eq_getElem hlt
      have Hst := Lib.hid (foldTo_step l k hlt)
      have htl := hft k hk
      have htb := hb2 l[k] (List.getElem_mem hlt)
      generalize l[k] = p at *
      generalize foldTo l k = T at *
      obtain ⟨b, off, rfl, _, hbz, hc⟩ := hrd.2 (by omega)
      obtain ⟨h0, h1', h2⟩ := pcs_cells (lo := 0) (n := 0) hc k p hp
      rw [← hE.cell (p := ⟨b, _, none⟩) hbz] at h0 h1' h2
      have hbz2 : b < wo.heap.size := Nat.lt_of_lt_of_le hbz hE.size
      have hT : T.length ≤ 4194304 := by
        have : k * (data.length + 255) ≤ 3 * (1048576 + 255) := Nat.mul_le_mul (by omega) (by omega)
        omega
      clear hc hp hrd hft hb2 htl
      obtain ⟨pt, pn, px⟩ := p
      dsimp only at *
      rcases pn with _ | _
      · have HF : Hid (foldPc ⟨pt, false, px⟩ = pt) := rfl
        go_wp2_with (
           at_builtin
           refine wpList_app_str _ rfl (.tmp 29) (.tmp 31) _ _ rfl w1.heap.size 5 i0 Tryz.underlying110 Tryz.underlying9 hi0 hz0 hz1 hz2 B T.length d (T.map U8) rfl (hown.ext ((Ext.refl _).alloc _)) pt rfl (by omega) (by have := hE.size; simp; omega) ?_
           intro A5 c5 w5 hown5 hg5 hb5)
        go_roundw
        case rel =>
          refine ⟨k + 1, A5, c5, by omega, by go_num, by rw [Hst.out, HF.out, List.length_append], ?_, (hE.alloc _).then hb5 (Nat.le_refl _)⟩
          rw [Hst.out, HF.out, List.length_append, List.map_append]; exact hown5
        case measure => simp [intOf]; omega
      · have HF : Hid (foldPc ⟨pt, true, px⟩ = fold pt) := rfl
        have hfl : (fold pt).length ≤ 255 := by
          unfold fold
          split
          · rename_i h; rw [length_low]; exact may_le h
          · simp
        have HC := Lib.hid (fun W => name_fold pt W (by unfold maxLen; omega))
        generalize fold pt = fp at *
        go_wp2_with (first
          | (go_at_call 19; refine (HC.out _).mono ?_; rintro e w2 ⟨rfl, hE2⟩)
          | (at_builtin
             refine wpList_app_str _ rfl (.tmp 24) (.tmp 27) _ _ rfl w1.heap.size 5 i0 Tryz.underlying110 Tryz.underlying9 hi0 hz0 hz1 hz2 B T.length d (T.map U8) rfl ((hown.ext ((Ext.refl _).alloc _)).ext hE2) fp rfl (by omega) (by have := ((hE.alloc _).trans hE2).size; omega) ?_
             intro A5 c5 w5 hown5 hg5 hb5))
        go_roundw
        case rel =>
          refine ⟨k + 1, A5, c5, by omega, by go_num, by rw [Hst.out, HF.out, List.length_append], ?_, ((hE.alloc _).trans hE2).then hb5 (Nat.le_refl _)⟩
          rw [Hst.out, HF.out, List.length_append, List.map_append]; exact hown5
        case measure => simp [intOf]; omega
    · have e1 : k = l.length := by omega
      subst e1
      have hconv := conv_str (w := wo) d hown.rd

      go_wp2_with fail
      go_ret
      exact ⟨rfl, hE1.trans hE⟩
def hitS (n : List UInt8) (kind cls : Int) (s : SetD) : Bool := s.typ == kind && s.cls == cls && sameN s.name n
def findS (l : List SetD) (n : List UInt8) (kind cls : Int) : Option SetD := l.find? (hitS n kind cls)

def FindPost (r : Option SetD) (w : World) (e : Ending) (w' : World) : Prop :=
  ∃ d, e = .returned (.tuple #[setVal (r.getD SetD.zero) d, .bool r.isSome]) ∧ OStrs w' w.heap.size d (r.getD SetD.zero).data ∧ Ext w w'

theorem sets_cells {w : World} {b off : Nat} {ps : List (SetD × Value)} (hc : ∀ j u, (ps.flatMap setCells)[j]? = some u → w.cell? ⟨b, off + j, none⟩ = some u) (k : Nat) (p : SetD × Value) (hp : ps[k]? = some p) :
    w.cell? ⟨b, off + k * 5, none⟩ = some (S p.1.name) ∧ w.cell? ⟨b, off + k * 5 + 1, none⟩ = some (.int .u16 p.1.typ) ∧ w.cell? ⟨b, off + k * 5 + 2, none⟩ = some (.int .u16 p.1.cls) ∧ w.cell? ⟨b, off + k * 5 + 3, none⟩ = some (.int .u32 p.1.ttl) ∧ w.cell? ⟨b, off + k * 5 + 4, none⟩ = some p.2 := by
  refine ⟨?_, ?_, ?_, ?_, ?_⟩
  · exact hc (k * 5 + 0) _ (flat_get setCells 5 (fun _ => rfl) ps k 0 p hp (by omega))
  · rw [Nat.add_assoc]; exact hc (k * 5 + 1) _ (flat_get setCells 5 (fun _ => rfl) ps k 1 p hp (by omega))
  · rw [Nat.add_assoc]; exact hc (k * 5 + 2) _ (flat_get setCells 5 (fun _ => rfl) ps k 2 p hp (by omega))
  · rw [Nat.add_assoc]; exact hc (k * 5 + 3) _ (flat_get setCells 5 (fun _ => rfl) ps k 3 p hp (by omega))
  · rw [Nat.add_assoc]; exact hc (k * 5 + 4) _ (flat_get setCells 5 (fun _ => rfl) ps k 4 p hp (by omega))

theorem Strs.shape {w : World} {lo : Nat} {v : Value} {l : List (List UInt8)} (h : Strs w lo v l) : ∃ A c, v = .slice A l.length c := by
  obtain ⟨A, c, e, _⟩ := h; exact ⟨A, c, e⟩
theorem find_step {α : Type} (f : α → Bool) (l : List α) (k : Nat) (h : k < l.length) (hn : (l.take k).find? f = none) : (f l[k] = true → l.find? f = some l[k]) ∧ (f l[k] = false → (l.take (k + 1)).find? f = none) := by
  constructor
  · intro ht
    conv => lhs; rw [← List.take_append_drop k l]
    rw [List.find?_append, hn, List.drop_eq_getElem_cons h, List.find?_cons_of_pos ht]; rfl
  · intro hf
    rw [take_snoc l k h, List.find?_append, hn]
    simp [hf]

def SetsBd (l : List SetD) : Prop := ∀ s ∈ l, s.name.length ≤ 1048576 ∧ s.data.length ≤ 65536 ∧ ∀ d ∈ s.data, d.length ≤ 1048576

set_option maxHeartbeats 2000000 in
theorem rrset_find (lo : Nat) (v : Value) (l : List SetD) (n : List UInt8) (kind cls : Int) (w : World) (h : Sets w lo v l) (hbd : SetsBd l) (hn : n.length ≤ 1048576) :
    Calls Tryz.prog 147 #[v, S n, .int .u16 kind, .int .u16 cls] w (FindPost (findS l n kind cls) w) := by
  obtain ⟨ps, A, c, hl, rfl, h1, h2, hrd, hst⟩ := h
  have hn' : n.length ≤ maxLen := by unfold maxLen; omega
  unfold maxLen at h2
  have hlen : ps.length = l.length := by rw [← hl]; simp
  obtain ⟨R, hR⟩ : ∃ R, R = findS l n kind cls := ⟨_, rfl⟩
  rw [← hR]
  have HR := Lib.hid hR
  have Hl := Lib.hid hl
  have Hlen := Lib.hid hlen
  clear hR hl hlen
  go_enter Tryz.func147, Tryz.ntmps147
  go_wp2
  go_loopw [14] (fun i wr => ∃ k : Nat, k ≤ ps.length ∧ i = .int .i64 k ∧ (l.take k).find? (hitS n kind cls) = none ∧ Ext (w.alloc (.cells #[S [], .int .u16 0, .int .u16 0, .int .u32 0, .slice none 0 0] 79)) wr) (fun i _ => ps.length - (intOf i).toNat)
  case atStart => exact ⟨0, by omega, rfl, rfl, Ext.refl _⟩
  case round =>
    obtain ⟨k, hk, rfl, hno, hE⟩ := hrel
    obtain ⟨wo, rfl⟩ : ∃ wo : World, wo = wr := ⟨_, rfl⟩
    have Hno := Lib.hid hno
    clear hno
    obtain ⟨hq, hqf, hqz⟩ := ext_new hE
    have hEw : Ext w wo := ((Ext.refl w).alloc _).trans hE
    by_cases hlt : k < ps.length
    · have hlt' : k < l.length := by rw [← Hlen.out]; exact hlt
      have hp : ps[k]? = some ps[k] := List.getElem?_eq_getElem hlt
      have hpl : l[k] = ps[k].1 := by simp [← Hl.out]
      have hfs := find_step (hitS n kind cls) l k hlt' Hno.out
      rw [hpl] at hfs
      have hbs := hbd l[k] (List.getElem_mem hlt')
      rw [hpl] at hbs
      have hstr := hst ps[k] (List.getElem_mem hlt)
      generalize ps[k] = p at *
      obtain ⟨b, off, rfl, _, hbz, hc⟩ := hrd.2 (by omega)
      obtain ⟨c0, c1, c2, c3, c4⟩ := sets_cells hc k p hp
      rw [← hEw.cell (p := ⟨b, _, none⟩) hbz] at c0 c1 c2 c3 c4
      have hbz2 : b < wo.heap.size := Nat.lt_of_lt_of_le hbz hEw.size
      have Hfs := Lib.hid hfs
      have hnm : p.1.name.length ≤ maxLen := by unfold maxLen; omega
      clear hc hp hrd hfs hpl hst
      obtain ⟨⟨nm, ty, cl, tt, da⟩, d⟩ := p
      dsimp only at *
      obtain ⟨dA, dc, rfl⟩ := hstr.shape
      by_cases hty : ty = kind
      · subst hty
        by_cases hcl : cl = cls
        · subst hcl
          have Hhit := Lib.hid (show hitS n ty cl ⟨nm, ty, cl, tt, da⟩ = sameN nm n by simp [hitS])
          by_cases hsm : sameN nm n = true
          · have HF := Lib.hid (HR.out.trans (Hfs.out.1 (by rw [Hhit.out]; exact hsm)))
            go_wp2_with fail
            refine (name_same nm n _ hnm hn').mono ?_; rintro e w2 ⟨rfl, hE2⟩
            rw [hsm]
            obtain ⟨hr, hrf, hrz⟩ := ext_new hE2
            go_wp2_with fail
            refine (sl_clone lo _ da w2 ((hstr.ext hEw).ext ((((Ext.refl _).alloc _).trans hE2))) hbs.2.1).mono ?_; rintro e w3 ⟨v3, rfl, ho3, hE3⟩
            obtain ⟨A5, c5, rfl, ho5⟩ := ho3
            have hEb := hE2.trans hE3
            have hEr := (hE.alloc (.cells #[S nm, .int .u16 ty, .int .u16 cl, .int .u32 tt, .slice dA da.length dc] 79)).trans hEb
            obtain ⟨hb3, hbf3, hbz3⟩ := ext_new hEb
            obtain ⟨hr3, hrf3, hrz3⟩ := ext_new hEr
            clear hr hrf hrz hq hqf hqz
            have hne : w.heap.size < wo.heap.size := Nat.lt_of_lt_of_le (by simp) hE.size
            go_wp2_with fail
            refine bodyPost_ret (v := .tuple #[setVal ⟨nm, ty, cl, tt, da⟩ (.slice A5 da.length c5), .bool true]) ?_ rfl ?_
            · simp [results, Tryz.results147, go_sem, hr3, hrf3, hrz3]
            · refine ⟨_, by rw [HF.out]; rfl, ?_, ?_⟩
              · rw [HF.out]
                refine ⟨A5, c5, rfl, Own.lower (lo := w2.heap.size) ?_ (by have := hE2.size; simp at this; omega)⟩
                have hz2 : wo.heap.size < w2.heap.size := by have := hE2.size; simp at this; omega
                repeat (with_reducible refine Own.set_other ?_ ?hp _; case hp => (simp <;> omega))
                exact ho5
              · have hEw3 : Ext w w3 := ((Ext.refl w).alloc _).trans hEr
                (repeat (first | with_reducible exact Ext.refl _ | with_reducible assumption | with_reducible refine Ext.alloc ?_ _ | with_reducible refine Ext.drewN ?_ _ | with_reducible refine Ext.drew ?_ | (with_reducible refine Ext.setCell ?_ ?hp _; case hp => (simp <;> omega))))
          · have HF := Lib.hid (Hfs.out.2 (by rw [Hhit.out]; simpa using hsm))
            have hsm' : sameN nm n = false := by simpa using hsm
            clear hsm
            go_wp2_with fail
            refine (name_same nm n _ hnm hn').mono ?_; rintro e w2 ⟨rfl, hE2⟩
            rw [hsm']
            go_wp2_with fail
            go_roundw
            case rel => exact ⟨k + 1, by omega, by go_num, HF.out, (hE.alloc _).trans hE2⟩
            case measure => simp [intOf]; omega
        · have HF := Lib.hid (Hfs.out.2 (by simp [hitS, hcl]))
          have f1 : (cl == cls) = false := by rw [beq_eq_false_iff_ne]; exact hcl
          clear hcl
          go_wp2_with fail
          go_roundw
          case rel => exact ⟨k + 1, by omega, by go_num, HF.out, hE.alloc _⟩
          case measure => simp [intOf]; omega
      · have HF := Lib.hid (Hfs.out.2 (by simp [hitS, hty]))
        have f1 : (ty == kind) = false := by rw [beq_eq_false_iff_ne]; exact hty
        clear hty
        go_wp2_with fail
        go_roundw
        case rel => exact ⟨k + 1, by omega, by go_num, HF.out, hE.alloc _⟩
        case measure => simp [intOf]; omega
    · have HF : Hid (R = none) := by
        have := Hno.out
        rw [List.take_of_length_le (by rw [← Hlen.out]; omega)] at this
        rw [HR.out]; exact this
      go_wp2_with fail
      refine bodyPost_ret (v := .tuple #[setVal SetD.zero (.slice none 0 0), .bool false]) (by simp [results, Tryz.results147, go_sem, hq, hqf, hqz, SetD.zero]) rfl ?_
      refine ⟨_, by rw [HF.out]; rfl, ?_, ?_⟩
      · rw [HF.out]; exact ⟨none, 0, rfl, Own.nil _ _ _ _⟩
      · (repeat (first | with_reducible exact Ext.refl _ | with_reducible assumption | with_reducible refine Ext.alloc ?_ _ | with_reducible refine Ext.drewN ?_ _ | with_reducible refine Ext.drew ?_ | (with_reducible refine Ext.setCell ?_ ?hp _; case hp => (simp <;> omega))))
def targetS (s : SetD) : Option (List UInt8) :=
  match s.data with
  | [d] => match rnames 5 d with
    | [n] => some (fold n)
    | _ => none
  | _ => none
structure FolR where
  path : List SetD
  here : List UInt8
  fin : List SetD
  err : Nat
def FolR.bad (e : Nat) : FolR := ⟨[], [], [], e⟩
def followF (l : List SetD) (ty cls : Int) : Nat → List UInt8 → List (List UInt8) → List SetD → FolR
  | 0, _, _, _ => FolR.bad 0
  | n + 1, here, seen, path =>
    if ty = 5 then ⟨path, here, (findS l here ty cls).toList, 0⟩
    else match findS l here 5 cls with
      | none => ⟨path, here, (findS l here ty cls).toList, 0⟩
      | some a =>
        if path.length = 8 then FolR.bad 5
        else match targetS a with
          | none => FolR.bad 3
          | some next =>
            if (findS l here ty cls).isSome then FolR.bad 3
            else if seen.contains next then FolR.bad 8
            else followF l ty cls n next (seen ++ [next]) (path ++ [a])
def followOf (n : List UInt8) (ty cls : Int) (l : List SetD) : FolR :=
  if may n then followF l ty cls 9 (fold n) [fold n] [] else FolR.bad 1

theorem fold_le (n : List UInt8) : (fold n).length ≤ 255 := by
  unfold fold
  split
  · rename_i h; rw [length_low]; exact may_le h
  · simp
theorem targetS_le (s : SetD) (n : List UInt8) (h : targetS s = some n) : n.length ≤ 255 := by
  unfold targetS at h
  split at h
  · split at h
    · injection h with h; rw [← h]; exact fold_le _
    · cases h
  · cases h
theorem rnames_bd (kind : Int) (d : List UInt8) : (rnames kind d).length ≤ 3 ∧ ∀ n ∈ rnames kind d, n.length ≤ d.length + 255 := by
  have h := partsOf_bd kind d
  unfold rnames
  refine ⟨?_, fun n hn => ?_⟩
  · rw [List.length_map]; exact Nat.le_trans (List.length_filter_le _ _) h.1
  · obtain ⟨p, hp, rfl⟩ := List.mem_map.1 hn
    exact h.2 p (List.mem_filter.1 hp).1

def TargetPost (r : Option (List UInt8)) (w : World) (e : Ending) (w' : World) : Prop := e = .returned (.tuple #[S (r.getD []), .bool r.isSome]) ∧ Ext w w'
theorem ne_one {n : Nat} (h : n ≠ 1) : ((n : Int) == 1) = false ∧ ((n : Int) != 1) = true := by
  have : ((n : Int) == 1) = false := by rw [beq_eq_false_iff_ne]; omega
  exact ⟨this, by rw [bne, this]; rfl⟩

set_option maxHeartbeats 1000000 in
theorem chain_target (lo : Nat) (s : SetD) (d : Value) (w : World) (hg : Laid w) (hs : Strs w lo d s.data) (hb : ∀ x ∈ s.data, x.length ≤ 1048576) :
    Calls Tryz.prog 148 #[setVal s d] w (TargetPost (targetS s) w) := by
  obtain ⟨nm, ty, cl, tt, da⟩ := s
  dsimp only at *
  obtain ⟨A, c, rfl, h1, h2, hrd⟩ := hs
  unfold maxLen at h2
  by_cases hl : da.length = 1
  · obtain ⟨x, rfl⟩ := List.length_eq_one_iff.1 hl
    obtain ⟨b, off, rfl, _, hbz, hc⟩ := hrd.2 (by simp)
    have c0 := hc 0 (S x) rfl
    have hT : targetS ⟨nm, ty, cl, tt, [x]⟩ = match rnames 5 x with | [n] => some (fold n) | _ => none := rfl
    rw [hT]
    have hx := hb x (by simp)
    have hnb := rnames_bd 5 x
    have HN := Lib.hid (fun W (h : Laid W) => rdata_names 5 x W h hx)
    generalize rnames 5 x = ns at *
    simp only [Nat.add_zero] at c0
    clear hc hrd hl hb hT
    simp only [List.length_singleton]
    go_enter Tryz.func148, Tryz.ntmps148
    go_wp2_with fail
    refine (HN.out _ (hg.ext ((Ext.refl _).alloc _))).mono ?_; rintro e w2 ⟨v, rfl, ho, hE2⟩
    obtain ⟨A5, c5, rfl, ho5⟩ := ho
    by_cases hn1 : ns.length = 1
    · obtain ⟨n, rfl⟩ := List.length_eq_one_iff.1 hn1
      obtain ⟨b5, off5, rfl, _, _, hc5⟩ := ho5.rd.2 (by simp)
      have c5' := hc5 0 (S n) rfl
      simp only [Nat.add_zero] at c5'
      have hnl := hnb.2 n (by simp)
      clear hc5 ho5 hn1 hnb
      simp only [List.length_singleton]
      go_wp2_with fail
      refine (name_fold n w2 (by unfold maxLen; omega)).mono ?_; rintro e w3 ⟨rfl, hE3⟩
      go_wp2_with fail
      go_ret2
      exact ⟨rfl, (((Ext.refl _).alloc _).trans hE2).trans hE3⟩
    · obtain ⟨f1, f2⟩ := ne_one hn1
      have HM : Hid ((match ns with | [n] => some (fold n) | _ => none) = none) := by
        match ns, hn1 with
        | [], _ => rfl
        | [_], h => exact absurd rfl h
        | _ :: _ :: _, _ => rfl
      have hn3 : (ns.length : Int) ≤ 3 := by have := hnb.1; omega
      clear hn1 hnb
      generalize (match ns with | [n] => some (fold n) | _ => none) = T at *
      go_wp2_with fail
      go_ret2
      exact ⟨by first | rfl | (rw [HM.out]; rfl), ((Ext.refl _).alloc _).trans hE2⟩
  · obtain ⟨f1, f2⟩ := ne_one hl
    have HM : Hid (targetS ⟨nm, ty, cl, tt, da⟩ = none) := by
      match da, hl with
      | [], _ => rfl
      | [_], h => exact absurd rfl h
      | _ :: _ :: _, _ => rfl
    generalize targetS ⟨nm, ty, cl, tt, da⟩ = T at *
    clear hl
    go_enter Tryz.func148, Tryz.ntmps148
    go_wp2_with fail
    go_ret2
    exact ⟨by rw [HM.out]; rfl, (Ext.refl _).alloc _⟩

theorem own_ne {w : World} {lo lo' : Nat} {e e' : TypeId} {sz sz' n m c d : Nat} {A B : Option Addr} {xs ys : List Value} (h : Own w lo e sz A n c xs) (k : Own w lo' e' sz' B m d ys) (hne : e ≠ e') :
    (Value.slice A n c).ownBlock = none ∨ (Value.slice A n c).ownBlock ≠ (Value.slice B m d).ownBlock := by
  rcases h.2 with ⟨h1, _⟩ | ⟨g, cap, cur, h1, _, hh, _⟩
  · injection h1 with h1; subst h1; exact .inl rfl
  · rcases k.2 with ⟨k1, _⟩ | ⟨g', cap', cur', k1, _, kk, _⟩
    · injection h1 with h1; injection k1 with k1; subst h1 k1; exact .inr (by simp [Value.ownBlock])
    · injection h1 with h1; injection k1 with k1; subst h1 k1
      refine .inr (fun e0 => hne ?_)
      have : g = g' := by simpa [Value.ownBlock] using e0
      subst this
      rw [hh] at kk
      injection kk with kk
      injection kk
theorem OStrs.kept {w w' : World} {lo : Nat} {v : Value} {l : List (List UInt8)} (h : OStrs w lo v l) {row : Option Nat} (hg : w.grownBy w' row) (hne : v.ownBlock = none ∨ v.ownBlock ≠ row) : OStrs w' lo v l := by
  obtain ⟨A, c, rfl, ho⟩ := h
  exact ⟨A, c, rfl, ho.kept hg hne⟩
theorem OStrs.blk {w : World} {lo : Nat} {v : Value} {l : List (List UInt8)} (h : OStrs w lo v l) : ∀ k, v.ownBlock = some k → lo ≤ k ∧ k < w.heap.size := by
  obtain ⟨A, c, rfl, ho⟩ := h
  exact ho.blk
theorem info_set : (Tryz.prog.info? 79).map (fun i => (i.zero, i.size, i.bytes)) = some (some (.agg #[.string ⟨#[]⟩, .int .u16 0, .int .u16 0, .int .u32 0, .slice none 0 0]), 5, 48) := by kernel_rfl
theorem set_one (p : SetD × Value) {w : World} {lo : Nat} (h : OStrs w lo p.2 p.1.data) : ∀ u ∈ setCells p, u.oneCell' = true := by
  intro u hu
  obtain ⟨A, c, e, _⟩ := h
  simp only [setCells, List.mem_cons, List.not_mem_nil, or_false] at hu
  rcases hu with rfl | rfl | rfl | rfl | rfl <;> first | rfl | (rw [e]; rfl)

theorem own_lit (w : World) (g lo : Nat) (hg : g = w.heap.size) (hlo : lo ≤ w.heap.size) (e : TypeId) (cs : List Value) (n sz : Nat) (hl : cs.length = n * sz) (hn : n ≤ maxLen) : Own (w.alloc (.cells cs.toArray e)) lo e sz (some ⟨g, 0, none⟩) n n cs := by
  subst hg
  have := World.ownsRow_lit (size := sz) (e := e) w cs.toArray n hlo hn (by simpa using hl)
  simpa [Own] using this
theorem findS_mem {l : List SetD} {n : List UInt8} {k c : Int} {s : SetD} (h : findS l n k c = some s) : s ∈ l := List.mem_of_find?_eq_some h

theorem ostrs_ne {w : World} {lo lo' : Nat} {v : Value} {l : List (List UInt8)} {sz m d : Nat} {B : Option Addr} {ys : List Value} (h : OStrs w lo v l) (k : Own w lo' 79 sz B m d ys) :
    v.ownBlock = none ∨ v.ownBlock ≠ (Value.slice B m d).ownBlock := by
  obtain ⟨A, c, rfl, ho⟩ := h
  exact own_ne ho k (by decide)
theorem apart_step {v : Value} {old new : Option Nat} {size : Nat} (h : v.ownBlock = none ∨ v.ownBlock ≠ old) (hlt : ∀ k, v.ownBlock = some k → k < size) (hat : new = old ∨ new = some size) : v.ownBlock = none ∨ v.ownBlock ≠ new := by
  rcases h with h | h
  · exact .inl h
  · rcases hat with e | e
    · rw [e]; exact .inr h
    · refine .inr (fun e' => ?_)
      have := hlt size (e'.trans e)
      omega

structure FoInv (w1 : World) (l : List SetD) (ty cls : Int) (R : FolR) (here : List UInt8) (seen : List (List UInt8)) (ps : List (SetD × Value)) (sA : Option Addr) (sc : Nat) (pA : Option Addr) (pc : Nat) (wr : World) : Prop where
  h8 : ps.length ≤ 8
  hs : seen.length = ps.length + 1
  hh : here.length ≤ 255
  oseen : Own wr w1.heap.size 9 1 sA seen.length sc (seen.map S)
  opath : Own wr w1.heap.size 79 5 pA ps.length pc (ps.flatMap setCells)
  datas : ∀ p ∈ ps, OStrs wr w1.heap.size p.2 p.1.data
  apart : ∀ p ∈ ps, p.2.ownBlock = none ∨ p.2.ownBlock ≠ (Value.slice sA seen.length sc).ownBlock
  ext : Ext w1 wr
  eq : R = followF l ty cls (9 - ps.length) here seen (ps.map Prod.fst)

def FollowPost (R : FolR) (w : World) (e : Ending) (w' : World) : Prop :=
  ∃ v u wm, e = .returned (.tuple #[v, S R.here, u, .int .i64 R.err]) ∧ OSets wm w.heap.size v R.path ∧ Ext w wm ∧ OSets w' wm.heap.size u R.fin ∧ Ext wm w'
theorem OSets.nil (w : World) (lo : Nat) : OSets w lo (.slice none 0 0) [] := ⟨[], none, 0, rfl, rfl, Own.nil _ _ _ _, by simp⟩
theorem results4 {fn : Func} {t u v x : Tmp} (h : fn.results = #[.tmp t, .tmp u, .tmp v, .tmp x]) (tmps : Array Value) (P : Program) (w : World) :
    (results fn tmps).run P w = .ok (.tuple #[tmps.getD t undef, tmps.getD u undef, tmps.getD v undef, tmps.getD x undef]) w := by simp [results, h]

set_option maxHeartbeats 4000000 in
theorem chain_follow (lo : Nat) (n : List UInt8) (ty cls : Int) (v : Value) (l : List SetD) (w : World) (hg : Laid w) (hS : Sets w lo v l) (hbd : SetsBd l) (hn : n.length ≤ 1048576) :
    Calls Tryz.prog 85 #[.agg #[S n, .int .u16 ty, .int .u16 cls], v] w (FollowPost (followOf n ty cls l) w) := by
  have hn' : n.length ≤ maxLen := by unfold maxLen; omega
  by_cases hm : may n = true
  · have hR : followOf n ty cls l = followF l ty cls 9 (fold n) [fold n] [] := by unfold followOf; rw [if_pos hm]
    rw [hR]
    clear hR
    obtain ⟨R, hR⟩ : ∃ R, R = followF l ty cls 9 (fold n) [fold n] [] := ⟨_, rfl⟩
    rw [← hR]
    have HR := Lib.hid hR
    clear hR
    have hfl := fold_le n
    obtain ⟨i0, hi0, hz0, hz1, hz2⟩ := info_parts info_str
    obtain ⟨j0, hj0, hy0, hy1, hy2⟩ := info_parts info_set
    go_enter Tryz.func85, Tryz.ntmps85
    go_wp2_with fail
    go_step3
    go_wp2_with fail
    refine (name_may n _ hn').mono ?_; rintro e w' ⟨rfl, rfl⟩
    rw [hm]
    go_wp2_with fail
    refine (name_fold n _ hn').mono ?_; rintro e w1 ⟨rfl, hE1⟩
    generalize fold n = here0 at *
    go_wp2_with fail
    have hw1 : w.heap.size ≤ w1.heap.size := (((Ext.refl w).alloc _).trans hE1).size
    have hEw1 : Ext w w1 := ((Ext.refl w).alloc _).trans hE1
    go_step3
    go_wp2_with fail
    go_loopw [6, 8, 9, 10] (fun o6 h s p wr => ∃ (here : List UInt8) (seen : List (List UInt8)) (ps : List (SetD × Value)) (sA : Option Addr) (sc : Nat) (pA : Option Addr) (pc : Nat), o6 = .slice none 0 0 ∧ h = S here ∧ s = .slice sA seen.length sc ∧ p = .slice pA ps.length pc ∧ FoInv w1 l ty cls R here seen ps sA sc pA pc wr) (fun _ _ _ p _ => 8 - lenOf p)
    case atStart =>
      refine ⟨here0, [here0], [], _, 1, none, 0, rfl, rfl, rfl, rfl, ⟨by simp, rfl, hfl, own_lit w1 _ _ rfl (Nat.le_refl _) _ _ 1 1 rfl (by unfold maxLen; omega), Own.nil _ _ _ _, by simp, by simp, (Ext.refl _).alloc _, HR.out⟩⟩
    case round =>
      obtain ⟨here, seen, ps, sA, sc, pA, pc, rfl, rfl, rfl, rfl, hI⟩ := hrel
      obtain ⟨wo, rfl⟩ : ∃ wo : World, wo = wr := ⟨_, rfl⟩
      have h8 := hI.h8
      have hs := hI.hs
      obtain ⟨hq, hqf, hqz⟩ := ext_new (hE1.trans hI.ext)
      have hF := hI.eq
      rw [show 9 - ps.length = (8 - ps.length) + 1 by omega] at hF
      simp only [followF] at hF
      have HS := Lib.hid hs
      clear hs
      by_cases hty : ty = 5
      · rw [if_pos hty] at hF
        have HF := Lib.hid hF
        clear hF
        have f5 : (ty == 5) = true := by rw [beq_iff_eq]; exact hty
        have f6 : (ty != 5) = false := by rw [bne, f5]; rfl
        clear hty
        go_wp2_with fail
        refine (rrset_find lo v l here ty cls _ (hS.ext (hEw1.trans hI.ext)) hbd (by have := hI.hh; omega)).mono ?_; rintro e w5 ⟨d5, rfl, ho5, hE5⟩
        obtain ⟨dA5, dc5, rfl, hoo5⟩ := ho5
        rcases hf5 : findS l here ty cls with _ | s5
        · have Hf5 := Lib.hid hf5
          rw [hf5] at hoo5
          clear hf5
          dsimp only [Option.getD, Option.isSome] at hoo5 ⊢
          go_wp2_with fail
          refine bodyPost_ret (results4 rfl _ _ _) rfl ?_
          have hEo := ((Ext.refl wo).trans hE5).alloc (.cells #[S SetD.zero.name, .int .u16 SetD.zero.typ, .int .u16 SetD.zero.cls, .int .u32 SetD.zero.ttl, .slice dA5 SetD.zero.data.length dc5] 79)
          refine ⟨_, _, wo, by rw [HF.out, Hf5.out]; rfl, ?_, hEw1.trans hI.ext, ?_, hEo⟩
          · rw [HF.out]
            exact ⟨ps, pA, pc, rfl, rfl, hI.opath.lower hw1, fun p hp => (hI.datas p hp).lower hw1⟩
          · rw [HF.out, Hf5.out]; exact OSets.nil _ _
        · have Hf5 := Lib.hid hf5
          rw [hf5] at hoo5
          clear hf5
          dsimp only [Option.getD, Option.isSome] at hoo5 ⊢
          go_wp2_with fail
          refine bodyPost_ret (results4 rfl _ _ _) rfl ?_
          have hEo := (((Ext.refl wo).trans hE5).alloc (.cells #[S s5.name, .int .u16 s5.typ, .int .u16 s5.cls, .int .u32 s5.ttl, .slice dA5 s5.data.length dc5] 79)).alloc (.cells #[S s5.name, .int .u16 s5.typ, .int .u16 s5.cls, .int .u32 s5.ttl, .slice dA5 s5.data.length dc5] 79)
          refine ⟨_, _, wo, by rw [HF.out, Hf5.out]; rfl, ?_, hEw1.trans hI.ext, ?_, hEo⟩
          · rw [HF.out]
            exact ⟨ps, pA, pc, rfl, rfl, hI.opath.lower hw1, fun p hp => (hI.datas p hp).lower hw1⟩
          · rw [HF.out, Hf5.out]
            refine ⟨[(s5, .slice dA5 s5.data.length dc5)], _, 1, rfl, rfl, own_lit _ _ _ (by simp) (Nat.le_trans hE5.size (by simp)) _ _ 1 5 rfl (by unfold maxLen; omega), ?_⟩
            intro p hp
            rw [List.mem_singleton] at hp
            subst hp
            exact ⟨dA5, dc5, rfl, (hoo5.ext ((Ext.refl _).alloc _)).ext ((Ext.refl _).alloc _)⟩
      · rw [if_neg hty] at hF
        have f5 : (ty == 5) = false := by rw [beq_eq_false_iff_ne]; exact hty
        have f6 : (ty != 5) = true := by rw [bne, f5]; rfl
        clear hty
        go_wp2_with fail
        refine (rrset_find lo v l here 5 cls _ (hS.ext (hEw1.trans hI.ext)) hbd (by have := hI.hh; omega)).mono ?_; rintro e w2 ⟨d2, rfl, ho2, hE2⟩
        obtain ⟨dA2, dc2, rfl, hoo2⟩ := ho2
        rcases hfa : findS l here 5 cls with _ | a
        · rw [hfa] at hF hoo2
          have HF := Lib.hid hF
          clear hF hfa
          dsimp only [Option.getD, Option.isSome] at hoo2 ⊢
          have hE2b := hE2.alloc (.cells #[S SetD.zero.name, .int .u16 SetD.zero.typ, .int .u16 SetD.zero.cls, .int .u32 SetD.zero.ttl, .slice dA2 SetD.zero.data.length dc2] 79)
          have hEw2 := (hEw1.trans hI.ext).trans hE2b
          obtain ⟨hq2, hqf2, hqz2⟩ := ext_new ((hE1.trans hI.ext).trans hE2)
          clear hq hqf hqz
          go_wp2_with fail
          refine (rrset_find lo v l here ty cls _ (hS.ext hEw2) hbd (by have := hI.hh; omega)).mono ?_; rintro e w5 ⟨d5, rfl, ho5, hE5⟩
          obtain ⟨dA5, dc5, rfl, hoo5⟩ := ho5
          rcases hf5 : findS l here ty cls with _ | s5
          · have Hf5 := Lib.hid hf5
            rw [hf5] at hoo5
            clear hf5
            dsimp only [Option.getD, Option.isSome] at hoo5 ⊢
            go_wp2_with fail
            refine bodyPost_ret (results4 rfl _ _ _) rfl ?_
            have hEo := (hE2b.trans hE5).alloc (.cells #[S SetD.zero.name, .int .u16 SetD.zero.typ, .int .u16 SetD.zero.cls, .int .u32 SetD.zero.ttl, .slice dA5 SetD.zero.data.length dc5] 79)
            refine ⟨_, _, wo, by rw [HF.out, Hf5.out]; rfl, ?_, hEw1.trans hI.ext, ?_, hEo⟩
            · rw [HF.out]
              exact ⟨ps, pA, pc, rfl, rfl, hI.opath.lower hw1, fun p hp => (hI.datas p hp).lower hw1⟩
            · rw [HF.out, Hf5.out]; exact OSets.nil _ _
          · have Hf5 := Lib.hid hf5
            rw [hf5] at hoo5
            clear hf5
            dsimp only [Option.getD, Option.isSome] at hoo5 ⊢
            go_wp2_with fail
            refine bodyPost_ret (results4 rfl _ _ _) rfl ?_
            have hEo := ((hE2b.trans hE5).alloc (.cells #[S s5.name, .int .u16 s5.typ, .int .u16 s5.cls, .int .u32 s5.ttl, .slice dA5 s5.data.length dc5] 79)).alloc (.cells #[S s5.name, .int .u16 s5.typ, .int .u16 s5.cls, .int .u32 s5.ttl, .slice dA5 s5.data.length dc5] 79)
            refine ⟨_, _, wo, by rw [HF.out, Hf5.out]; rfl, ?_, hEw1.trans hI.ext, ?_, hEo⟩
            · rw [HF.out]
              exact ⟨ps, pA, pc, rfl, rfl, hI.opath.lower hw1, fun p hp => (hI.datas p hp).lower hw1⟩
            · rw [HF.out, Hf5.out]
              refine ⟨[(s5, .slice dA5 s5.data.length dc5)], _, 1, rfl, rfl, own_lit _ _ _ (by simp) (Nat.le_trans hE2b.size (Nat.le_trans hE5.size (by simp))) _ _ 1 5 rfl (by unfold maxLen; omega), ?_⟩
              intro p hp
              rw [List.mem_singleton] at hp
              subst hp
              exact ⟨dA5, dc5, rfl, ((hoo5.ext ((Ext.refl _).alloc _)).ext ((Ext.refl _).alloc _)).lower hE2b.size⟩
        · rw [hfa] at hF hoo2
          have Hfa := Lib.hid hfa
          clear hfa
          dsimp only [Option.getD, Option.isSome] at hF hoo2 ⊢
          simp only [List.length_map] at hF
          have hEwo := hEw1.trans hI.ext
          have hE2b := hE2.alloc (.cells #[S a.name, .int .u16 a.typ, .int .u16 a.cls, .int .u32 a.ttl, .slice dA2 a.data.length dc2] 79)
          have hEw2 := hEwo.trans hE2b
          have hbda := hbd a (findS_mem Hfa.out)
          by_cases h88 : ps.length = 8
          · rw [if_pos h88] at hF
            have HF := Lib.hid hF
            have f8 : ((ps.length : Int) == 8) = true := by rw [beq_iff_eq]; omega
            clear hF h88
            go_wp2_with fail
            refine bodyPost_ret (results4 rfl _ _ _) rfl ?_
            exact ⟨_, _, _, by rw [HF.out]; rfl, by rw [HF.out]; exact OSets.nil _ _, hEw2, by rw [HF.out]; exact OSets.nil _ _, Ext.refl _⟩
          · rw [if_neg h88] at hF
            have f8 : ((ps.length : Int) == 8) = false := by rw [beq_eq_false_iff_ne]; omega
            have h87 : ps.length ≤ 7 := by omega
            clear h88
            obtain ⟨hq2, hqf2, hqz2⟩ := ext_new ((hE1.trans hI.ext).trans hE2)
            clear hq hqf hqz
            go_wp2_with fail
            refine (chain_target wo.heap.size a (.slice dA2 a.data.length dc2) _ (hg.ext hEw2) ((OStrs.strs ⟨dA2, dc2, rfl, hoo2⟩).ext ((Ext.refl _).alloc _)) hbda.2.2).mono ?_; rintro e w3 ⟨rfl, hE3⟩
            have hEw3 := hEw2.trans hE3
            obtain ⟨hq3, hqf3, hqz3⟩ := ext_new ((((hE1.trans hI.ext).trans hE2).alloc (.cells #[S a.name, .int .u16 a.typ, .int .u16 a.cls, .int .u32 a.ttl, .slice dA2 a.data.length dc2] 79)).trans hE3)
            obtain ⟨hb3, hbf3, hbz3⟩ := ext_new hE3
            clear hq2 hqf2 hqz2
            rcases htg : targetS a with _ | next
            · rw [htg] at hF
              have HF := Lib.hid hF
              clear hF htg
              dsimp only [Option.getD, Option.isSome]
              go_wp2_with fail
              refine bodyPost_ret (results4 rfl _ _ _) rfl ?_
              exact ⟨_, _, _, by rw [HF.out]; rfl, by rw [HF.out]; exact OSets.nil _ _, hEw3, by rw [HF.out]; exact OSets.nil _ _, Ext.refl _⟩
            · rw [htg] at hF
              have hnx := targetS_le a next htg
              clear htg
              dsimp only [Option.getD, Option.isSome] at hF ⊢
              go_wp2_with fail
              refine (rrset_find lo v l here ty cls _ (hS.ext hEw3) hbd (by have := hI.hh; omega)).mono ?_; rintro e w4 ⟨d4, rfl, ho4, hE4⟩
              obtain ⟨dA4, dc4, rfl, hoo4⟩ := ho4
              have hEw4 := hEw3.trans hE4
              rcases hfb : findS l here ty cls with _ | s4
              · rw [hfb] at hF hoo4
                rw [if_neg (by simp)] at hF
                clear hfb
                dsimp only [Option.getD, Option.isSome] at hoo4 ⊢
                have hE4b := hE4.alloc (.cells #[S SetD.zero.name, .int .u16 SetD.zero.typ, .int .u16 SetD.zero.cls, .int .u32 SetD.zero.ttl, .slice dA4 SetD.zero.data.length dc4] 79)
                have hEoS : Ext wo _ := (hE2b.trans hE3).trans hE4b
                have hEw4b := hEw3.trans hE4b
                by_cases hct : seen.contains next = true
                · rw [if_pos hct] at hF
                  have HF := Lib.hid hF
                  have Hct := Lib.hid hct
                  clear hF hct
                  go_wp2_with fail
                  refine (sl_contains 0 _ seen next _ (((OStrs.strs ⟨sA, sc, rfl, hI.oseen⟩).ext hEoS).lower (Nat.zero_le _))).mono ?_; rintro e w' ⟨rfl, rfl⟩
                  rw [Hct.out]
                  go_wp2_with fail
                  refine bodyPost_ret (results4 rfl _ _ _) rfl ?_
                  exact ⟨_, _, _, by rw [HF.out]; rfl, by rw [HF.out]; exact OSets.nil _ _, hEw4b, by rw [HF.out]; exact OSets.nil _ _, Ext.refl _⟩
                · have hct' : seen.contains next = false := by simpa using hct
                  rw [if_neg hct] at hF
                  have HF := Lib.hid hF
                  have Hct := Lib.hid hct'
                  clear hF hct hct'
                  go_wp2_with fail
                  refine (sl_contains 0 _ seen next _ (((OStrs.strs ⟨sA, sc, rfl, hI.oseen⟩).ext hEoS).lower (Nat.zero_le _))).mono ?_; rintro e w' ⟨rfl, rfl⟩
                  rw [Hct.out]
                  obtain ⟨hb4, hbf4, hbz4⟩ := ext_new (hE3.trans hE4)
                  clear hb3 hbf3 hbz3 hq3 hqf3 hqz3
                  have hz4 : w2.heap.size < w4.heap.size := hbz4
                  have hop := (hI.opath.ext hEoS).ext ((Ext.refl _).alloc (.cells #[S a.name, .int .u16 a.typ, .int .u16 a.cls, .int .u32 a.ttl, .slice dA2 a.data.length dc2] 79))
                  have hos := (hI.oseen.ext hEoS).ext ((Ext.refl _).alloc (.cells #[S a.name, .int .u16 a.typ, .int .u16 a.cls, .int .u32 a.ttl, .slice dA2 a.data.length dc2] 79))
                  have hod : ∀ p ∈ ps, OStrs _ w1.heap.size p.2 p.1.data := fun p hp => ((hI.datas p hp).ext hEoS).ext ((Ext.refl _).alloc (.cells #[S a.name, .int .u16 a.typ, .int .u16 a.cls, .int .u32 a.ttl, .slice dA2 a.data.length dc2] 79))
                  have hnew : OStrs _ w1.heap.size (.slice dA2 a.data.length dc2) a.data := (((OStrs.lower ⟨dA2, dc2, rfl, hoo2⟩ hI.ext.size).ext (((Ext.refl _).alloc (.cells #[S a.name, .int .u16 a.typ, .int .u16 a.cls, .int .u32 a.ttl, .slice dA2 a.data.length dc2] 79)).trans (hE3.trans hE4b))).ext ((Ext.refl _).alloc (.cells #[S a.name, .int .u16 a.typ, .int .u16 a.cls, .int .u32 a.ttl, .slice dA2 a.data.length dc2] 79)))
                  have hnewlo := hoo2.blk
                  have hnsep : (Value.slice dA2 a.data.length dc2).ownBlock = none ∨ (Value.slice dA2 a.data.length dc2).ownBlock ≠ (Value.slice sA seen.length sc).ownBlock := by
                    rcases hbk : (Value.slice dA2 a.data.length dc2).ownBlock with _ | k
                    · exact .inl rfl
                    · exact .inr (fun e' => by have h1 := (hnewlo k hbk).1; have h2 := (hI.oseen.blk k e'.symm).2; omega)
                  go_wp2_with (first
                    | (at_builtin
                       refine wpList_app _ rfl (.tmp 65) (.tmp 67) _ rfl w1.heap.size 79 j0 _ 5 48 Tryz.underlying22 hj0 hy0 hy1 hy2 rfl (by omega) pA ps.length pc (ps.flatMap setCells) rfl hop 0 _ 1 1 (setCells (a, .slice dA2 a.data.length dc2)) rfl (rd_new _ _ (by simp) _ _ 1 5 rfl) (set_one _ hnew) (by omega) (by omega) (by have := (hI.ext.trans hEoS).size; simp at this ⊢; omega) ?_
                       intro A5 c5 w5 hown5 hg5 hb5 hat5
                       have hos5 := hos.kept hg5 (own_ne hos hop (by decide))
                       have hod5 : ∀ p ∈ ps, OStrs w5 w1.heap.size p.2 p.1.data := fun p hp => (hod p hp).kept hg5 (ostrs_ne (hod p hp) hop)
                       have hnew5 := hnew.kept hg5 (ostrs_ne hnew hop)
                       have hsz5 : w1.heap.size ≤ w5.heap.size := Nat.le_trans (hI.ext.trans hEoS).size (Nat.le_trans (by simp) hb5.size))
                    | (at_builtin
                       refine wpList_app _ rfl (.tmp 69) (.tmp 71) _ rfl w1.heap.size 9 i0 _ 1 16 Tryz.underlying77 hi0 hz0 hz1 hz2 rfl (by omega) sA seen.length sc (seen.map S) rfl (hos5.ext ((Ext.refl _).alloc _)) 0 _ 1 1 ([next].map S) rfl (rd_new _ _ rfl _ _ 1 1 rfl) (str_one _) (by have := HS.out; omega) (by omega) (by simp; omega) ?_
                       intro A6 c6 w6 hown6 hg6 hb6 hat6))
                  have hE5 : Ext w1 w5 := ((hI.ext.trans hEoS).alloc _).then hb5 (Nat.le_refl _)
                  have hE6 : Ext w1 w6 := (hE5.alloc _).then hb6 (Nat.le_refl _)
                  go_roundw
                  case rel =>
                    refine ⟨next, seen ++ [next], ps ++ [(a, .slice dA2 a.data.length dc2)], A6, c6, A5, c5, rfl, rfl, by simp, by simp, ⟨by simp; omega, by simp [HS.out], hnx, ?_, ?_, ?_, ?_, hE6, ?_⟩⟩
                    · rw [List.length_append, List.map_append]; exact hown6
                    · rw [List.length_append, List.flatMap_append]
                      have h1 : Own (w5.alloc (.cells #[S next] 9)) w1.heap.size 79 5 A5 (ps.length + 1) c5 (ps.flatMap setCells ++ setCells (a, .slice dA2 a.data.length dc2)) := hown5.ext ((Ext.refl w5).alloc (.cells #[S next] 9))
                      have h2 := h1.kept hg6 (own_ne h1 (hos5.ext ((Ext.refl w5).alloc (.cells #[S next] 9))) (by decide))
                      simpa using h2
                    · intro p hp
                      rcases List.mem_append.1 hp with h | h
                      · exact ((hod5 p h).ext ((Ext.refl w5).alloc (.cells #[S next] 9))).kept hg6 (hI.apart p h)
                      · rw [List.mem_singleton] at h
                        subst h
                        exact (hnew5.ext ((Ext.refl w5).alloc (.cells #[S next] 9))).kept hg6 hnsep
                    · intro p hp
                      rw [List.length_append]
                      rcases List.mem_append.1 hp with h | h
                      · exact apart_step (hI.apart p h) (fun k hk => (((hod5 p h).ext ((Ext.refl w5).alloc (.cells #[S next] 9))).blk k hk).2) hat6
                      · rw [List.mem_singleton] at h
                        subst h
                        exact apart_step hnsep (fun k hk => ((hnew5.ext ((Ext.refl w5).alloc (.cells #[S next] 9))).blk k hk).2) hat6
                    · rw [HF.out]; simp only [List.length_append, List.length_singleton, List.map_append, List.map_cons, List.map_nil]; congr 1; omega
                  case measure => simp only [lenOf]; omega
              · rw [hfb] at hF hoo4
                rw [if_pos rfl] at hF
                have HF := Lib.hid hF
                clear hF hfb
                dsimp only [Option.getD, Option.isSome] at hoo4 ⊢
                go_wp2_with fail
                refine bodyPost_ret (results4 rfl _ _ _) rfl ?_
                exact ⟨_, _, _, by rw [HF.out]; rfl, by rw [HF.out]; exact OSets.nil _ _, hEw4.alloc _, by rw [HF.out]; exact OSets.nil _ _, Ext.refl _⟩
  · have hR : followOf n ty cls l = FolR.bad 1 := by unfold followOf; rw [if_neg hm]
    rw [hR]
    have hm' : may n = false := by simpa using hm
    clear hm hR
    go_enter Tryz.func85, Tryz.ntmps85
    go_wp2_with fail
    go_step3
    go_wp2_with fail
    refine (name_may n _ hn').mono ?_; rintro e w' ⟨rfl, rfl⟩
    rw [hm']
    go_wp2_with fail
    refine bodyPost_ret (results4 rfl _ _ _) rfl ?_
    exact ⟨_, _, _, rfl, OSets.nil _ _, (Ext.refl _).alloc _, OSets.nil _ _, Ext.refl _⟩
end Go.Proofs.YtdnpmapelmjfpaaGreatDoor
