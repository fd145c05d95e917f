/- How sets read in memory; slices.Index, Contains, Clone at []string. -/
import Derived.Test.YthdlgmfeicikpaaGreatDoorRdata4
namespace Go.Proofs.YthdlgmfeicikpaaGreatDoor
set_option linter.unusedSimpArgs false
set_option linter.unusedVariables false
open Go.RowKit
set_option maxRecDepth 100000

/-- A set (api.Set). -/
structure SetD where
  name : List UInt8
  typ : Int
  cls : Int
  ttl : Int
  data : List (List UInt8)
  deriving DecidableEq
def SetD.zero : SetD := ⟨[], 0, 0, 0, []⟩
/-- A set's cells; the last is the slice of its data. -/
def setCells (p : SetD × Value) : List Value := [S p.1.name, .int .u16 p.1.typ, .int .u16 p.1.cls, .int .u32 p.1.ttl, p.2]
abbrev setVal (s : SetD) (d : Value) : Value := .agg #[S s.name, .int .u16 s.typ, .int .u16 s.cls, .int .u32 s.ttl, d]
/-- A []api.Set. -/
def Sets (w : World) (lo : Nat) (v : Value) (l : List SetD) : Prop :=
  ∃ (ps : List (SetD × Value)) (A : Option Addr) (c : Nat), ps.map Prod.fst = l ∧ v = .slice A ps.length c ∧ ps.length ≤ c ∧ c ≤ maxLen ∧ Rd w lo 5 A ps.length (ps.flatMap setCells) ∧ ∀ p ∈ ps, Strs w lo p.2 p.1.data
/-- One of the call's own. -/
def OSets (w : World) (lo : Nat) (v : Value) (l : List SetD) : Prop :=
  ∃ (ps : List (SetD × Value)) (A : Option Addr) (c : Nat), ps.map Prod.fst = l ∧ v = .slice A ps.length c ∧ Own w lo 27 5 A ps.length c (ps.flatMap setCells) ∧ ∀ p ∈ ps, OStrs w lo p.2 p.1.data
theorem Sets.ext {w w' : World} {lo : Nat} {v : Value} {l : List SetD} (h : Sets w lo v l) (hE : Ext w w') : Sets w' lo v l := by
  obtain ⟨ps, A, c, h1, h2, h3, h4, h5, h6⟩ := h
  exact ⟨ps, A, c, h1, h2, h3, h4, h5.ext hE, fun p hp => (h6 p hp).ext hE⟩
theorem OSets.ext {w w' : World} {lo : Nat} {v : Value} {l : List SetD} (h : OSets w lo v l) (hE : Ext w w') : OSets w' lo v l := by
  obtain ⟨ps, A, c, h1, h2, h3, h4⟩ := h
  exact ⟨ps, A, c, h1, h2, h3.ext hE, fun p hp => (h4 p hp).ext hE⟩
theorem OSets.sets {w : World} {lo : Nat} {v : Value} {l : List SetD} (h : OSets w lo v l) : Sets w lo v l := by
  obtain ⟨ps, A, c, h1, h2, h3, h4⟩ := h
  exact ⟨ps, A, c, h1, h2, h3.cap.1, h3.cap.2, h3.rd, fun p hp => (h4 p hp).strs⟩
theorem OSets.lower {w : World} {lo lo' : Nat} {v : Value} {l : List SetD} (h : OSets w lo v l) (hl : lo' ≤ lo) : OSets w lo' v l := by
  obtain ⟨ps, A, c, h1, h2, h3, h4⟩ := h
  exact ⟨ps, A, c, h1, h2, h3.lower hl, fun p hp => (h4 p hp).lower hl⟩
theorem Strs.lower {w : World} {lo lo' : Nat} {v : Value} {l : List (List UInt8)} (h : Strs w lo v l) (hl : lo' ≤ lo) : Strs w lo' v l := by
  obtain ⟨A, c, e, h1, h2, h3⟩ := h
  exact ⟨A, c, e, h1, h2, h3.lower hl⟩
theorem Sets.lower {w : World} {lo lo' : Nat} {v : Value} {l : List SetD} (h : Sets w lo v l) (hl : lo' ≤ lo) : Sets w lo' v l := by
  obtain ⟨ps, A, c, h1, h2, h3, h4, h5, h6⟩ := h
  exact ⟨ps, A, c, h1, h2, h3, h4, h5.lower hl, fun p hp => (h6 p hp).lower hl⟩

/-! ### slices.Index, Contains -/
def IdxPost (l : List (List UInt8)) (s : List UInt8) (w : World) (e : Ending) (w' : World) : Prop := (∃ n : Int, e = .returned (.int .i64 n) ∧ decide (0 ≤ n) = l.contains s) ∧ w = w'

set_option maxHeartbeats 1000000 in
theorem sl_index_hit (lo : Nat) (v : Value) (l : List (List UInt8)) (s : List UInt8) (w : World) (h : Strs w lo v l) :
    Calls Tryz.prog 79 #[v, S s] w (IdxPost l s w) := by
  obtain ⟨A, c, rfl, h1, h2, hrd⟩ := h
  unfold maxLen at h2
  go_enter Tryz.func79, Tryz.ntmps79
  go_wp2
  go_loop [5, 8] (fun _ i => ∃ k : Nat, k ≤ l.length ∧ i = .int .i64 k ∧ (l.take k).contains s = false) (fun _ i => l.length - (intOf i).toNat)
  case atStart => exact ⟨0, by omega, rfl, rfl⟩
  case round =>
    obtain ⟨k, hk, rfl, hno⟩ := hrel
    have Hno := Lib.hid hno
    clear hno
    by_cases hlt : k < l.length
    · obtain ⟨b, off, rfl, _, _, hc⟩ := hrd.2 (by omega)
      have hck := hc k (S l[k]) (by simp [List.getElem?_eq_getElem hlt])
      obtain ⟨x, hx⟩ : ∃ x, x = l[k] := ⟨_, rfl⟩
      rw [← hx] at hck
      have Hx := Lib.hid hx
      clear hc hrd hx
      by_cases hs : s = x
      · have f1 : (s == x) = true := by rw [hs]; simp
        have Hs := Lib.hid hs
        clear hs
        go_wp2
        go_ret
        refine ⟨⟨k, rfl, ?_⟩, rfl⟩
        have : l.contains s = true := by rw [List.contains_iff_mem, Hs.out, Hx.out]; exact List.getElem_mem hlt
        rw [this]; simp
      · have f1 : (s == x) = false := by rw [beq_eq_false_iff_ne]; exact hs
        have Hs := Lib.hid hs
        clear hs
        go_wp2
        go_round
        case rel =>
          refine ⟨k + 1, by omega, by go_num, ?_⟩
          rw [take_snoc l k hlt]
          have h3 := Hno.out
          rw [← Hx.out]
          simp [List.contains_eq_any_beq] at h3 ⊢
          refine ⟨h3, ?_⟩
          exact Hs.out
        case measure => simp [intOf]; omega
    · have e1 : l.take k = l := List.take_of_length_le (by omega)
      rw [e1] at Hno
      clear e1
      go_wp2
      go_ret
      exact ⟨⟨-1, rfl, by rw [Hno.out]; rfl⟩, rfl⟩

theorem sl_contains (lo : Nat) (v : Value) (l : List (List UInt8)) (s : List UInt8) (w : World) (h : Strs w lo v l) :
    Calls Tryz.prog 65 #[v, S s] w fun e w' => e = .returned (.bool (l.contains s)) ∧ w = w' := by
  have Hh := Lib.hid (sl_index_hit lo v l s w h)
  clear h
  go_enter Tryz.func65, Tryz.ntmps65
  go_wp2_with (go_at_call 79; refine Hh.out.mono ?_; rintro e w' ⟨⟨n, rfl, hn⟩, rfl⟩; have Hn := Lib.hid hn; clear hn)
  go_ret
  exact ⟨ret_bool Hn.out, rfl⟩

theorem own_zero (w : World) (e : TypeId) (sz : Nat) : Own (w.alloc (.cells #[] e)) w.heap.size e sz (some ⟨w.heap.size, 0, none⟩) 0 0 [] := World.ownsRow_made w #[] 0 (Nat.le_refl _) (by unfold maxLen; omega) (by simp)
def ClonePost (l : List (List UInt8)) (w : World) (e : Ending) (w' : World) : Prop := ∃ v, e = .returned v ∧ OStrs w' w.heap.size v l ∧ Ext w w'

set_option maxHeartbeats 1000000 in
theorem sl_clone (lo : Nat) (v : Value) (l : List (List UInt8)) (w : World) (h : Strs w lo v l) (hb : l.length ≤ 65536) :
    Calls Tryz.prog 39 #[v] w (ClonePost l w) := by
  obtain ⟨A, c, rfl, h1, h2, hrd⟩ := h
  have hn := fun W a n c => Lib.run_eql_slice_nil (P := Tryz.prog) W 25 9 a n c 0 0 Tryz.underlying25
  obtain ⟨i0, hi0, hz0, hz1, hz2⟩ := info_parts info_str
  rcases A with _ | a
  · have h0 : l.length = 0 := by
      rcases Nat.eq_zero_or_pos l.length with h | h
      · exact h
      · obtain ⟨_, _, e, _⟩ := hrd.2 h; cases e
    have : l = [] := List.eq_nil_of_length_eq_zero h0
    subst this
    go_enter Tryz.func39, Tryz.ntmps39
    go_wp2_with fail
    go_ret
    exact ⟨_, rfl, ⟨none, 0, rfl, Own.nil _ _ _ _⟩, Ext.refl _⟩
  · go_enter Tryz.func39, Tryz.ntmps39
    go_wp2_with (
      at_builtin
      refine wpList_app _ rfl (.tmp 5) (.tmp 6) _ rfl w.heap.size 9 i0 _ 1 16 Tryz.underlying25 hi0 hz0 hz1 hz2 rfl (by omega) _ 0 0 [] rfl (own_zero w _ _) lo (some a) l.length c (l.map S) rfl (hrd.ext ((Ext.refl _).alloc _)) (str_one _) (by omega) (by omega) (by simp) ?_
      intro A5 c5 w5 hown5 hg5 hb5 _)
    go_ret
    rw [Nat.zero_add] at hown5
    exact ⟨_, rfl, ⟨A5, c5, rfl, hown5⟩, ((Ext.refl _).alloc _).then hb5 (Nat.le_refl _)⟩
end Go.Proofs.YthdlgmfeicikpaaGreatDoor
