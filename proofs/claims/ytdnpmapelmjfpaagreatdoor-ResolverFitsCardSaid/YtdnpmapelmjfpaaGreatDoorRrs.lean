/- Contracts of functions and plain lemmas that the proofs of this seat share (joined texts). No condition. -/
import Derived.Test.YtdnpmapelmjfpaaGreatDoorRg
import Derived.Lib.AppendZeros
import Derived.Lib.AppendZerosOnto
import Derived.Test.YtdnpmapelmjfpaaGreatDoorRrx
import Derived.Test.YtdnpmapelmjfpaaGreatDoorRg1
import Derived.RangeFuncNested
import Derived.RangeFuncBound
import Derived.RangeFuncCalls
import Derived.RangeFuncLeaves
import Derived.RangeFuncBox
import Derived.Shelf.Abstract
import Derived.Shelf.RegionOpen
import Derived.WalkKit
import Derived.OwnWalkIn
import Derived.TacticsInMore
import Derived.LoopNIn
import Derived.LoopIn
import Derived.Maps.AppendAt
import Derived.Test.YtdnpmapelmjfpaaGreatDoorRj
import Derived.Test.YtdnpmapelmjfpaaGreatDoorRu0
import Derived.Test.YtdnpmapelmjfpaaGreatDoorRpr
import Derived.Test.YtdnpmapelmjfpaaGreatDoorRhx
import Derived.Test.YtdnpmapelmjfpaaGreatDoorRd
import Derived.Test.YtdnpmapelmjfpaaGreatDoorRu
import Derived.Test.YtdnpmapelmjfpaaGreatDoorRrz
namespace Go.Proofs.YtdnpmapelmjfpaaGreatDoor
set_option linter.unusedSimpArgs false
set_option linter.unusedVariables false
open Go.RowKit
set_option maxRecDepth 100000
def setZ : Value := .agg #[.string ⟨#[]⟩, .int .u16 0, .int .u16 0, .int .u32 0, .slice none 0 0]
theorem zero_size (n : Nat) : (Builtin.zeroCells setZ.cells n).size = n * 5 := by
  simp [Builtin.zeroCells, setZ, Value.cells]
def GrowPost (w : World) (e : Ending) (w' : World) : Prop := ∃ A c, e = .returned (.slice A 0 c) ∧ Own w' w.heap.size 79 5 A 0 c [] ∧ Ext w w'
set_option maxHeartbeats 2000000 in
theorem sets_grow (n : Nat) (w : World) (hn : n ≤ 4096) : Calls Tryz.prog 150 #[.slice none 0 0, .int .i64 n] w (GrowPost w) := by
  obtain ⟨i0, hi0, hz0, hz1, hz2⟩ := info_parts info_set
  have h1 : ¬ ((n : Int) < 0) := by omega
  have h2 : wrap64 ((n : Int) - 0) = (n : Int) := by unfold wrap64; omega
  have h3 : wrap64 (n : Int) = (n : Int) := by unfold wrap64; omega
  have hnn : (0 : Int) ≤ (n : Int) := by omega
  rcases Nat.eq_zero_or_pos n with rfl | hpos
  · go_enter Tryz.func150, Tryz.ntmps150
    go_wp2_with fail
    go_ret
    exact ⟨none, 0, rfl, Own.nil _ _ _ _, Ext.refl _⟩
  · have hp : (n : Int) > 0 := by omega
    obtain ⟨C, hC, hCz⟩ : ∃ C : Array Value, C = (([] : List Value).toArray) ++ Builtin.zeroCells setZ.cells n ++ Builtin.zeroCells setZ.cells (grownCap w n 0 79 - n) ∧ C.size = grownCap w n 0 79 * 5 := ⟨_, rfl, by
      have := grownCap_ge w n 0 79
      simp only [Array.size_append, zero_size]; simp; omega⟩
    have hrz : ∀ ty, (Builtin.append_ #[22, 3] ty #[.slice none 0 0, .int .i64 (n : Int)]).run Tryz.prog w =
        .ok (.slice (some ⟨w.heap.size, 0, none⟩) n (grownCap w n 0 79)) (w.drew.alloc (.cells C 79)) := fun ty => by
      have h := Lib.run_append_grow_zeros (P := Tryz.prog) w 22 3 ty 79 i0 setZ .i64 .i64 Tryz.underlying22 Tryz.underlying3 hi0 hz0 none 0 0 [] (run_firstCells_none w.drew i0.size 0 0 0) n hpos (by rw [hz1]; omega) (by omega) (by omega) (by rw [hz2]; omega) (growslice_fits (by omega) (by rw [hz2]; omega))
      rw [Nat.zero_add] at h
      rw [hC]
      exact h
    clear hC
    have hGn : n ≤ grownCap w n 0 79 := grownCap_ge w _ _ _
    have hG63 := grownCap_le_maxLen w n 0 79 (by unfold maxLen; omega)
    generalize grownCap w n 0 79 = G at *
    have hown : Own (w.alloc (.cells C 79)).drew w.heap.size 79 5 (some ⟨w.heap.size, 0, none⟩) 0 G [] :=
      World.ownsRow_made w.drew C G (Nat.le_refl _) hG63 hCz
    have HOw := Lib.hid hown
    clear hown hCz
    have hG : (G : Int) ≤ 9223372036854775807 := by unfold maxLen at hG63; omega
    have hG0 : (0 : Int) ≤ (G : Int) := by omega
    have hGi : (n : Int) ≤ (G : Int) := by omega
    go_enter Tryz.func150, Tryz.ntmps150
    go_wp2_with (at_builtin; refine Lib.wpList_append_run _ rfl _ _ _ _ rfl _ _ rfl rfl _ _ (hrz _) ?_)
    go_ret
    exact ⟨_, G, rfl, HOw.out, ((Ext.refl _).alloc _).drew⟩

def CatPost (w : World) (ps os : List (SetD × Value)) (e : Ending) (w' : World) : Prop :=
  ∃ A c, e = .returned (.slice A (ps.length + os.length) c) ∧ Own w' w.heap.size 79 5 A (ps.length + os.length) c ((ps ++ os).flatMap setCells) ∧ Ext w w'
theorem set_ones (ps : List (SetD × Value)) (h : ∀ p ∈ ps, p.2.oneCell' = true) : ∀ u ∈ ps.flatMap setCells, u.oneCell' = true := by
  intro u hu
  obtain ⟨p, hp, hu⟩ := List.mem_flatMap.1 hu
  simp only [setCells, List.mem_cons, List.not_mem_nil, or_false] at hu
  rcases hu with rfl | rfl | rfl | rfl | rfl
  · rfl
  · rfl
  · rfl
  · rfl
  · exact h p hp
set_option maxHeartbeats 4000000 in
theorem sets_concat (g : Nat) (A B : Option Addr) (c d lo : Nat) (ps os : List (SetD × Value)) (w : World) (h0 : w.cell? ⟨g, 0, none⟩ = some (.slice A ps.length c)) (h1 : w.cell? ⟨g, 1, none⟩ = some (.slice B os.length d))
    (hA : Rd w lo 5 A ps.length (ps.flatMap setCells)) (hB : Rd w lo 5 B os.length (os.flatMap setCells)) (hp : ∀ p ∈ ps, p.2.oneCell' = true) (ho : ∀ p ∈ os, p.2.oneCell' = true) (l1 : ps.length ≤ 64) (l2 : os.length ≤ 64) :
    Calls Tryz.prog 86 #[.slice (some ⟨g, 0, none⟩) 2 2] w (CatPost w ps os) := by
  obtain ⟨i0, hi0, hz0, hz1, hz2⟩ := info_parts info_set
  have hg : g < w.heap.size := by
    rcases Nat.lt_or_ge g w.heap.size with h | h
    · exact h
    · simp [World.cell?, Array.getElem?_eq_none h] at h0
  have HGr := Lib.hid (fun n (hn : n ≤ 4096) => sets_grow n w hn)
  go_enter Tryz.func86, Tryz.ntmps86
  go_wp2_with fail
  go_loopw [3, 5, 11] (fun s3 _ s11 wr => ∃ k n : Nat, k ≤ 2 ∧ s11 = .int .i64 k ∧ s3 = .int .i64 n ∧ ((k = 0 ∧ n = 0) ∨ (k = 1 ∧ n = ps.length) ∨ (k = 2 ∧ n = ps.length + os.length)) ∧ w = wr) (fun _ _ s11 _ => 2 - (intOf s11).toNat)
  case atStart => exact ⟨0, 0, by omega, rfl, rfl, .inl ⟨rfl, rfl⟩, rfl⟩
  case round =>
    obtain ⟨k, n, hk, rfl, rfl, hkn, rfl⟩ := hrel
    rcases hkn with ⟨rfl, rfl⟩ | ⟨rfl, rfl⟩ | ⟨rfl, rfl⟩
    · have hw1 : wrap64 ((ps.length : Int)) = (ps.length : Int) := by unfold wrap64; omega
      have hnn : ¬ (ps.length : Int) < 0 := by omega
      go_wp2_with fail
      go_roundw
      case rel => exact ⟨1, ps.length, by omega, by go_num, by go_num, .inr (.inl ⟨rfl, rfl⟩), by first | rfl | trivial⟩
      case measure => simp [intOf]
    · have hw1 : wrap64 ((ps.length : Int) + (os.length : Int)) = ((ps.length + os.length : Nat) : Int) := by unfold wrap64; omega
      have hnn : ¬ ((ps.length : Int) + (os.length : Int)) < 0 := by omega
      go_wp2_with fail
      go_roundw
      case rel => exact ⟨2, ps.length + os.length, by omega, by go_num, by go_num, .inr (.inr ⟨rfl, rfl⟩), by first | rfl | trivial⟩
      case measure => simp [intOf]
    · go_wp2_with (first | (go_at_call 150; refine (HGr.out (ps.length + os.length) (by omega)).mono ?_; rintro e w1 ⟨A1, c1, rfl, hown1, hE1⟩) | fail)
      go_loopw [6, 8, 27] (fun s6 _ s27 wr => ∃ (k n : Nat) (A' : Option Addr) (c' : Nat) (xs : List Value), k ≤ 2 ∧ s27 = .int .i64 k ∧ s6 = .slice A' n c' ∧ ((k = 0 ∧ n = 0 ∧ xs = []) ∨ (k = 1 ∧ n = ps.length ∧ xs = ps.flatMap setCells) ∨ (k = 2 ∧ n = ps.length + os.length ∧ xs = ps.flatMap setCells ++ os.flatMap setCells)) ∧ Own wr w.heap.size 79 5 A' n c' xs ∧ Ext w wr) (fun _ _ s27 _ => 2 - (intOf s27).toNat)
      case atStart => exact ⟨0, 0, A1, c1, [], by omega, rfl, rfl, .inl ⟨rfl, rfl, rfl⟩, hown1, hE1⟩
      case round =>
        obtain ⟨k, n, A', c', xs, hk, rfl, rfl, hkn, hown, hEr⟩ := hrel
        obtain ⟨wo, rfl⟩ : ∃ wo : World, wo = wr := ⟨_, rfl⟩
        have g0 := (hEr.cell (p := ⟨g, 0, none⟩) hg).trans h0
        have g1 := (hEr.cell (p := ⟨g, 1, none⟩) hg).trans h1
        have hsz := hEr.size
        rcases hkn with ⟨rfl, rfl, rfl⟩ | ⟨rfl, rfl, rfl⟩ | ⟨rfl, rfl, rfl⟩
        · go_wp2_with (
            at_builtin
            refine wpList_app _ rfl (.tmp 31) (.tmp 32) _ rfl w.heap.size 79 i0 _ 5 48 Tryz.underlying22 hi0 hz0 hz1 hz2 rfl (by omega) A' 0 c' [] rfl hown lo A ps.length c (ps.flatMap setCells) rfl (hA.ext hEr) (set_ones ps hp) (by omega) (by omega) hsz ?_
            intro A5 c5 w5 hown5 hg5 hb5 _)
          go_roundw
          case rel =>
            refine ⟨1, ps.length, A5, c5, _, by omega, by go_num, by first | rfl | (rw [Nat.zero_add]), .inr (.inl ⟨rfl, rfl, rfl⟩), ?_, hEr.then hb5 (Nat.le_refl _)⟩
            simpa using hown5
          case measure => simp [intOf]
        · go_wp2_with (
            at_builtin
            refine wpList_app _ rfl (.tmp 31) (.tmp 32) _ rfl w.heap.size 79 i0 _ 5 48 Tryz.underlying22 hi0 hz0 hz1 hz2 rfl (by omega) A' ps.length c' (ps.flatMap setCells) rfl hown lo B os.length d (os.flatMap setCells) rfl (hB.ext hEr) (set_ones os ho) (by omega) (by omega) hsz ?_
            intro A5 c5 w5 hown5 hg5 hb5 _)
          go_roundw
          case rel => exact ⟨2, ps.length + os.length, A5, c5, _, by omega, by go_num, rfl, .inr (.inr ⟨rfl, rfl, rfl⟩), hown5, hEr.then hb5 (Nat.le_refl _)⟩
          case measure => simp [intOf]
        · go_wp2_with fail
          go_ret
          exact ⟨A', c', rfl, by rw [List.flatMap_append]; exact hown, hEr⟩
end Go.Proofs.YtdnpmapelmjfpaaGreatDoor
namespace Go.Proofs.YtdnpmapelmjfpaaGreatDoor
set_option linter.unusedSimpArgs false
set_option linter.unusedVariables false
open Go.RowKit Go.Shelf
attribute [local go_sem] Oper.semAt_some
set_option maxRecDepth 100000

def recsK (s : SetD) (k : Nat) : List RecD := (s.data.take k).map fun d => ⟨s.name, s.typ, s.cls, s.ttl, d⟩
theorem recsK_step (s : SetD) (k : Nat) (h : k < s.data.length) : recsK s (k + 1) = recsK s k ++ [⟨s.name, s.typ, s.cls, s.ttl, s.data[k]⟩] := by
  unfold recsK; rw [take_snoc s.data k h, List.map_append]; rfl
theorem recsK_all (s : SetD) : recsK s s.data.length = recsOf s := by unfold recsK recsOf; rw [List.take_length]
theorem recsK_pre (s : SetD) (k : Nat) (h : k < s.data.length) : ∃ r, recsOf s = recsK s k ++ ⟨s.name, s.typ, s.cls, s.ttl, s.data[k]⟩ :: r := by
  refine ⟨(s.data.drop (k + 1)).map fun d => ⟨s.name, s.typ, s.cls, s.ttl, d⟩, ?_⟩
  unfold recsOf recsK
  rw [← List.map_cons (f := fun d => (⟨s.name, s.typ, s.cls, s.ttl, d⟩ : RecD)), ← List.map_append, ← List.drop_eq_getElem_cons h, List.take_append_drop]
theorem sets_step (l : List SetD) (i : Nat) (s : SetD) (h : l[i]? = some s) : (l.take (i + 1)).flatMap recsOf = (l.take i).flatMap recsOf ++ recsOf s := by
  obtain ⟨hi, rfl⟩ := List.getElem?_eq_some_iff.1 h
  rw [take_snoc l i hi, List.flatMap_append]; simp
theorem sets_pre (l : List SetD) (i : Nat) (s : SetD) (h : l[i]? = some s) (k : Nat) (hk : k < s.data.length) : ∃ r, l.flatMap recsOf = ((l.take i).flatMap recsOf ++ recsK s k) ++ ⟨s.name, s.typ, s.cls, s.ttl, s.data[k]⟩ :: r := by
  obtain ⟨hi, rfl⟩ := List.getElem?_eq_some_iff.1 h
  obtain ⟨r, hr⟩ := recsK_pre l[i] k hk
  refine ⟨r ++ (l.drop (i + 1)).flatMap recsOf, ?_⟩
  have e : l = l.take i ++ l[i] :: l.drop (i + 1) := by rw [← List.drop_eq_getElem_cons hi, List.take_append_drop]
  conv => lhs; rw [e]
  rw [List.flatMap_append, List.flatMap_cons, hr]
  simp
def recV (r : RecD) : Value := .agg #[S r.name, .int .u16 r.typ, .int .u16 r.cls, .int .u32 r.ttl, S r.data]
def recEnc (r : RecD) : Array Value := #[recV r]
def KpR (n₀ : Nat) (W W' : World) : Prop := Below n₀ W W' ∧ ∀ (b : Nat) (cur : Array Value) (f : Nat × Nat), W.heap[b]? = some (Obj.cells cur 79 f) → W'.heap[b]? = some (Obj.cells cur 79 f)
theorem KpR.t {n₀ : Nat} {A B C : World} (h : KpR n₀ A B) (k : KpR n₀ B C) : KpR n₀ A C := ⟨h.1.trans k.1, fun b cur f e => k.2 b cur f (h.2 b cur f e)⟩
theorem KpR.b {n₀ : Nat} {w : World} (hn : n₀ ≤ w.heap.size) (W : World) (l : Nat) (o o' : Obj) (hl : w.heap.size ≤ l) (h : W.heap[l]? = some o) (hc : o.isCells = false) (hw : o.isWalk = false) : KpR n₀ W (W.putObj l o') :=
  ⟨belowK_b hn W l o o' hl h hc hw, fun b cur f e => by
    rw [World.putObj_heap_other (fun e' => ?_)]
    · exact e
    · subst e'; rw [e] at h; cases h; cases hc⟩
theorem cells_new (w : World) (cs : List Value) (t : TypeId) : ∀ j u, cs[j]? = some u → (w.alloc (.cells cs.toArray t)).cell? ((⟨w.heap.size, 0, none⟩ : Addr).add j) = some u := fun j u hj => by
  have h := (rd_new w w.heap.size rfl t cs cs.length 1 (by simp)).2
  rcases cs with _ | ⟨c, cs⟩
  · simp at hj
  · obtain ⟨b, off, e, _, _, hc⟩ := h (by simp)
    simp only [Option.some.injEq, Addr.mk.injEq, and_true] at e
    obtain ⟨rfl, rfl⟩ := e
    by_cases hj0 : j = 0
    · subst hj0; simpa [Addr.add] using hj
    · simpa [Addr.add, hj0] using hj

set_option maxHeartbeats 4000000 in
theorem rec_it (F : Fence) (n : Nat) (hf : F.fn 90) (hro : F.round = none) (hn : 1 ≤ n) (lp Bn : Nat) (A : Option Addr) (c : Nat) (ps : List (SetD × Value)) (l : List SetD) (hl : ps.map Prod.fst = l) (w0 : World)
    (hrd : Rd w0 0 5 A ps.length (ps.flatMap setCells)) (hst : ∀ p ∈ ps, Strs w0 0 p.2 p.1.data) (hpl : ps.length ≤ 1048576) (hdl : ∀ p ∈ ps, p.1.data.length ≤ 1048576) (J Jx : List RecD → World → Prop) (B0 : Nat) (hJ : AbidesFrom B0 J)
    (hY : ∀ pre x W, J pre W → pre.length < (l.flatMap recsOf).length → YieldAt F (n - 1) Tryz.prog lp (recEnc x) W fun e W' =>
      (e = .returned (.bool true) ∧ J (pre ++ [x]) W' ∧ KpR w0.heap.size W W') ∨ (e = .returned (.bool false) ∧ Jx (pre ++ [x]) W'))
    (W : World) (hE0 : Ext w0 W) (hBn : W.cell? ⟨Bn, 0, none⟩ = some (.slice A ps.length c)) (h0 : J [] W) :
    CallsIn F n Tryz.prog 90 #[.func (.yield lp) #[] #[], .pointer (some ⟨Bn, 0, none⟩)] W fun e W' => (∃ v, e = .returned v) ∧
      ((∃ ys, ys = l.flatMap recsOf ∧ J ys W') ∨ (∃ pre, pre <+: l.flatMap recsOf ∧ Jx pre W')) := by
  have HL := Lib.hid hl
  have hlen : ps.length = l.length := by rw [← hl]; simp
  have HLn := Lib.hid hlen
  have hJa : ∀ s X o, J s X → J s (X.alloc o) := fun s X o hs => hJ s X _ none hs (World.grownBy_alloc X o none) (fun r e => by cases e)
  have HT0 := Lib.hid (show (l.take 0).flatMap recsOf = [] from rfl)
  refine callsIn_of_wp Tryz.func90 rfl hf ?_ hro
  simp only [Tryz.ntmps90, List.size_toArray, List.length_cons, List.length_nil, Nat.reduceAdd, Nat.reduceSub, Array.replicate_succ, Array.replicate_zero, List.push_toArray, List.append_toArray, List.nil_append, List.cons_append]
  clear hl hlen
  gi_wp2
  gi_loopw [4, 6, 9] (fun _ _ s9 wr => ∃ i : Nat, i ≤ ps.length ∧ s9 = .int .i64 i ∧ J ((l.take i).flatMap recsOf) wr ∧ Ext w0 wr) (fun _ _ s9 _ => ps.length - (intOf s9).toNat)
  case atStart => exact ⟨0, Nat.zero_le _, rfl, by rw [HT0.out]; exact h0, hE0⟩
  case round =>
    obtain ⟨i, hi, rfl, hJi, hEi⟩ := hrel
    obtain ⟨wo, rfl⟩ : ∃ wo : World, wo = wr := ⟨_, rfl⟩
    by_cases hil : i < ps.length
    · obtain ⟨b, off, rfl, _, hbz, hc⟩ := hrd.2 (by omega)
      have hp : ps[i]? = some ps[i] := List.getElem?_eq_getElem hil
      obtain ⟨x0, x1, x2, x3, x4⟩ := sets_cells hc i ps[i] hp
      have hli : l[i]? = some ps[i].1 := by rw [← HL.out, List.getElem?_map, hp]; rfl
      have hsd := hst ps[i] (List.getElem_mem hil)
      have hdm := hdl ps[i] (List.getElem_mem hil)
      have HIl := Lib.hid hil
      have HLi := Lib.hid hli
      generalize ps[i] = p at *
      obtain ⟨⟨nm, ty, cl, tt, da⟩, dv⟩ := p
      dsimp only at *
      obtain ⟨dA, dc, rfl, hd1, hd2, hdrd⟩ := hsd
      have y0 := (hEi.cell (p := ⟨b, _, none⟩) hbz).trans x0
      have y1 := (hEi.cell (p := ⟨b, _, none⟩) hbz).trans x1
      have y2 := (hEi.cell (p := ⟨b, _, none⟩) hbz).trans x2
      have y3 := (hEi.cell (p := ⟨b, _, none⟩) hbz).trans x3
      have y4 := (hEi.cell (p := ⟨b, _, none⟩) hbz).trans x4
      have hii : (i : Int) < (ps.length : Int) := by omega
      have hi0 : (0 : Int) ≤ (i : Int) := by omega
      have HD0 := Lib.hid (show recsK ⟨nm, ty, cl, tt, da⟩ 0 = [] from rfl)
      have HSt := Lib.hid (sets_step l i _ hli)
      have HAl := Lib.hid (recsK_all ⟨nm, ty, cl, tt, da⟩)
      obtain ⟨X4, hX4⟩ : ∃ X4, X4 = wo.alloc (.cells #[S nm, .int .u16 ty, .int .u16 cl, .int .u32 tt, .slice dA da.length dc] 79) := ⟨_, rfl⟩
      obtain ⟨g, hgq⟩ : ∃ g, g = wo.heap.size := ⟨_, rfl⟩
      have r4 : X4.heap[g]? = some (.cells #[S nm, .int .u16 ty, .int .u16 cl, .int .u32 tt, .slice dA da.length dc] 79) := by rw [hX4, hgq]; exact heap_alloc_new _ _
      have hE4 : Ext w0 X4 := by rw [hX4]; exact hEi.alloc _
      have hJ4 : J ((l.take i).flatMap recsOf ++ recsK ⟨nm, ty, cl, tt, da⟩ 0) X4 := by rw [HD0.out, List.append_nil, hX4]; exact hJa _ _ _ hJi
      clear x0 x1 x2 x3 x4 hc hp hli
      gi_wp2
      rw [← hX4, ← hgq]
      have HJ4 := Lib.hid hJ4
      have HR4 := Lib.hid r4
      have hE4w : w0.heap.size ≤ X4.heap.size := hE4.size
      clear hX4 hgq y0 y1 y2 y3 y4 hJi
      have k4 := box_cell (j := 4) r4 rfl
      gi_wp2
      clear k4
      gi_loopw [6, 16] (fun _ s16 wr => ∃ k : Nat, k ≤ da.length ∧ s16 = .int .i64 k ∧ J ((l.take i).flatMap recsOf ++ recsK ⟨nm, ty, cl, tt, da⟩ k) wr ∧ Ext w0 wr ∧ wr.heap[g]? = some (.cells #[S nm, .int .u16 ty, .int .u16 cl, .int .u32 tt, .slice dA da.length dc] 79)) (fun _ s16 _ => da.length - (intOf s16).toNat)
      case atStart => exact ⟨0, Nat.zero_le _, rfl, HJ4.out, hE4, HR4.out⟩
      case round =>
        obtain ⟨k, hk, rfl, hJk, hEk, hrk⟩ := hrel
        obtain ⟨wq, rfl⟩ : ∃ wq : World, wq = wr := ⟨_, rfl⟩
        by_cases hkl : k < da.length
        · obtain ⟨dg, doff, rfl, _, hdz, hdc⟩ := hdrd.2 (by omega)
          have hdk : da[k]? = some da[k] := List.getElem?_eq_getElem hkl
          have z5 := (hEk.cell (p := ⟨dg, doff + k, none⟩) hdz).trans (hdc k (S da[k]) (by simp [hdk]))
          obtain ⟨rs, hrs⟩ := sets_pre l i _ HLi.out k hkl
          have HRs := Lib.hid hrs
          have HSk := Lib.hid (recsK_step ⟨nm, ty, cl, tt, da⟩ k hkl)
          obtain ⟨fn, tmps, assign, body, hy, hRd⟩ := hY _ (⟨nm, ty, cl, tt, da[k]⟩ : RecD) wq hJk (by have h9 := congrArg List.length hrs; rw [List.length_append, List.length_cons] at h9; omega)
          generalize da[k] = y at *
          have HKl := Lib.hid hkl
          have hkk : (k : Int) < (da.length : Int) := by omega
          have hk00 : (0 : Int) ≤ (k : Int) := by omega
          dsimp only [recEnc, recV] at hy
          have k0 := box_cell (j := 0) hrk rfl
          have k1 := box_cell (j := 1) hrk rfl
          have k2 := box_cell (j := 2) hrk rfl
          have k3 := box_cell (j := 3) hrk rfl
          clear hdc hdk hrs
          gi_wp2
          refine hRd.mono ?_
          rintro e w3 (⟨rfl, hJ3, hk3⟩ | ⟨rfl, hJx3⟩)
          · gi_wp2
            go_roundw
            case rel =>
              refine ⟨k + 1, by have := HKl.out; omega, by go_num, ?_, Below.trans hEk hk3.1, hk3.2 _ _ _ hrk⟩
              rw [HSk.out, ← List.append_assoc]; exact hJ3
            case measure => (have := HKl.out); simp [intOf]; omega
          · gi_wp2
            refine bodyPost_ret (results_none rfl _ _ _) rfl ?_
            exact ⟨⟨_, rfl⟩, .inr ⟨_, ⟨rs, by rw [HRs.out]; simp⟩, hJx3⟩⟩
        · obtain rfl : k = da.length := by omega
          gi_wp2
          go_roundw
          case rel =>
            refine ⟨i + 1, by have := HIl.out; omega, by go_num, ?_, hEk⟩
            rw [HSt.out, ← HAl.out]; exact hJk
          case measure => (have := HIl.out); simp [intOf]; omega
    · obtain rfl : i = ps.length := by omega
      have hfull : l.take ps.length = l := by rw [HLn.out, List.take_length]
      rw [hfull] at hJi
      clear hfull
      gi_wp2
      go_end0
      exact ⟨⟨_, rfl⟩, .inl ⟨_, rfl, hJi⟩⟩
theorem rec_stops (F : Fence) (n : Nat) (hf : F.fn 90) (hro : F.round = none) (hn : 1 ≤ n) (Bn : Nat) (A : Option Addr) (c : Nat) (ps : List (SetD × Value)) (l : List SetD) (hl : ps.map Prod.fst = l) (w0 : World)
    (hrd : Rd w0 0 5 A ps.length (ps.flatMap setCells)) (hst : ∀ p ∈ ps, Strs w0 0 p.2 p.1.data) (hpl : ps.length ≤ 1048576) (hdl : ∀ p ∈ ps, p.1.data.length ≤ 1048576)
    (w : World) (hE : Ext w0 w) (hBw : Bn < w.heap.size) (hBn : w.cell? ⟨Bn, 0, none⟩ = some (.slice A ps.length c)) :
    SeqStopsK F n Tryz.prog 90 #[.pointer (some ⟨Bn, 0, none⟩)] recEnc (KpR w0.heap.size) (fun ys => ys = l.flatMap recsOf) (fun pre => pre <+: l.flatMap recsOf) (l.flatMap recsOf).length w := fun lp J Jx W hW hJ hJx hY h0 =>
  rec_it F n hf hro hn lp Bn A c ps l hl w0 hrd hst hpl hdl J Jx W.heap.size hJ hY W (hE.trans hW) ((hW.cell (p := ⟨Bn, 0, none⟩) hBw).trans hBn) h0
theorem kp_append {W w1 : World} {n₀ m₀ B : Nat} {v v' : Value} {k : Nat} {xs : List Value} {tmp : Obj} (hm : m₀ ≤ n₀) (hv : Boxed W B 40 v) (hrow : W.ownsRow n₀ 99 5 v k xs) (hgrow : (W.alloc tmp).grownBy w1 v.ownBlock)
    (hb : Below n₀ W (w1.setCell ⟨B, 0, none⟩ v')) : KpR m₀ W (w1.setCell ⟨B, 0, none⟩ v') := ⟨hb.mono hm, fun b cur f e => by
  have hlt : b < W.heap.size := (Array.getElem?_eq_some_iff.1 e).1
  have hbB : b ≠ B := fun e' => by
    subst e'
    have h2 : W.heap[b]? = some (.cells #[v] 40 (0, 0)) := hv
    rw [h2] at e; cases e
  have hne : some b ≠ v.ownBlock := fun e' => by
    rcases hrow.2 with ⟨rfl, _⟩ | ⟨g, cap, cur', rfl, _, hg, _⟩
    · simp [Value.ownBlock] at e'
    · obtain rfl : b = g := by simpa [Value.ownBlock] using e'
      rw [hg] at e; cases e
  rw [Below.heap_setCell w1 ⟨B, 0, none⟩ v' b hbB, hgrow.block b (by rw [World.size_alloc]; omega) hne, Below.heap_alloc W tmp b hlt]
  exact e⟩
def CollPost (l : List RecD) (w : World) (e : Ending) (w' : World) : Prop := ∃ A c, e = .returned (.slice A l.length c) ∧ Own w' w.heap.size 99 5 A l.length c (l.flatMap recCells) ∧ Ext w w'
set_option maxHeartbeats 4000000 in
theorem append_seq (F : Fence) (n : Nat) (hfn : F.fn 89) (hro : F.round = none) (hn : 3 ≤ n) (gf : Nat) (lb : Array Value) (hFg : F.fn gf) (eg : ∀ args w, (callFunc gf args).run Tryz.prog w = .ok (.enter gf args) w)
    (l : List RecD) (hl : l.length ≤ 1048576) (m₀ : Nat) (w : World) (hm : m₀ ≤ w.heap.size)
    (hseq : SeqStopsK F (n - 1) Tryz.prog gf lb recEnc (KpR m₀) (fun ys => ys = l) (fun pre => pre <+: l) l.length w) :
    CallsIn F n Tryz.prog 89 #[.slice none 0 0, .func (.func gf) #[] lb] w (CollPost l w) := by
  have h1 : 1 ≤ n := by omega
  obtain ⟨i0, hi, hz0, hz1, hz2⟩ := info_parts info_rec7
  refine callsIn_of_wp_marks Tryz.func89 rfl hfn ?_ hro
  simp only [Tryz.ntmps89, List.size_toArray, List.length_cons, List.length_nil, Nat.reduceAdd, Nat.reduceSub, Array.replicate_succ, Array.replicate_zero, List.push_toArray, List.append_toArray, List.nil_append, List.cons_append]
  gi_wp2
  have bO := Boxed.new w 40 (.slice none 0 0)
  have hB0 : Below w.heap.size w (w.alloc (.cells #[.slice none 0 0] 40)) := (Below.refl _ w).alloc (Nat.le_refl _) _
  refine wpIn_rangeFunc_ownH hro h1 (gf := gf) (lb := lb) rfl hFg eg hseq KpR.t (KpR.b (by simp; omega)) hB0 (fun _ => rfl)
    (fun pre W => (∃ v, Boxed W w.heap.size 40 v ∧ W.ownsRow w.heap.size 99 5 v pre.length (pre.flatMap recCells) ∧ True) ∧ Below w.heap.size w W)
    (fun _ _ _ => False)
    (OwnFrom.and (Go.Own.from (holdsRow_own w.heap.size w.heap.size 40 99 5 (fun pre : List RecD => pre.length) (fun pre => pre.flatMap recCells) (fun _ _ => True)) _) (ownFrom_below (Nat.le_refl _) (by simp)))
    (fun _ _ _ _ _ hs _ _ => hs)
    ⟨⟨_, bO, World.ownsRow_nil _ _ _ _, trivial⟩, hB0⟩
    (fun x a' W => ∃ Bx, w.heap.size < Bx ∧ W.heap[Bx]? = some (.cells #[S x.name, .int .u16 x.typ, .int .u16 x.cls, .int .u32 x.ttl, S x.data] 99) ∧ a' = { tmps := #[.slice none 0 0, .func (.func gf) #[] lb, .pointer (some ⟨w.heap.size, 0, none⟩), undef, .slice none 0 0, .pointer (some ⟨Bx, 0, none⟩), .func (.func gf) #[] lb, recV x, undef, undef, undef, undef, undef], defers := [] })
    (fun x a' _ X Y row hs hg hr => by
      obtain ⟨Bx, h1, h2, h3⟩ := hs
      refine ⟨Bx, h1, (hg.block Bx (Array.getElem?_eq_some_iff.1 h2).1 (fun e => ?_)).trans h2, h3⟩
      obtain ⟨_, o, ho, hc⟩ := hr Bx e.symm
      rw [h2] at ho; cases ho; cases hc)
    ?assign ?body ?done ?stop
  case assign =>
    rintro lp pre x W K ⟨⟨v, hv, hrow, _⟩, hB⟩ hK
    unfold recEnc recV at *
    gi_wp2
    have hW : m₀ ≤ W.heap.size := Nat.le_trans hm hB.size
    exact hK _ _ ((KeepsOthers.alloc _ _).from _) ⟨(Below.refl m₀ W).alloc hW _, fun b cur f e => (Below.heap_alloc W _ b (Array.getElem?_eq_some_iff.1 e).1).trans e⟩ ⟨⟨v, hv.alloc _, hrow.alloc _, trivial⟩, hB.alloc hB.size _⟩ ⟨W.heap.size, hv.lt, heap_alloc_new _ _, rfl⟩
  case body =>
    rintro lp pre x a' W hlw ⟨r, hr⟩ ⟨⟨v, hv, hrow, _⟩, hB⟩ ⟨Bx, hBx, hX, rfl⟩ hlt
    have hc := hv.cell
    have k0 := box_cell (j := 0) hX rfl
    have k1 := box_cell (j := 1) hX rfl
    have k2 := box_cell (j := 2) hX rfl
    have k3 := box_cell (j := 3) hX rfl
    have k4 := box_cell (j := 4) hX rfl
    gi_wp2_with (gi_at_builtin; refine wpListIn_append_own _ rfl _ _ 40 rfl w.heap.size 99 i0 _ 5 40 Tryz.underlying40 hi hz0 hz1 hz2 rfl (by decide) _ _ _ rfl (hrow.alloc _) ⟨W.heap.size, 0, none⟩ 1 1 (recCells x) rfl rfl (cells_new _ (recCells x) _) (rec_one7 x) (by unfold maxLen; omega) (by omega) (by have := hB.size; simp; omega) ?_; intro v' w1 hown' hgrow _; obtain ⟨g', cap', rfl⟩ := ownsRow_succ hown'; obtain ⟨hv1, hv2, hr2, hk2, hb2⟩ := hv.appended (by decide) hrow hB.size (Nat.le_refl _) hown' hgrow; have hc1 := hv1.cell; have hf1 := hv1.frozen)
    exact ⟨hk2.from _, kp_append hm hv hrow hgrow hb2, ⟨_, hv2, by rw [List.length_append, List.flatMap_append]; simpa using hr2, trivial⟩, hB.trans hb2⟩
  case done =>
    rintro D ys W hD rfl ⟨⟨v, hv, hrow, _⟩, hB⟩ hK
    obtain ⟨A, c, rfl⟩ : ∃ A c, v = .slice A ys.length c := by
      rcases hrow.2 with ⟨h, h0⟩ | ⟨g, cap, cur, h, _⟩
      · exact ⟨none, 0, by rw [h, h0]⟩
      · exact ⟨_, _, h⟩
    have hc := hv.cell
    gi_wp2
    refine ⟨by simp, .inl ⟨_, _, rfl, run_takeDeferred hK, ?_⟩⟩
    exact ⟨_, results_tmp rfl _ _ _, A, c, rfl, ownsRow_putObj hrow _ hK rfl, hB.trans (belowK_b (w := w) (Nat.le_refl _) W D _ _ (by simp at hD; omega) hK rfl rfl)⟩
  case stop =>
    rintro D c pre W _ _ h _
    exact h.elim
set_option maxHeartbeats 1000000 in
theorem collect_in (F : Fence) (n : Nat) (hf : F.fn 43) (hfn : F.fn 89) (hro : F.round = none) (hn : 4 ≤ n) (gf : Nat) (lb : Array Value) (hFg : F.fn gf) (eg : ∀ args w, (callFunc gf args).run Tryz.prog w = .ok (.enter gf args) w)
    (l : List RecD) (hl : l.length ≤ 1048576) (m₀ : Nat) (w : World) (hm : m₀ ≤ w.heap.size)
    (hseq : SeqStopsK F (n - 1 - 1) Tryz.prog gf lb recEnc (KpR m₀) (fun ys => ys = l) (fun pre => pre <+: l) l.length w) :
    CallsIn F n Tryz.prog 43 #[.func (.func gf) #[] lb] w (CollPost l w) := by
  have HA := append_seq F (n - 1) hfn hro (by omega) gf lb hFg eg l hl m₀ w hm hseq
  refine callsIn_of_wp Tryz.func43 rfl hf ?_ hro
  simp only [Tryz.ntmps43, List.size_toArray, List.length_cons, List.length_nil, Nat.reduceAdd, Nat.reduceSub, Array.replicate_succ, Array.replicate_zero, List.push_toArray, List.append_toArray, List.nil_append, List.cons_append]
  have h1 : 1 ≤ n := by omega
  gi_wp2_with (gi_at_call 89; refine HA.mono ?_; rintro e w' ⟨A, c, rfl, ho, hE⟩)
  go_ret
  exact ⟨A, c, rfl, ho, hE⟩
set_option maxHeartbeats 1000000 in
theorem res_seq (A : Option Addr) (n c : Nat) (w : World) : Calls Tryz.prog 44 #[.slice A n c] w fun e w' => e = .returned (.func (.func 90) #[] #[.pointer (some ⟨w.heap.size, 0, none⟩)]) ∧ w' = w.alloc (.cells #[.slice A n c] 22) := by
  go_enter Tryz.func44, Tryz.ntmps44
  go_wp2
  go_ret
  exact ⟨rfl, rfl⟩
theorem res_collect (v : Value) (l : List SetD) (w0 w : World) (Bn : Nat) (h : Sets w0 0 v l) (hE : Ext w0 w) (hB : w.cell? ⟨Bn, 0, none⟩ = some v) (h1 : l.length ≤ 1048576) (h2 : ∀ s ∈ l, s.data.length ≤ 1048576) (h3 : (l.flatMap recsOf).length ≤ 1048576) :
    Calls Tryz.prog 43 #[.func (.func 90) #[] #[.pointer (some ⟨Bn, 0, none⟩)]] w (CollPost (l.flatMap recsOf) w) := by
  obtain ⟨ps, A, c, hpe, rfl, hp1, hp2, hrd, hst⟩ := h
  have hBw : Bn < w.heap.size := by
    rcases Nat.lt_or_ge Bn w.heap.size with h | h
    · exact h
    · simp [World.cell?, Array.getElem?_eq_none h] at hB
  have hpl : ps.length = l.length := by rw [← hpe, List.length_map]
  refine (callsIn_wide (n := 4)).1 (collect_in Fence.wide 4 trivial trivial rfl (by omega) 90 _ trivial (enters_of Tryz.func90 (by kernel_rfl) rfl) _ h3 w0.heap.size w hE.size ?_)
  exact rec_stops Fence.wide _ trivial rfl (by omega) Bn A c ps l hpe w0 hrd hst (by omega) (fun p hp => h2 p.1 (by rw [← hpe]; exact List.mem_map_of_mem hp)) w hE hBw hB
end Go.Proofs.YtdnpmapelmjfpaaGreatDoor
namespace Go.Proofs.YtdnpmapelmjfpaaGreatDoor
set_option linter.unusedSimpArgs false
set_option linter.unusedVariables false
open Go.RowKit
set_option maxRecDepth 100000
theorem there_step {l : List SetD} {n : List UInt8} {cls : Int} {k : Nat} {s : SetD} (h : l[k]? = some s) : thereB (l.take (k + 1)) n cls = (thereB (l.take k) n cls || (s.cls == cls && withinN s.name n)) := by
  obtain ⟨hk, rfl⟩ := List.getElem?_eq_some_iff.1 h
  unfold thereB
  rw [take_snoc l k hk, List.any_append]; simp
theorem there_in {l : List SetD} {n : List UInt8} {cls : Int} {k : Nat} (h : thereB (l.take k) n cls = true) : thereB l n cls = true := by
  unfold thereB at *
  rw [List.any_eq_true] at h ⊢
  obtain ⟨s, hs, h⟩ := h
  exact ⟨s, List.mem_of_mem_take hs, h⟩
set_option maxHeartbeats 2000000 in
theorem res_exists (R lo : Nat) (v : Value) (l : List SetD) (n : List UInt8) (cls : Int) (w : World) (hR : w.cell? ⟨R, 0, none⟩ = some v) (h : Sets w lo v l) (hbd : SetsBd l) (hn : n.length ≤ 1048576) :
    Calls Tryz.prog 88 #[.pointer (some ⟨R, 0, none⟩), S n, .int .u16 cls] w fun e w' => e = .returned (.bool (thereB l n cls)) ∧ Ext w w' := by
  obtain ⟨ps, A, c, hl, rfl, h1, h2, hrd, hst⟩ := h
  unfold maxLen at h2
  have hlen : ps.length = l.length := by rw [← hl]; simp
  have Hl := Lib.hid hl
  have Hlen := Lib.hid hlen
  have HEnd := Lib.hid (show thereB (l.take ps.length) n cls = thereB l n cls by rw [hlen, List.take_length])
  have HIn := Lib.hid (fun k (h : thereB (l.take k) n cls = true) => there_in h)
  have HSp := Lib.hid (fun k s (h : l[k]? = some s) => there_step (n := n) (cls := cls) h)
  have H0 := Lib.hid (show thereB (l.take 0) n cls = false from rfl)
  generalize hT : thereB l n cls = T at *
  clear hl hlen hT
  go_enter Tryz.func88, Tryz.ntmps88
  go_wp2_with fail
  go_loopw [8, 14] (fun _ s14 wr => ∃ k : Nat, k ≤ ps.length ∧ s14 = .int .i64 k ∧ thereB (l.take k) n cls = false ∧ Ext w wr) (fun _ s14 _ => ps.length - (intOf s14).toNat)
  case atStart => exact ⟨0, by omega, rfl, H0.out, Ext.refl _⟩
  case round =>
    obtain ⟨k, hk, rfl, hno, hE⟩ := hrel
    obtain ⟨wo, rfl⟩ : ∃ wo : World, wo = wr := ⟨_, rfl⟩
    by_cases hlt : k < ps.length
    · have hp : ps[k]? = some ps[k] := List.getElem?_eq_getElem hlt
      have hpl : l[k]? = some ps[k].1 := by rw [← Hl.out, List.getElem?_map, hp]; rfl
      have hbs := hbd ps[k].1 (List.mem_of_getElem? hpl)
      have hstr := hst ps[k] (List.getElem_mem hlt)
      have hS1 := HSp.out k _ hpl
      rw [hno, Bool.false_or] at hS1
      generalize ps[k] = p at *
      obtain ⟨b, off, rfl, _, hbz, hc⟩ := hrd.2 (by omega)
      obtain ⟨c0, c1, c2, c3, c4⟩ := sets_cells hc k p hp
      rw [← hE.cell (p := ⟨b, _, none⟩) hbz] at c0 c1 c2 c3 c4
      have hnm : p.1.name.length ≤ maxLen := by unfold maxLen; omega
      obtain ⟨⟨nm, ty, cl, tt, da⟩, d⟩ := p
      dsimp only at *
      obtain ⟨dA, dc, rfl⟩ := hstr.shape
      have HW := Lib.hid (fun W => name_within nm n W hnm (by unfold maxLen; omega))
      have HS1 := Lib.hid hS1
      have HInk := Lib.hid (HIn.out (k + 1))
      have HE := Lib.hid hE
      clear hc hp hpl hS1 hno hbs
      have hki : (k : Int) < (ps.length : Int) := by omega
      have hk0 : (0 : Int) ≤ (k : Int) := by omega
      by_cases hcl : cl = cls
      · subst hcl
        have f1 : (cl == cl) = true := by simp
        have HS2 := Lib.hid (show thereB (l.take (k + 1)) n cl = withinN nm n by rw [HS1.out, f1, Bool.true_and])
        go_wp2_with fail
        refine (HW.out _).mono ?_; rintro e w1 ⟨rfl, hE1⟩
        rcases hwi : withinN nm n with _ | _
        · have HS3 := Lib.hid (HS2.out.trans hwi)
          clear hwi
          go_wp2_with fail
          go_roundw
          case rel => exact ⟨k + 1, by omega, by go_num, HS3.out, (HE.out.alloc _).trans hE1⟩
          case measure => simp [intOf]; omega
        · have HS3 := Lib.hid (HInk.out (HS2.out.trans hwi))
          clear hwi
          go_wp2_with fail
          go_ret
          exact ⟨ret_bool HS3.out.symm, (HE.out.alloc _).trans hE1⟩
      · have f1 : (cl == cls) = false := by rw [beq_eq_false_iff_ne]; exact hcl
        have HS2 := Lib.hid (show thereB (l.take (k + 1)) n cls = false by rw [HS1.out, f1, Bool.false_and])
        clear hcl
        go_wp2_with fail
        go_roundw
        case rel => exact ⟨k + 1, by omega, by go_num, HS2.out, HE.out.alloc _⟩
        case measure => simp [intOf]; omega
    · obtain rfl : k = ps.length := by omega
      rw [HEnd.out] at hno
      have HNo := Lib.hid hno
      clear hno
      go_wp2_with fail
      go_ret
      exact ⟨ret_bool HNo.out.symm, hE⟩

def NewPost (l : List RecD) (w : World) (e : Ending) (w' : World) : Prop :=
  (l.all okRec = true ∧ ∃ (R : Nat) (gv : Value), e = .returned (.tuple #[.pointer (some ⟨R, 0, none⟩), .int .i64 0]) ∧ w.heap.size ≤ R ∧ w'.heap[R]? = some (.cells #[gv] 65) ∧ OSets w' w.heap.size gv (groupR l) ∧ Ext w w') ∨
  (l.all okRec = false ∧ e = .returned (.tuple #[.pointer none, .int .i64 1]) ∧ Ext w w')
theorem all_to {l : List RecD} {k : Nat} {r : RecD} (h : l[k]? = some r) : (l.take (k + 1)).all okRec = ((l.take k).all okRec && okRec r) := by
  obtain ⟨hk, rfl⟩ := List.getElem?_eq_some_iff.1 h
  rw [take_snoc l k hk, List.all_append]; simp
theorem all_no {l : List RecD} {k : Nat} (h : (l.take k).all okRec = false) : l.all okRec = false := by
  rw [← Bool.not_eq_true] at h ⊢
  intro e
  refine h ?_
  rw [List.all_eq_true] at e ⊢
  exact fun x hx => e x (List.mem_of_mem_take hx)
set_option maxHeartbeats 4000000 in
theorem res_new (lo : Nat) (v : Value) (l : List RecD) (w : World) (hg : Laid w) (h : Recs w lo v l) (hbd : RecsBd l) (hok : RecsOk l) :
    Calls Tryz.prog 17 #[v] w (NewPost l w) := by
  have HG := Lib.hid (fun W (hW : Ext w W) => rrset_groupR lo v l W (hg.ext hW) (h.ext hW) hbd hok)
  obtain ⟨A, c, rfl, h1, h2, hrd⟩ := h
  unfold maxLen at h2
  have hl4 := hbd.1
  have HBd := Lib.hid hbd.2
  have HEnd := Lib.hid (show (l.take l.length).all okRec = l.all okRec by rw [List.take_length])
  have HNo := Lib.hid (fun k (h : (l.take k).all okRec = false) => all_no h)
  have HSp := Lib.hid (fun k r (h : l[k]? = some r) => all_to h)
  have H0 := Lib.hid (show (l.take 0).all okRec = true from rfl)
  go_enter Tryz.func17, Tryz.ntmps17
  go_wp2_with fail
  go_loopw [2, 3, 5, 8] (fun s2 s3 _ s8 wr => ∃ k : Nat, k ≤ l.length ∧ s2 = .pointer none ∧ s3 = .int .i64 0 ∧ s8 = .int .i64 k ∧ (l.take k).all okRec = true ∧ Ext w wr) (fun _ _ _ s8 _ => l.length - (intOf s8).toNat)
  case atStart => exact ⟨0, by omega, rfl, rfl, rfl, H0.out, Ext.refl _⟩
  case round =>
    obtain ⟨k, hk, rfl, rfl, rfl, hall, hE⟩ := hrel
    obtain ⟨wo, rfl⟩ : ∃ wo : World, wo = wr := ⟨_, rfl⟩
    by_cases hlt : k < l.length
    · have hp : l[k]? = some l[k] := List.getElem?_eq_getElem hlt
      have hbs := HBd.out l[k] (List.getElem_mem hlt)
      have hS1 := HSp.out k _ hp
      rw [hall, Bool.true_and] at hS1
      have HS1 := Lib.hid hS1
      obtain ⟨b, off, rfl, _, hbz, hc⟩ := hrd.2 (by omega)
      obtain ⟨c0, c1, c2, c3, c4⟩ := recs_cells hc k l[k] hp
      generalize l[k] = r at *
      obtain ⟨nm, ty, cl, tt, da⟩ := r
      dsimp only at *
      rw [← hE.cell (p := ⟨b, _, none⟩) hbz] at c0 c1 c2 c3 c4
      have HM := Lib.hid (fun W => name_may nm W (by unfold maxLen; omega))
      have HR := Lib.hid (fun W (hW : Ext w W) => rdata_may ty da W (hg.ext hW) (by omega))
      have HOk : Hid (okRec ⟨nm, ty, cl, tt, da⟩ = (may nm && rmay ty da)) := rfl
      have HNk := Lib.hid (HNo.out (k + 1))
      clear hc hp hS1 hall hbs
      have hki : (k : Int) < (l.length : Int) := by omega
      have hk0 : (0 : Int) ≤ (k : Int) := by omega
      obtain ⟨X5, hX5⟩ : ∃ X5, X5 = wo.alloc (.cells #[S nm, .int .u16 ty, .int .u16 cl, .int .u32 tt, S da] 99) := ⟨_, rfl⟩
      obtain ⟨g, hgq⟩ : ∃ g, g = wo.heap.size := ⟨_, rfl⟩
      have r5 : X5.heap[g]? = some (.cells #[S nm, .int .u16 ty, .int .u16 cl, .int .u32 tt, S da] 99) := by rw [hX5, hgq]; exact heap_alloc_new _ _
      have hE5 : Ext w X5 := by rw [hX5]; exact hE.alloc _
      go_upto_region 4 with fail
      rw [← hX5, ← hgq]
      clear hX5 hgq c0 c1 c2 c3 c4
      have k0 := box_cell (j := 0) r5 rfl
      rcases hm : may nm with _ | _
      · rw [hm] at HM HOk
        clear hm
        go_wp2_with fail
        refine (HM.out _).mono ?_; rintro e w1 ⟨rfl, rfl⟩
        go_wp2_with fail
        go_ret2
        exact .inr ⟨HNk.out (HS1.out.trans HOk.out), rfl, hE5⟩
      · rw [hm] at HM HOk
        clear hm
        go_wp2_with fail
        refine (HM.out _).mono ?_; rintro e w1 ⟨rfl, rfl⟩
        clear k0
        have k1 := box_cell (j := 1) r5 rfl
        have k4 := box_cell (j := 4) r5 rfl
        rcases hr : rmay ty da with _ | _
        · rw [hr] at HR HOk
          clear hr
          go_wp2_with fail
          refine (HR.out _ hE5).mono ?_; rintro e w2 ⟨rfl, hE2⟩
          go_wp2_with fail
          go_ret2
          exact .inr ⟨HNk.out (HS1.out.trans HOk.out), rfl, hE5.trans hE2⟩
        · rw [hr] at HR HOk
          clear hr
          go_wp2_with fail
          refine (HR.out _ hE5).mono ?_; rintro e w2 ⟨rfl, hE2⟩
          go_wp2_with fail
          go_roundw
          case rel => exact ⟨k + 1, by omega, rfl, rfl, by go_num, HS1.out.trans HOk.out, hE5.trans hE2⟩
          case measure => simp [intOf]; omega
    · obtain rfl : k = l.length := by omega
      rw [HEnd.out] at hall
      have HA := Lib.hid hall
      clear hall
      have h65 : ¬ (65535 : Int) < (l.length : Int) := by omega
      go_wp2_with fail
      refine (HG.out _ hE).mono ?_; rintro e w1 ⟨gv, rfl, ho, hE1⟩
      have HO := Lib.hid ho
      obtain ⟨qs, gA, gc, _, rfl, _, _⟩ := ho
      go_wp2_with fail
      go_ret2
      exact .inl ⟨HA.out, _, _, rfl, (hE.trans hE1).size, heap_alloc_new _ _, ((HO.out.lower hE.size).ext ((Ext.refl _).alloc _)), (hE.trans hE1).alloc _⟩
theorem setRow_otherR (w : World) (g : Nat) (cs : Array Value) (k : Nat) (h : k ≠ g) : (w.setRow g cs).heap[k]? = w.heap[k]? := by
  show (w.heap.modify g _)[k]? = _
  rw [Array.getElem?_modify, if_neg (fun e => h e.symm)]
theorem ext_setRowR {X w : World} (hE : Ext X w) {g : Nat} (hg : X.heap.size ≤ g) (cs : Array Value) : Ext X (w.setRow g cs) :=
  ⟨hE.os, hE.tape, hE.output, by have := hE.size; simpa [World.setRow] using this, fun k hk => (setRow_otherR w g cs k (by omega)).trans (hE.block k hk)⟩
theorem Sets.nil (w : World) (lo : Nat) : Sets w lo (.slice none 0 0) [] := (OSets.nil w lo).sets
theorem sets_one {W : World} {g : Nat} {s : SetD} {dv : Value} {t : TypeId} (hr : W.heap[g]? = some (.cells #[S s.name, .int .u16 s.typ, .int .u16 s.cls, .int .u32 s.ttl, dv] t)) (hd : Strs W 0 dv s.data) : Sets W 0 (.slice (some ⟨g, 0, none⟩) 1 1) [s] :=
  ⟨[(s, dv)], _, 1, rfl, rfl, Nat.le_refl _, by unfold maxLen; decide, ⟨rfl, fun _ => ⟨g, 0, rfl, Nat.zero_le _, (Array.getElem?_eq_some_iff.1 hr).1, fun j u hu => by
    rw [Nat.zero_add]
    exact box_cell (j := j) hr (by simpa [setCells] using hu)⟩⟩, fun p hp => by rw [List.mem_singleton] at hp; subst hp; exact hd⟩
def LookRPost (R : ResR) (w : World) (e : Ending) (w' : World) : Prop :=
  ∃ va vu, e = .returned (.tuple #[.int .u8 R.code, va, vu]) ∧ Sets w' 0 va R.ans ∧ Sets w' 0 vu R.auth ∧ Ext w w'
set_option maxHeartbeats 4000000 in
theorem res_look (R lo : Nat) (v : Value) (L : List SetD) (n : List UInt8) (ty cls : Int) (w : World) (hg : Laid w) (hR : w.cell? ⟨R, 0, none⟩ = some v) (hS : Sets w lo v L) (hbd : SetsBd L) (hn : n.length ≤ 1048576) :
    Calls Tryz.prog 42 #[.pointer (some ⟨R, 0, none⟩), .agg #[S n, .int .u16 ty, .int .u16 cls]] w (LookRPost (rlookOf L n ty cls) w) := by
  unfold LookRPost rlookOf
  obtain ⟨sA, sc, sn, rfl⟩ : ∃ sA sc sn, v = .slice sA sn sc := by obtain ⟨ps, A, c, _, e, _⟩ := hS; exact ⟨A, c, ps.length, e⟩
  have hRw : R < w.heap.size := by
    rcases Nat.lt_or_ge R w.heap.size with h | h
    · exact h
    · simp [World.cell?, Array.getElem?_eq_none h] at hR
  have HF := Lib.hid (fun V (hV : Ext w V) => chain_follow lo n ty cls (.slice sA sn sc) L V (hg.ext hV) (hS.ext hV) hbd hn)
  have HIn := Lib.hid (follow_in L n ty cls)
  have HHe := Lib.hid (follow_here n ty cls L)
  generalize followOf n ty cls L = FR at *
  obtain ⟨X0, hX0⟩ : ∃ X0, X0 = w.alloc (.cells #[S n, .int .u16 ty, .int .u16 cls] 32) := ⟨_, rfl⟩
  obtain ⟨g3, hg3⟩ : ∃ g3, g3 = w.heap.size := ⟨_, rfl⟩
  have r3 : X0.heap[g3]? = some (.cells #[S n, .int .u16 ty, .int .u16 cls] 32) := by rw [hX0, hg3]; exact heap_alloc_new _ _
  have hE0 : Ext w X0 := by rw [hX0]; exact (Ext.refl _).alloc _
  have keep1 : ∀ {V : World}, Ext X0 V → V.cell? ⟨g3, 0, none⟩ = some (S n) ∧ V.cell? ⟨g3, 1, none⟩ = some (.int .u16 ty) ∧ V.cell? ⟨g3, 2, none⟩ = some (.int .u16 cls) ∧ V.cell? ⟨R, 0, none⟩ = some (.slice sA sn sc) := fun hV => by
    have r := (hV.block _ (Array.getElem?_eq_some_iff.1 r3).1).trans r3
    exact ⟨box_cell r rfl, box_cell r rfl, box_cell r rfl, ((hE0.trans hV).cell (p := ⟨R, 0, none⟩) hRw).trans hR⟩
  go_enter Tryz.func42, Tryz.ntmps42
  go_upto_region 1 with fail
  rw [← hX0, ← hg3]
  clear hX0 hg3
  have HS1 := Lib.hid (fun V (hV : Ext X0 V) => keep1 hV)
  refine wp_region_noPanic ?_
  refine wp_region_tree (S := (fun V => V.cell? ⟨g3, 0, none⟩ = some (S n) ∧ V.cell? ⟨g3, 1, none⟩ = some (.int .u16 ty) ∧ V.cell? ⟨g3, 2, none⟩ = some (.int .u16 cls) ∧ V.cell? ⟨R, 0, none⟩ = some (.slice sA sn sc))) (.take 0 (.take 1 (.take 2 (.take 3 (.take 4 (.run 5 (.take 6 (.take 7 (.take 8 (.take 9 (.take 10 (.take 11 (.take 12 (.take 13 (.take 14 (.done)))))))))))))))) (by kernel_rfl) (by kernel_rfl) (fun _ _ _ _ _ h => h) ((HS1.out _ (Ext.refl X0).drew)) ?_
  repeat ((with_reducible refine treeIs ?_); first
    | (refine treeTakeX (a' := ?_) ⟨_, (HS1.out _ (Ext.refl X0).drew)⟩ (by rfl) rfl (by kernel_rfl) rfl ?_ ?_; rotate_left; (focus (intro V Q' hV hq; obtain ⟨hV1, hV2, hV3, hV4⟩ := hV; (repeat (first | go_guarded | go_skip | go_step)); (first | exact hq | exact wpList_nil hq))))
    | (refine treeTake (v := ?_) (by rfl) (by rfl) ?_ ?_; rotate_left; (focus (intro V hV; obtain ⟨hV1, hV2, hV3, hV4⟩ := hV; (go_simp <;> with_reducible rfl))); (try simp only [Act.put, List.setIfInBounds_toArray, List.set_cons_zero, List.set_cons_succ])))
  refine treeRun (by rfl) (fun K hK => ?_)
  go_simp
  refine (HF.out _ (hE0.trans ((Ext.refl X0).drew))).mono ?_
  rintro e w1 ⟨vp, u, wm, rfl, hop, hEm, hof, hE1⟩
  obtain ⟨ps, pA, pc, hpe, rfl, hpo, hps⟩ := hop
  obtain ⟨os, oA, oc, hoe, rfl, hoo, hos⟩ := hof
  have hEX : Ext X0 w1 := (((Ext.refl X0).drew).trans hEm).trans hE1
  have hwm : w.heap.size ≤ wm.heap.size := ((hE0.trans ((Ext.refl X0).drew)).trans hEm).size
  have hpo := (hpo.ext hE1).lower ((hE0.trans ((Ext.refl X0).drew)).size)
  have hoo := hoo.lower hwm
  have hps : ∀ p ∈ ps, OStrs w1 w.heap.size p.2 p.1.data := fun p hp => ((hps p hp).ext hE1).lower ((hE0.trans ((Ext.refl X0).drew)).size)
  have hos : ∀ p ∈ os, OStrs w1 w.heap.size p.2 p.1.data := fun p hp => (hos p hp).lower hwm
  refine hK.out _ _ ?_ ?_
  · exact (HS1.out _ hEX)
  clear hK K
  (try simp only [Act.put, List.setIfInBounds_toArray, List.set_cons_zero, List.set_cons_succ])
  repeat ((with_reducible refine treeIs ?_); first
    | (refine treeTakeX (a' := ?_) ⟨_, (HS1.out _ (Ext.refl X0).drew)⟩ (by rfl) rfl (by kernel_rfl) rfl ?_ ?_; rotate_left; (focus (intro V Q' hV hq; obtain ⟨hV1, hV2, hV3, hV4⟩ := hV; (repeat (first | go_guarded | go_skip | go_step)); (first | exact hq | exact wpList_nil hq))))
    | (refine treeTake (v := ?_) (by rfl) (by rfl) ?_ ?_; rotate_left; (focus (intro V hV; obtain ⟨hV1, hV2, hV3, hV4⟩ := hV; (go_simp <;> with_reducible rfl))); (try simp only [Act.put, List.setIfInBounds_toArray, List.set_cons_zero, List.set_cons_succ])))
  refine treeDone ?_
  refine NoPanic.normal ?_
  have hE1w : Ext w w1 := hE0.trans hEX
  have HPs := Lib.hid (And.intro hpe (And.intro hpo hps))
  have HOs := Lib.hid (And.intro hoe (And.intro hoo hos))
  have HEx := Lib.hid hEX
  clear hps hos hpo hoo hE1 hEm hEX hwm
  by_cases he : FR.err = 0
  rotate_left
  · have hei : ((FR.err : Int) != 0) = true := by simpa using he
    have HR := Lib.hid (show rlookF L cls FR = ⟨2, [], []⟩ from if_neg he)
    clear he
    go_wp2_with fail
    go_ret3
    exact ⟨.slice none 0 0, .slice none 0 0, by rw [HR.out]; rfl, by rw [HR.out]; exact Sets.nil _ _, by rw [HR.out]; exact Sets.nil _ _, hE1w⟩
  have hei : ((FR.err : Int) != 0) = false := by rw [he]; rfl
  have HFe := Lib.hid he
  clear he
  have hpl : ps.length = FR.path.length := by rw [← hpe, List.length_map]
  have hol : os.length = FR.fin.length := by rw [← hoe, List.length_map]
  have HLn := Lib.hid (And.intro hpl hol)
  have hp64 : ps.length ≤ 64 := by have := HIn.out.len; omega
  have ho64 : os.length ≤ 64 := by have := HIn.out.one; omega
  obtain ⟨X4, hX4⟩ : ∃ X4, X4 = w1.alloc (.cells #[.slice pA ps.length pc, .slice oA os.length oc] 22) := ⟨_, rfl⟩
  obtain ⟨g4, hg4⟩ : ∃ g4, g4 = w1.heap.size := ⟨_, rfl⟩
  have r4 : X4.heap[g4]? = some (.cells #[.slice pA ps.length pc, .slice oA os.length oc] 22) := by rw [hX4, hg4]; exact heap_alloc_new _ _
  have hE4 : Ext w1 X4 := by rw [hX4]; exact (Ext.refl _).alloc _
  have HCt := Lib.hid (sets_concat g4 pA oA pc oc w.heap.size ps os X4 (box_cell (j := 0) r4 rfl) (box_cell (j := 1) r4 rfl) (HPs.out.2.1.rd.ext hE4) (HOs.out.2.1.rd.ext hE4)
    (fun p hp => by obtain ⟨A', c', e', _⟩ := HPs.out.2.2 p hp; rw [e']; rfl) (fun p hp => by obtain ⟨A', c', e', _⟩ := HOs.out.2.2 p hp; rw [e']; rfl) hp64 ho64)
  clear hpl hol hp64 ho64
  go_wp2_with fail
  rw [← hX4, ← hg4]
  refine HCt.out.mono ?_
  rintro e w5 ⟨nA, nc, rfl, hno, hE45⟩
  have hE5 : Ext w w5 := (hE1w.trans hE4).trans hE45
  have hw5 : w.heap.size ≤ X4.heap.size := (hE1w.trans hE4).size
  have HAn := Lib.hid (show OSets w5 w.heap.size (.slice nA (ps.length + os.length) nc) (FR.path ++ FR.fin) from
    ⟨ps ++ os, nA, nc, by rw [List.map_append, HPs.out.1, HOs.out.1], by rw [List.length_append], by rw [List.length_append]; exact hno.lower hw5, fun p hp => by
      rcases List.mem_append.1 hp with h' | h'
      · exact (HPs.out.2.2 p h').ext (hE4.trans hE45)
      · exact (HOs.out.2.2 p h').ext (hE4.trans hE45)⟩)
  clear hX4 hg4 hno r4 hw5
  rcases hfin : FR.fin with _ | ⟨f0, fr⟩
  rotate_left
  · have hl0 : (0 : Int) < (os.length : Int) := by have h := HLn.out.2; rw [hfin, List.length_cons] at h; omega
    have HR := Lib.hid (show rlookF L cls FR = ⟨0, FR.path ++ FR.fin, []⟩ from by unfold rlookF; rw [if_pos HFe.out, if_neg (by rw [hfin]; simp)])
    clear hfin
    go_wp2_with fail
    go_ret3
    exact ⟨.slice nA (ps.length + os.length) nc, .slice none 0 0, by rw [HR.out]; rfl, by rw [HR.out]; exact HAn.out.sets.lower (Nat.zero_le _), by rw [HR.out]; exact Sets.nil _ _, hE5⟩
  have hl0 : ¬ (0 : Int) < (os.length : Int) := by have h := HLn.out.2; rw [hfin, List.length_nil] at h; omega
  have HR := Lib.hid (show rlookF L cls FR = (if (soaFind L FR.here cls).err = 0 then ⟨if thereB L FR.here cls = true then 0 else 3, FR.path, (soaFind L FR.here cls).set.toList⟩ else ⟨2, [], []⟩) from by unfold rlookF; rw [if_pos HFe.out, if_pos hfin])
  have HAn2 := Lib.hid (show OSets w5 w.heap.size (.slice nA (ps.length + os.length) nc) FR.path from by have h := HAn.out; rw [hfin, List.append_nil] at h; exact h)
  clear hfin
  have HSo := Lib.hid (fun V (hV : Ext w V) => soa_find lo (.slice sA sn sc) L FR.here cls V (hS.ext hV) hbd (by have := HHe.out; unfold maxLen; omega))
  have HEs := Lib.hid (fun V (hV : Ext w V) => res_exists R lo (.slice sA sn sc) L FR.here cls V ((hV.cell (p := ⟨R, 0, none⟩) hRw).trans hR) (hS.ext hV) hbd (by have := HHe.out; omega))
  generalize soaFind L FR.here cls = SR at *
  obtain ⟨sx, hsx⟩ : ∃ sx, sx = SR.set.getD SetD.zero := ⟨_, rfl⟩
  have HSx := Lib.hid hsx
  unfold SoaPost at HSo
  rw [← hsx] at HSo
  clear hsx
  obtain ⟨ssome, hsome⟩ : ∃ b, b = SR.set.isSome := ⟨_, rfl⟩
  have HSm := Lib.hid hsome
  rw [← hsome] at HSo
  clear hsome
  obtain ⟨serr, hserr⟩ : ∃ e : Int, e = (SR.err : Int) := ⟨_, rfl⟩
  have HSe := Lib.hid hserr
  rw [← hserr] at HSo
  clear hserr
  have hE15 : Ext w1 w5 := hE4.trans hE45
  have r35 := ((HEx.out.trans hE15).block _ (Array.getElem?_eq_some_iff.1 r3).1).trans r3
  have HS7 := Lib.hid (fun V (hV : Ext w5 V) => (show V.cell? ⟨g3, 2, none⟩ = some (.int .u16 cls) ∧ V.cell? ⟨R, 0, none⟩ = some (.slice sA sn sc) from
    ⟨box_cell ((hV.block _ (Array.getElem?_eq_some_iff.1 r35).1).trans r35) rfl, ((hE5.trans hV).cell (p := ⟨R, 0, none⟩) hRw).trans hR⟩))
  go_upto_region 7 with fail
  go_cut [10, 11, 12] (fun s10 s11 s12 wx => ∃ (g : Nat) (dA : Option Addr) (dc : Nat), s10 = .int .i64 serr ∧ s11 = .pointer (some ⟨g, 0, none⟩) ∧ s12 = .bool ssome ∧ wx.heap[g]? = some (.cells #[S sx.name, .int .u16 sx.typ, .int .u16 sx.cls, .int .u32 sx.ttl, .slice dA sx.data.length dc] 79) ∧ OStrs wx w.heap.size (.slice dA sx.data.length dc) sx.data ∧ Ext w5 wx)
  case first =>
    refine wp_region_noPanic ?_
    refine wp_region_tree (S := (fun V => V.cell? ⟨g3, 2, none⟩ = some (.int .u16 cls) ∧ V.cell? ⟨R, 0, none⟩ = some (.slice sA sn sc))) (.take 0 (.take 1 (.take 2 (.take 3 (.take 4 (.take 5 (.take 6 (.run2 7 (.take 8 (.take 9 (.take 10 (.take 11 (.run 12 (.run 13 (.take 14 (.take 15 (.done))))))))) 12 (.run 7 (.take 8 (.take 9 (.take 10 (.take 11 (.run 13 (.take 14 (.take 15 (.done))))))))))))))))) (by kernel_rfl) (by kernel_rfl) (fun _ _ _ _ _ h => h) ((HS7.out _ (Ext.refl w5).drew)) ?_
    repeat ((with_reducible refine treeIs ?_); first
      | (refine treeTakeX (a' := ?_) ⟨_, (HS7.out _ (Ext.refl w5).drew)⟩ (by rfl) rfl (by kernel_rfl) rfl ?_ ?_; rotate_left; (focus (intro V Q' hV hq; obtain ⟨hV1, hV2⟩ := hV; (repeat (first | go_guarded | go_skip | go_step)); (first | exact hq | exact wpList_nil hq))))
      | (refine treeTake (v := ?_) (by rfl) (by rfl) ?_ ?_; rotate_left; (focus (intro V hV; obtain ⟨hV1, hV2⟩ := hV; (go_simp <;> with_reducible rfl))); (try simp only [Act.put, List.setIfInBounds_toArray, List.set_cons_zero, List.set_cons_succ])))
    refine treeRun2 ?_ ?_
    · refine treeRun (by rfl) (fun K hK => ?_)
      go_simp
      refine (HSo.out _ (hE5.trans ((Ext.refl w5).drew))).mono ?_
      rintro e w7 ⟨dv, rfl, hdo, hEq⟩
      have hE7 : Ext w5 w7 := ((Ext.refl w5).drew).trans hEq
      have HDo := Lib.hid (hdo.lower ((hE5.trans ((Ext.refl w5).drew)).size))
      obtain ⟨dA, dc, rfl, _⟩ := hdo
      clear hEq
      refine hK.out _ _ ?_ ?_
      · exact (HS7.out _ hE7)
      clear hK K
      (try simp only [Act.put, List.setIfInBounds_toArray, List.set_cons_zero, List.set_cons_succ])
      repeat ((with_reducible refine treeIs ?_); first
        | (refine treeTakeX (a' := ?_) ⟨_, (HS7.out _ (Ext.refl w5).drew)⟩ (by rfl) rfl (by kernel_rfl) rfl ?_ ?_; rotate_left; (focus (intro V Q' hV hq; obtain ⟨hV1, hV2⟩ := hV; (repeat (first | go_guarded | go_skip | go_step)); (first | exact hq | exact wpList_nil hq))))
        | (refine treeTake (v := ?_) (by rfl) (by rfl) ?_ ?_; rotate_left; (focus (intro V hV; obtain ⟨hV1, hV2⟩ := hV; (go_simp <;> with_reducible rfl))); (try simp only [Act.put, List.setIfInBounds_toArray, List.set_cons_zero, List.set_cons_succ])))
      refine treeRun (by rfl) (fun K hK => ?_)
      go_simp
      obtain ⟨g11, hg11⟩ : ∃ g11, g11 = (w7).heap.size := ⟨_, rfl⟩
      have ra : ((w7).alloc (.cells #[.string ⟨#[]⟩, .int .u16 0, .int .u16 0, .int .u32 0, .slice none 0 0] 79)).heap[g11]? = some (.cells #[.string ⟨#[]⟩, .int .u16 0, .int .u16 0, .int .u32 0, .slice none 0 0] 79) := by rw [hg11]; exact heap_alloc_new _ _
      have hE12 : Ext w5 ((w7).alloc (.cells #[.string ⟨#[]⟩, .int .u16 0, .int .u16 0, .int .u32 0, .slice none 0 0] 79)) := (hE7).trans ((Ext.refl _).alloc _)
      have hg11w : w5.heap.size ≤ g11 := by rw [hg11]; exact (hE7).size
      have HDo := Lib.hid (HDo.out.ext (show Ext (w7) ((w7).alloc (.cells #[.string ⟨#[]⟩, .int .u16 0, .int .u16 0, .int .u32 0, .slice none 0 0] 79)) from (Ext.refl _).alloc _))
      obtain ⟨wa, hwa⟩ : ∃ wa, wa = (w7).alloc (.cells #[.string ⟨#[]⟩, .int .u16 0, .int .u16 0, .int .u32 0, .slice none 0 0] 79) := ⟨_, rfl⟩
      try rw [← hwa]
      try rw [← hg11]
      rw [← hwa] at ra hE12
      rw [← hwa] at HDo
      clear hwa hg11
      refine hK.out _ _ ?_ ?_
      · exact (HS7.out _ hE12)
      clear hK K
      (try simp only [Act.put, List.setIfInBounds_toArray, List.set_cons_zero, List.set_cons_succ])
      refine treeRunX (by rfl) (fun Q' hQ hP => ?_)
      refine Go.wpList_store_rowTo rfl 79 (.tmp 11) (.tmp 43) rfl rfl g11 #[S sx.name, .int .u16 sx.typ, .int .u16 sx.cls, .int .u32 sx.ttl, .slice dA sx.data.length dc] rfl rfl 79 _ ra (by kernel_rfl) rfl (by kernel_rfl) ?_
      have rr := setRow_heap (wa) g11 _ #[S sx.name, .int .u16 sx.typ, .int .u16 sx.cls, .int .u32 sx.ttl, .slice dA sx.data.length dc] _ _ ra
      have hEr : Ext w5 (World.setRow (wa) g11 #[S sx.name, .int .u16 sx.typ, .int .u16 sx.cls, .int .u32 sx.ttl, .slice dA sx.data.length dc]) := ext_setRowR (hE12) hg11w _
      have HDr := Lib.hid (show OStrs (World.setRow (wa) g11 #[S sx.name, .int .u16 sx.typ, .int .u16 sx.cls, .int .u32 sx.ttl, .slice dA sx.data.length dc]) w.heap.size (.slice dA sx.data.length dc) sx.data from by
        obtain ⟨A', c', e', ho⟩ := HDo.out
        refine ⟨A', c', e', ho.kept (grown_row (wa) g11 #[S sx.name, .int .u16 sx.typ, .int .u16 sx.cls, .int .u32 sx.ttl, .slice dA sx.data.length dc]) ?_⟩
        rcases ho.2 with ⟨h1, _⟩ | ⟨g', cap, cur, h1, _, hg', _⟩
        · rw [h1]; exact .inl rfl
        · refine .inr fun he => ?_
          rw [h1] at he
          injection he with he
          have he' : g' = g11 := he
          rw [he', ra] at hg'
          injection hg' with hg'; injection hg' with _ h2 _; exact absurd h2 (by decide))
      obtain ⟨wr, hwr⟩ : ∃ wr, wr = World.setRow (wa) g11 #[S sx.name, .int .u16 sx.typ, .int .u16 sx.cls, .int .u32 sx.ttl, .slice dA sx.data.length dc] := ⟨_, rfl⟩
      rw [← hwr] at rr hEr HDr ⊢
      clear hwr
      refine wpList_nil ?_
      refine hQ.out _ _ (HS7.out _ hEr) ?_
      clear hQ hP Q'
      (try simp only [Act.put, List.setIfInBounds_toArray, List.set_cons_zero, List.set_cons_succ])
      repeat ((with_reducible refine treeIs ?_); first
        | (refine treeTakeX (a' := ?_) ⟨_, (HS7.out _ (Ext.refl w5).drew)⟩ (by rfl) rfl (by kernel_rfl) rfl ?_ ?_; rotate_left; (focus (intro V Q' hV hq; obtain ⟨hV1, hV2⟩ := hV; (repeat (first | go_guarded | go_skip | go_step)); (first | exact hq | exact wpList_nil hq))))
        | (refine treeTake (v := ?_) (by rfl) (by rfl) ?_ ?_; rotate_left; (focus (intro V hV; obtain ⟨hV1, hV2⟩ := hV; (go_simp <;> with_reducible rfl))); (try simp only [Act.put, List.setIfInBounds_toArray, List.set_cons_zero, List.set_cons_succ])))
      refine treeDone ?_
      refine NoPanic.normal ?_
      go_wp2_with fail
      go_meet
      exact ⟨g11, dA, dc, rfl, rfl, rfl, rr, HDr.out, hEr⟩
    · refine treeRun (by rfl) (fun K hK => ?_)
      go_simp
      obtain ⟨g11, hg11⟩ : ∃ g11, g11 = w5.heap.size := ⟨_, rfl⟩
      have ra : ((w5.alloc (.cells #[.string ⟨#[]⟩, .int .u16 0, .int .u16 0, .int .u32 0, .slice none 0 0] 79)).drew).heap[g11]? = some (.cells #[.string ⟨#[]⟩, .int .u16 0, .int .u16 0, .int .u32 0, .slice none 0 0] 79) := by rw [hg11]; exact heap_alloc_new _ _
      have hE12 : Ext w5 ((w5.alloc (.cells #[.string ⟨#[]⟩, .int .u16 0, .int .u16 0, .int .u32 0, .slice none 0 0] 79)).drew) := ((Ext.refl w5).alloc _).drew
      have hg11w : w5.heap.size ≤ g11 := by rw [hg11]; exact Nat.le_refl _
      obtain ⟨wa, hwa⟩ : ∃ wa, wa = (w5.alloc (.cells #[.string ⟨#[]⟩, .int .u16 0, .int .u16 0, .int .u32 0, .slice none 0 0] 79)).drew := ⟨_, rfl⟩
      try rw [← hwa]
      try rw [← hg11]
      rw [← hwa] at ra hE12
      clear hwa hg11
      refine hK.out _ _ ?_ ?_
      · exact (HS7.out _ hE12)
      clear hK K
      (try simp only [Act.put, List.setIfInBounds_toArray, List.set_cons_zero, List.set_cons_succ])
      refine treeRun (by rfl) (fun K hK => ?_)
      go_simp
      refine (HSo.out _ (hE5.trans (hE12))).mono ?_
      rintro e w7 ⟨dv, rfl, hdo, hEq⟩
      have hE7 : Ext w5 w7 := (hE12).trans hEq
      have HDo := Lib.hid (hdo.lower ((hE5.trans (hE12)).size))
      obtain ⟨dA, dc, rfl, _⟩ := hdo
      have ra := (hEq.block _ (Array.getElem?_eq_some_iff.1 ra).1).trans ra
      clear hEq
      refine hK.out _ _ ?_ ?_
      · exact (HS7.out _ hE7)
      clear hK K
      (try simp only [Act.put, List.setIfInBounds_toArray, List.set_cons_zero, List.set_cons_succ])
      repeat ((with_reducible refine treeIs ?_); first
        | (refine treeTakeX (a' := ?_) ⟨_, (HS7.out _ (Ext.refl w5).drew)⟩ (by rfl) rfl (by kernel_rfl) rfl ?_ ?_; rotate_left; (focus (intro V Q' hV hq; obtain ⟨hV1, hV2⟩ := hV; (repeat (first | go_guarded | go_skip | go_step)); (first | exact hq | exact wpList_nil hq))))
        | (refine treeTake (v := ?_) (by rfl) (by rfl) ?_ ?_; rotate_left; (focus (intro V hV; obtain ⟨hV1, hV2⟩ := hV; (go_simp <;> with_reducible rfl))); (try simp only [Act.put, List.setIfInBounds_toArray, List.set_cons_zero, List.set_cons_succ])))
      refine treeRunX (by rfl) (fun Q' hQ hP => ?_)
      refine Go.wpList_store_rowTo rfl 79 (.tmp 11) (.tmp 43) rfl rfl g11 #[S sx.name, .int .u16 sx.typ, .int .u16 sx.cls, .int .u32 sx.ttl, .slice dA sx.data.length dc] rfl rfl 79 _ ra (by kernel_rfl) rfl (by kernel_rfl) ?_
      have rr := setRow_heap (w7) g11 _ #[S sx.name, .int .u16 sx.typ, .int .u16 sx.cls, .int .u32 sx.ttl, .slice dA sx.data.length dc] _ _ ra
      have hEr : Ext w5 (World.setRow (w7) g11 #[S sx.name, .int .u16 sx.typ, .int .u16 sx.cls, .int .u32 sx.ttl, .slice dA sx.data.length dc]) := ext_setRowR (hE7) hg11w _
      have HDr := Lib.hid (show OStrs (World.setRow (w7) g11 #[S sx.name, .int .u16 sx.typ, .int .u16 sx.cls, .int .u32 sx.ttl, .slice dA sx.data.length dc]) w.heap.size (.slice dA sx.data.length dc) sx.data from by
        obtain ⟨A', c', e', ho⟩ := HDo.out
        refine ⟨A', c', e', ho.kept (grown_row (w7) g11 #[S sx.name, .int .u16 sx.typ, .int .u16 sx.cls, .int .u32 sx.ttl, .slice dA sx.data.length dc]) ?_⟩
        rcases ho.2 with ⟨h1, _⟩ | ⟨g', cap, cur, h1, _, hg', _⟩
        · rw [h1]; exact .inl rfl
        · refine .inr fun he => ?_
          rw [h1] at he
          injection he with he
          have he' : g' = g11 := he
          rw [he', ra] at hg'
          injection hg' with hg'; injection hg' with _ h2 _; exact absurd h2 (by decide))
      obtain ⟨wr, hwr⟩ : ∃ wr, wr = World.setRow (w7) g11 #[S sx.name, .int .u16 sx.typ, .int .u16 sx.cls, .int .u32 sx.ttl, .slice dA sx.data.length dc] := ⟨_, rfl⟩
      rw [← hwr] at rr hEr HDr ⊢
      clear hwr
      refine wpList_nil ?_
      refine hQ.out _ _ (HS7.out _ hEr) ?_
      clear hQ hP Q'
      (try simp only [Act.put, List.setIfInBounds_toArray, List.set_cons_zero, List.set_cons_succ])
      repeat ((with_reducible refine treeIs ?_); first
        | (refine treeTakeX (a' := ?_) ⟨_, (HS7.out _ (Ext.refl w5).drew)⟩ (by rfl) rfl (by kernel_rfl) rfl ?_ ?_; rotate_left; (focus (intro V Q' hV hq; obtain ⟨hV1, hV2⟩ := hV; (repeat (first | go_guarded | go_skip | go_step)); (first | exact hq | exact wpList_nil hq))))
        | (refine treeTake (v := ?_) (by rfl) (by rfl) ?_ ?_; rotate_left; (focus (intro V hV; obtain ⟨hV1, hV2⟩ := hV; (go_simp <;> with_reducible rfl))); (try simp only [Act.put, List.setIfInBounds_toArray, List.set_cons_zero, List.set_cons_succ])))
      refine treeDone ?_
      refine NoPanic.normal ?_
      go_wp2_with fail
      go_meet
      exact ⟨g11, dA, dc, rfl, rfl, rfl, rr, HDr.out, hEr⟩
  case rest =>
    obtain ⟨g11, dA, dc, rfl, rfl, rfl, rr, hdo, hE6⟩ := hcut
    obtain ⟨W6, rfl⟩ : ∃ W6 : World, W6 = wc := ⟨_, rfl⟩
    have HDo := Lib.hid hdo
    clear hdo
    by_cases he : SR.err = 0
    rotate_left
    · have hei2 : (serr != 0) = true := by rw [HSe.out]; simpa using he
      have HR3 := Lib.hid (show rlookF L cls FR = ⟨2, [], []⟩ from by rw [HR.out, if_neg he])
      clear he
      go_wp2_with fail
      go_ret3
      exact ⟨.slice none 0 0, .slice none 0 0, by rw [HR3.out]; rfl, by rw [HR3.out]; exact Sets.nil _ _, by rw [HR3.out]; exact Sets.nil _ _, hE5.trans hE6⟩
    have hei2 : (serr != 0) = false := by rw [HSe.out, he]; rfl
    have HEr := Lib.hid he
    clear he
    obtain ⟨q2, q3⟩ := HS7.out _ hE6
    rcases hss : ssome with _ | _
    · have HN := Lib.hid (show SR.set.toList = [] from by
        have h := HSm.out; rw [hss] at h
        rcases hs : SR.set with _ | s
        · rfl
        · rw [hs] at h; cases h)
      clear hss
      go_wp2_with fail
      refine (HEs.out _ (hE5.trans (hE6))).mono ?_
      rintro e w8 ⟨rfl, hE8⟩
      have hE58 : Ext w5 w8 := (hE6).trans hE8
      rcases hth : thereB L FR.here cls with _ | _
      · have HR3 := Lib.hid (show rlookF L cls FR = ⟨3, FR.path, SR.set.toList⟩ from by rw [HR.out, if_pos HEr.out, if_neg (by rw [hth]; simp)])
        clear hth
        go_wp2_with fail
        go_ret3
        exact ⟨.slice nA (ps.length + os.length) nc, .slice none 0 0, by rw [HR3.out]; rfl, by rw [HR3.out]; exact (HAn2.out.sets.lower (Nat.zero_le _)).ext hE58, by rw [HR3.out]; exact (by rw [HN.out]; exact Sets.nil _ _), hE5.trans hE58⟩
      · have HR3 := Lib.hid (show rlookF L cls FR = ⟨0, FR.path, SR.set.toList⟩ from by rw [HR.out, if_pos HEr.out, if_pos hth])
        clear hth
        go_wp2_with fail
        go_ret3
        exact ⟨.slice nA (ps.length + os.length) nc, .slice none 0 0, by rw [HR3.out]; rfl, by rw [HR3.out]; exact (HAn2.out.sets.lower (Nat.zero_le _)).ext hE58, by rw [HR3.out]; exact (by rw [HN.out]; exact Sets.nil _ _), hE5.trans hE58⟩
    · have HN := Lib.hid (show SR.set.toList = [sx] from by
        have h := HSm.out; rw [hss] at h
        have h2 := HSx.out
        rcases hs : SR.set with _ | s
        · rw [hs] at h; cases h
        · rw [hs] at h2; rw [h2]; rfl)
      clear hss
      have k0 := box_cell (j := 0) rr rfl
      have k1 := box_cell (j := 1) rr rfl
      have k2 := box_cell (j := 2) rr rfl
      have k3 := box_cell (j := 3) rr rfl
      have k4 := box_cell (j := 4) rr rfl
      go_upto_region 12 with fail
      obtain ⟨W7, hW7⟩ : ∃ W7, W7 = W6.alloc (.cells #[S sx.name, .int .u16 sx.typ, .int .u16 sx.cls, .int .u32 sx.ttl, .slice dA sx.data.length dc] 79) := ⟨_, rfl⟩
      obtain ⟨g7, hg7⟩ : ∃ g7, g7 = W6.heap.size := ⟨_, rfl⟩
      have r7 : W7.heap[g7]? = some (.cells #[S sx.name, .int .u16 sx.typ, .int .u16 sx.cls, .int .u32 sx.ttl, .slice dA sx.data.length dc] 79) := by rw [hW7, hg7]; exact heap_alloc_new _ _
      have hE67 : Ext W6 W7 := by rw [hW7]; exact (Ext.refl _).alloc _
      rw [← hW7, ← hg7]
      clear hW7 hg7 k0 k1 k2 k3 k4 q2 q3
      obtain ⟨q2, q3⟩ := HS7.out _ (hE6.trans hE67)
      have HSo1 := Lib.hid (sets_one r7 ((HDo.out.ext hE67).strs.lower (Nat.zero_le _)))
      go_wp2_with fail
      refine (HEs.out _ (hE5.trans (hE6.trans hE67))).mono ?_
      rintro e w8 ⟨rfl, hE8⟩
      have hE58 : Ext w5 w8 := (hE6.trans hE67).trans hE8
      rcases hth : thereB L FR.here cls with _ | _
      · have HR3 := Lib.hid (show rlookF L cls FR = ⟨3, FR.path, SR.set.toList⟩ from by rw [HR.out, if_pos HEr.out, if_neg (by rw [hth]; simp)])
        clear hth
        go_wp2_with fail
        go_ret3
        exact ⟨.slice nA (ps.length + os.length) nc, .slice (some ⟨g7, 0, none⟩) 1 1, by rw [HR3.out]; rfl, by rw [HR3.out]; exact (HAn2.out.sets.lower (Nat.zero_le _)).ext hE58, by rw [HR3.out]; exact (by rw [HN.out]; exact HSo1.out.ext hE8), hE5.trans hE58⟩
      · have HR3 := Lib.hid (show rlookF L cls FR = ⟨0, FR.path, SR.set.toList⟩ from by rw [HR.out, if_pos HEr.out, if_pos hth])
        clear hth
        go_wp2_with fail
        go_ret3
        exact ⟨.slice nA (ps.length + os.length) nc, .slice (some ⟨g7, 0, none⟩) 1 1, by rw [HR3.out]; rfl, by rw [HR3.out]; exact (HAn2.out.sets.lower (Nat.zero_le _)).ext hE58, by rw [HR3.out]; exact (by rw [HN.out]; exact HSo1.out.ext hE8), hE5.trans hE58⟩
theorem resM_no {L : List SetD} {m : MsgD} (h : ¬ (m.hd.qr = false ∧ m.hd.op = 0)) : resM L m = [] := by
  unfold resM
  split
  · rw [if_neg h]
  · rfl
theorem resM_one {L : List SetD} {m : MsgD} (h : m.qs.length ≠ 1) : resM L m = [] := by
  unfold resM
  split
  · rename_i x hx; rw [hx] at h; exact absurd rfl h
  · rfl
theorem recs_ok7R {G L : List SetD} (hb : SetsBd G) (h : ∀ s ∈ L, s ∈ G) : ∀ r ∈ L.flatMap recsOf, Rec7Ok r := fun r hr => by
  obtain ⟨s, hs, hr⟩ := List.mem_flatMap.1 hr
  unfold recsOf at hr
  obtain ⟨d, hd, rfl⟩ := List.mem_map.1 hr
  have h1 := hb s (h s hs)
  exact ⟨h1.1, h1.2.2 d hd⟩
theorem res_lens {l : List RecD} {R : ResR} (hb : SetsBd (groupR l)) (h : ResOk l R) : (∀ s ∈ R.ans, s.data.length ≤ 1048576) ∧ (∀ s ∈ R.auth, s.data.length ≤ 1048576) ∧ (R.ans.flatMap recsOf).length ≤ 1048576 ∧ (R.auth.flatMap recsOf).length ≤ 1048576 := by
  have h1 := recs_lenR 65536 R.ans (fun s hs => (hb s (h.ans s hs)).2.1)
  have h2 := recs_lenR 65536 R.auth (fun s hs => (hb s (h.auth s hs)).2.1)
  have h3 := h.alen
  have h4 := h.ulen
  refine ⟨fun s hs => ?_, fun s hs => ?_, by omega, by omega⟩
  · have := (hb s (h.ans s hs)).2.1; omega
  · have := (hb s (h.auth s hs)).2.1; omega
theorem recs_nil0 (w : World) : Recs w 0 (.slice none 0 0) [] := ⟨none, 0, rfl, Nat.le_refl _, by unfold maxLen; omega, rfl, fun h => absurd h (by decide)⟩
theorem opts_nil0 (w : World) (l : List OpD) (h : l = []) : Opts w 0 (.slice none 0 0) l := by
  subst h; exact ⟨none, 0, rfl, Nat.le_refl _, by unfold maxLen; omega, rfl, fun h => absurd (show 0 < 0 from h) (Nat.lt_irrefl 0)⟩
theorem load_rowR {P : Program} {ops : Array Oper} {Q : Exit → Act → World → Prop} {rest : List Oper} {o : Oper} {a : Act} {w : World} (hwn : Region.wanted o (yielded ops a.tmps) = true) (ty : TypeId) (x : Operand) (ho : o.op = .load ty x)
    (g : Nat) (hx : a.eval x = .pointer (some ⟨g, 0, none⟩)) (t : TypeId) (cs : Array Value) (fr : Nat × Nat) (d : TypeDesc) (hg : w.heap[g]? = some (.cells cs t fr))
    (hu : P.underlying ty = some d) (hd : (match d with | .struct _ | .array _ _ => true | _ => false) = true) (hi : (P.info? ty).map (·.size) = some cs.size)
    (h : wpList P ops Q rest (a.put o.dst (.agg cs)) w) : wpList P ops Q (o :: rest) a w :=
  wpList_step fun K hK => by
    rw [if_pos hwn]
    exact wp_load_row ty x ho g hx t cs fr d hg hu hd hi (hK _ _ h)
set_option maxHeartbeats 8000000 in
theorem res_answer (l : List RecD) (v : Value) (Rb : Nat) (d : List UInt8) (w : World) (hg : Laid w) (hb : BitsAt w) (hR : w.cell? ⟨Rb, 0, none⟩ = some v) (hS : Sets w 0 v (groupR l)) (hbd : RecsBd l) (hwf : ∀ r ∈ l, r.wf) (hd : d.length ≤ 1048576) :
    Calls Tryz.prog 18 #[.pointer (some ⟨Rb, 0, none⟩), S d] w (StrPost (resOf (groupR l) d) w) := by
  have hRw : Rb < w.heap.size := by
    rcases Nat.lt_or_ge Rb w.heap.size with h | h
    · exact h
    · simp [World.cell?, Array.getElem?_eq_none h] at hR
  have hsb := groupR_bd hbd
  have HD := Lib.hid (wire_decode d w hg hb hd)
  unfold StrPost
  go_enter Tryz.func18, Tryz.ntmps18
  go_upto_region 3 with fail
  go_wp2_with fail
  refine HD.out.mono ?_
  rintro e Y5 ⟨⟨kk, hk0, hx, rfl⟩ | ⟨m, q, a, u, x, o, hm, rfl, hMO, hBd⟩, hEd⟩
  · have HN := Lib.hid (show resOf (groupR l) d = [] from by unfold resOf; rw [hx])
    have hke : ((kk : Int) != 0) = true := by simpa using hk0
    clear hx hk0
    dsimp only
    iterate 10 go_step
    obtain ⟨b5, hb5⟩ : ∃ b5, b5 = Y5.heap.size := ⟨_, rfl⟩
    have hz : (Y5.alloc (.cells msgZ 45)).heap[b5]? = some (.cells msgZ 45) := by rw [hb5]; exact heap_alloc_new _ _
    refine Go.Great.wpList_allocTo rfl (some 5) rfl (.pointer (some ⟨Y5.heap.size, 0, none⟩)) (.cells msgZ 45) (by kernel_rfl) ?_
    rw [← hb5]
    refine Go.wpList_store_rowTo rfl 45 (.tmp 5) (.tmp 18) rfl rfl b5 msgZ rfl rfl 45 _ hz (by kernel_rfl) rfl (by kernel_rfl) ?_
    rw [alloc_setRow7 Y5 msgZ msgZ 45 b5 hb5]
    iterate 3 go_step
    refine wpList_nil ?_
    go_wp2_with fail
    go_ret
    exact ⟨by rw [HN.out]; rfl, hEd.alloc _⟩
  have HN := Lib.hid (show resOf (groupR l) d = resM (groupR l) m from by unfold resOf; rw [hm])
  have HW := Lib.hid (decR_ok hm)
  clear hm
  have HM := Lib.hid hMO
  obtain ⟨⟨qA, qc, rfl, hqo⟩, ⟨aA, ac, rfl, _⟩, ⟨uA, uc, rfl, _⟩, ⟨xA, xc, rfl, _⟩, ⟨oA, oc, rfl, _⟩⟩ := hMO
  dsimp only
  iterate 10 go_step
  obtain ⟨b5, hb5⟩ : ∃ b5, b5 = Y5.heap.size := ⟨_, rfl⟩
  have hz : (Y5.alloc (.cells msgZ 45)).heap[b5]? = some (.cells msgZ 45) := by rw [hb5]; exact heap_alloc_new _ _
  refine Go.Great.wpList_allocTo rfl (some 5) rfl (.pointer (some ⟨Y5.heap.size, 0, none⟩)) (.cells msgZ 45) (by kernel_rfl) ?_
  rw [← hb5]
  refine Go.wpList_store_rowTo rfl 45 (.tmp 5) (.tmp 18) rfl rfl b5 #[.int .u16 m.hd.id, .bool m.hd.qr, .int .u8 m.hd.op, .bool m.hd.aa, .bool m.hd.tc, .bool m.hd.rd, .bool m.hd.ra, .bool m.hd.z, .bool m.hd.ad, .bool m.hd.cd, .int .u8 m.hd.code, .slice qA m.qs.length qc, .slice aA m.ans.length ac, .slice uA m.auth.length uc, .slice xA m.extra.length xc, .bool m.he, .int .u16 m.ed.size, .int .u8 m.ed.ext, .int .u8 m.ed.ver, .int .u16 m.ed.flags, .slice oA m.ed.opts.length oc] rfl rfl 45 _ hz (by kernel_rfl) rfl (by kernel_rfl) ?_
  rw [alloc_setRow7 Y5 msgZ #[.int .u16 m.hd.id, .bool m.hd.qr, .int .u8 m.hd.op, .bool m.hd.aa, .bool m.hd.tc, .bool m.hd.rd, .bool m.hd.ra, .bool m.hd.z, .bool m.hd.ad, .bool m.hd.cd, .int .u8 m.hd.code, .slice qA m.qs.length qc, .slice aA m.ans.length ac, .slice uA m.auth.length uc, .slice xA m.extra.length xc, .bool m.he, .int .u16 m.ed.size, .int .u8 m.ed.ext, .int .u8 m.ed.ver, .int .u16 m.ed.flags, .slice oA m.ed.opts.length oc] 45 b5 hb5]
  iterate 3 go_step
  refine wpList_nil ?_
  rw [← hb5]
  have r5 : (Y5.alloc (.cells #[.int .u16 m.hd.id, .bool m.hd.qr, .int .u8 m.hd.op, .bool m.hd.aa, .bool m.hd.tc, .bool m.hd.rd, .bool m.hd.ra, .bool m.hd.z, .bool m.hd.ad, .bool m.hd.cd, .int .u8 m.hd.code, .slice qA m.qs.length qc, .slice aA m.ans.length ac, .slice uA m.auth.length uc, .slice xA m.extra.length xc, .bool m.he, .int .u16 m.ed.size, .int .u8 m.ed.ext, .int .u8 m.ed.ver, .int .u16 m.ed.flags, .slice oA m.ed.opts.length oc] 45)).heap[b5]? = some (.cells #[.int .u16 m.hd.id, .bool m.hd.qr, .int .u8 m.hd.op, .bool m.hd.aa, .bool m.hd.tc, .bool m.hd.rd, .bool m.hd.ra, .bool m.hd.z, .bool m.hd.ad, .bool m.hd.cd, .int .u8 m.hd.code, .slice qA m.qs.length qc, .slice aA m.ans.length ac, .slice uA m.auth.length uc, .slice xA m.extra.length xc, .bool m.he, .int .u16 m.ed.size, .int .u8 m.ed.ext, .int .u8 m.ed.ver, .int .u16 m.ed.flags, .slice oA m.ed.opts.length oc] 45) := by rw [hb5]; exact heap_alloc_new _ _
  have hE5 : Ext w (Y5.alloc (.cells #[.int .u16 m.hd.id, .bool m.hd.qr, .int .u8 m.hd.op, .bool m.hd.aa, .bool m.hd.tc, .bool m.hd.rd, .bool m.hd.ra, .bool m.hd.z, .bool m.hd.ad, .bool m.hd.cd, .int .u8 m.hd.code, .slice qA m.qs.length qc, .slice aA m.ans.length ac, .slice uA m.auth.length uc, .slice xA m.extra.length xc, .bool m.he, .int .u16 m.ed.size, .int .u8 m.ed.ext, .int .u8 m.ed.ver, .int .u16 m.ed.flags, .slice oA m.ed.opts.length oc] 45)) := hEd.alloc _
  have hY5 : Ext Y5 (Y5.alloc (.cells #[.int .u16 m.hd.id, .bool m.hd.qr, .int .u8 m.hd.op, .bool m.hd.aa, .bool m.hd.tc, .bool m.hd.rd, .bool m.hd.ra, .bool m.hd.z, .bool m.hd.ad, .bool m.hd.cd, .int .u8 m.hd.code, .slice qA m.qs.length qc, .slice aA m.ans.length ac, .slice uA m.auth.length uc, .slice xA m.extra.length xc, .bool m.he, .int .u16 m.ed.size, .int .u8 m.ed.ext, .int .u8 m.ed.ver, .int .u16 m.ed.flags, .slice oA m.ed.opts.length oc] 45)) := (Ext.refl _).alloc _
  obtain ⟨X5, hX⟩ : ∃ X5, X5 = Y5.alloc (.cells #[.int .u16 m.hd.id, .bool m.hd.qr, .int .u8 m.hd.op, .bool m.hd.aa, .bool m.hd.tc, .bool m.hd.rd, .bool m.hd.ra, .bool m.hd.z, .bool m.hd.ad, .bool m.hd.cd, .int .u8 m.hd.code, .slice qA m.qs.length qc, .slice aA m.ans.length ac, .slice uA m.auth.length uc, .slice xA m.extra.length xc, .bool m.he, .int .u16 m.ed.size, .int .u8 m.ed.ext, .int .u8 m.ed.ver, .int .u16 m.ed.flags, .slice oA m.ed.opts.length oc] 45) := ⟨_, rfl⟩
  rw [← hX] at r5 hE5 hY5 ⊢
  clear hX hz hb5 hEd
  have c1 := box_cell (j := 1) r5 rfl
  have c2 := box_cell (j := 2) r5 rfl
  have c11 := box_cell (j := 11) r5 rfl
  change X5.cell? ⟨b5, 1, none⟩ = some (.bool m.hd.qr) at c1
  change X5.cell? ⟨b5, 2, none⟩ = some (.int .u8 m.hd.op) at c2
  change X5.cell? ⟨b5, 11, none⟩ = some (.slice qA m.qs.length qc) at c11
  rcases hqr : m.hd.qr with _ | _
  rotate_left
  · have HN2 := Lib.hid (show resM (groupR l) m = [] from resM_no (by rw [hqr]; simp))
    rw [hqr] at c1
    clear hqr
    go_wp2_with fail
    go_ret
    exact ⟨by rw [HN.out, HN2.out]; rfl, hE5⟩
  rw [hqr] at c1
  by_cases hop : m.hd.op = 0
  rotate_left
  · have HN2 := Lib.hid (show resM (groupR l) m = [] from resM_no (by rw [hqr]; simp [hop]))
    have ho1 : (m.hd.op != 0) = true := by simpa using hop
    clear hqr hop
    go_wp2_with fail
    go_ret
    exact ⟨by rw [HN.out, HN2.out]; rfl, hE5⟩
  have ho1 : (m.hd.op != 0) = false := by rw [hop]; rfl
  by_cases hql : m.qs.length = 1
  rotate_left
  · have HN2 := Lib.hid (show resM (groupR l) m = [] from resM_one hql)
    have hq1 : ((m.qs.length : Int) != 1) = true := by simpa using (show ¬ ((m.qs.length : Int) = 1) by omega)
    clear hqr hop hql
    go_wp2_with fail
    go_ret
    exact ⟨by rw [HN.out, HN2.out]; rfl, hE5⟩
  have hq1 : ((m.qs.length : Int) != 1) = false := by rw [hql]; rfl
  obtain ⟨y, hy⟩ : ∃ y, m.qs = [y] := by
    rcases hqs : m.qs with _ | ⟨y, _ | ⟨z, r⟩⟩
    · rw [hqs] at hql; cases hql
    · exact ⟨y, rfl⟩
    · rw [hqs] at hql; simp at hql
  have HY := Lib.hid hy
  have hym : may y.name = true := may_qs (enc_may HW.out.2.1).1 y (by rw [hy]; simp)
  have hyl : y.name.length ≤ 1048576 := Nat.le_trans (may_le hym) (by omega)
  have HYm := Lib.hid hym
  obtain ⟨R, hR0⟩ : ∃ R, R = rlookOf (groupR l) y.name y.typ y.cls := ⟨_, rfl⟩
  have HN2 := Lib.hid (show resM (groupR l) m = resBy m R from by unfold resM; rw [hy]; dsimp only; rw [if_pos ⟨hqr, hop⟩, hR0])
  have HRo := Lib.hid (show ResOk l R from by rw [hR0]; exact rlook_ok l _ _ _)
  have HL := Lib.hid (fun V (hV : Ext w V) => res_look Rb 0 v (groupR l) y.name y.typ y.cls V (hg.ext hV) ((hV.cell (p := ⟨Rb, 0, none⟩) hRw).trans hR) (hS.ext hV) hsb hyl)
  rw [← hR0] at HL
  unfold LookRPost at HL
  have hq0 : (0 : Int) < (m.qs.length : Int) := by omega
  have hqo' := hqo.rd
  obtain ⟨gq, oq, rfl, _, hgq, hqc⟩ := hqo'.2 (by omega)
  obtain ⟨e0, e1, e2⟩ := qus_cells hqc 0 y (by rw [hy]; rfl)
  rw [← hY5.cell (p := ⟨gq, _, none⟩) hgq] at e0 e1 e2
  rw [Nat.zero_mul, Nat.add_zero] at e0 e1 e2
  clear hqr hop hql hy hym hR0 hqc hqo hqo'
  go_upto_region 6 with fail
  go_wp2_with fail
  refine (HL.out _ hE5).mono ?_
  rintro e w6 ⟨va, vu, rfl, hsa, hsu, hE6⟩
  have HSa := Lib.hid hsa
  have HSu := Lib.hid hsu
  obtain ⟨ps, pA, pc, _, rfl, _, _, _, _⟩ := hsa
  obtain ⟨us, uA2, uc2, _, rfl, _, _, _, _⟩ := hsu
  have hE06 : Ext w w6 := hE5.trans hE6
  have r56 := (hE6.block _ (Array.getElem?_eq_some_iff.1 r5).1).trans r5
  have k0 := box_cell (j := 0) r56 rfl
  have k5 := box_cell (j := 5) r56 rfl
  have k11 := box_cell (j := 11) r56 rfl
  have k15 := box_cell (j := 15) r56 rfl
  change w6.cell? ⟨b5, 0, none⟩ = some (.int .u16 m.hd.id) at k0
  change w6.cell? ⟨b5, 5, none⟩ = some (.bool m.hd.rd) at k5
  change w6.cell? ⟨b5, 11, none⟩ = some (.slice (some ⟨gq, oq, none⟩) m.qs.length qc) at k11
  change w6.cell? ⟨b5, 15, none⟩ = some (.bool m.he) at k15
  have HCd := Lib.hid (show 0 ≤ R.code ∧ R.code ≤ 15 from by rcases HRo.out.code with h | h | h <;> rw [h] <;> decide)
  have HDl := Lib.hid (res_lens hsb HRo.out)
  obtain ⟨la, hla⟩ : ∃ la, la = R.ans.flatMap recsOf := ⟨_, rfl⟩
  obtain ⟨ua, hua⟩ : ∃ ua, ua = R.auth.flatMap recsOf := ⟨_, rfl⟩
  have HLa := Lib.hid hla
  have HUa := Lib.hid hua
  clear hla hua
  clear c1 c2 c11 e0 e1 e2
  go_upto_region 7 with fail
  refine wp_region_lit ?_
  iterate 39 go_step
  obtain ⟨b10, hb10⟩ : ∃ b10, b10 = w6.heap.size := ⟨_, rfl⟩
  have hz : (w6.alloc (.cells msgZ 45)).heap[b10]? = some (.cells msgZ 45) := by rw [hb10]; exact heap_alloc_new _ _
  refine Go.Great.wpList_allocTo rfl (some 10) rfl (.pointer (some ⟨w6.heap.size, 0, none⟩)) (.cells msgZ 45) (by kernel_rfl) ?_
  rw [← hb10]
  refine Go.wpList_store_rowTo rfl 45 (.tmp 10) (.tmp 61) rfl rfl b10 #[.int .u16 m.hd.id, .bool true, .int .u8 0, .bool false, .bool false, .bool m.hd.rd, .bool true, .bool false, .bool false, .bool false, .int .u8 R.code, .slice (some ⟨gq, oq, none⟩) m.qs.length qc, .slice none 0 0, .slice none 0 0, .slice none 0 0, .bool m.he, .int .u16 0, .int .u8 0, .int .u8 0, .int .u16 0, .slice none 0 0] rfl rfl 45 _ hz (by kernel_rfl) rfl (by kernel_rfl) ?_
  rw [alloc_setRow7 w6 msgZ #[.int .u16 m.hd.id, .bool true, .int .u8 0, .bool false, .bool false, .bool m.hd.rd, .bool true, .bool false, .bool false, .bool false, .int .u8 R.code, .slice (some ⟨gq, oq, none⟩) m.qs.length qc, .slice none 0 0, .slice none 0 0, .slice none 0 0, .bool m.he, .int .u16 0, .int .u8 0, .int .u8 0, .int .u16 0, .slice none 0 0] 45 b10 hb10]
  refine wpList_nil ?_
  try rw [← hb10]
  have r10 : (w6.alloc (.cells #[.int .u16 m.hd.id, .bool true, .int .u8 0, .bool false, .bool false, .bool m.hd.rd, .bool true, .bool false, .bool false, .bool false, .int .u8 R.code, .slice (some ⟨gq, oq, none⟩) m.qs.length qc, .slice none 0 0, .slice none 0 0, .slice none 0 0, .bool m.he, .int .u16 0, .int .u8 0, .int .u8 0, .int .u16 0, .slice none 0 0] 45)).heap[b10]? = some (.cells #[.int .u16 m.hd.id, .bool true, .int .u8 0, .bool false, .bool false, .bool m.hd.rd, .bool true, .bool false, .bool false, .bool false, .int .u8 R.code, .slice (some ⟨gq, oq, none⟩) m.qs.length qc, .slice none 0 0, .slice none 0 0, .slice none 0 0, .bool m.he, .int .u16 0, .int .u8 0, .int .u8 0, .int .u16 0, .slice none 0 0] 45) := by rw [hb10]; exact heap_alloc_new _ _
  have hX6 : Ext X5 w6 := hE6
  have hw66 : w6.heap.size ≤ w6.heap.size := Nat.le_refl _
  obtain ⟨X6, hX⟩ : ∃ X6, X6 = w6.alloc (.cells #[.int .u16 m.hd.id, .bool true, .int .u8 0, .bool false, .bool false, .bool m.hd.rd, .bool true, .bool false, .bool false, .bool false, .int .u8 R.code, .slice (some ⟨gq, oq, none⟩) m.qs.length qc, .slice none 0 0, .slice none 0 0, .slice none 0 0, .bool m.he, .int .u16 0, .int .u8 0, .int .u8 0, .int .u16 0, .slice none 0 0] 45) := ⟨_, rfl⟩
  have hE7 : Ext w6 X6 := by rw [hX]; exact (Ext.refl _).alloc _
  have hb106 : w6.heap.size ≤ b10 := by rw [hb10]; exact Nat.le_refl _
  rw [← hX] at r10 ⊢
  clear hX hz hb10 k0 k5 k11
  have r57 := (hE7.block _ (Array.getElem?_eq_some_iff.1 r56).1).trans r56
  have k15' := box_cell (j := 15) r57 rfl
  have k16 := box_cell (j := 16) r57 rfl
  change X6.cell? ⟨b5, 15, none⟩ = some (.bool m.he) at k15'
  change X6.cell? ⟨b5, 16, none⟩ = some (.int .u16 m.ed.size) at k16
  clear k15
  rcases hhe : m.he with _ | _
  · have HHe := Lib.hid hhe
    have HRm := Lib.hid (show resRoom m = 512 from by unfold resRoom; rw [if_neg (by rw [hhe]; simp)])
    rw [hhe] at k15' r10
    obtain ⟨X11, rfl⟩ : ∃ X11 : World, X11 = X6 := ⟨_, rfl⟩
    have hE11 : Ext w6 X11 := hE7
    clear hhe k16 r57
    have HSq1 := Lib.hid (fun V => res_seq pA ps.length pc V)
    go_upto_region 12 with fail
    go_wp2_with fail
    refine (HSq1.out _).mono ?_
    rintro e Z12 ⟨rfl, hZ12⟩
    obtain ⟨B12, hB12⟩ : ∃ B12, B12 = X11.heap.size := ⟨_, rfl⟩
    have rB12 : Z12.cell? ⟨B12, 0, none⟩ = some (.slice pA ps.length pc) := by rw [hZ12, hB12]; exact box_cell (heap_alloc_new _ _) rfl
    have hEZ12 : Ext X11 Z12 := by rw [hZ12]; exact (Ext.refl _).alloc _
    rw [← hB12]
    clear hZ12 hB12
    have HC1 := Lib.hid (res_collect _ R.ans w6 Z12 B12 HSa.out (hE11.trans hEZ12) rB12 (by have := HRo.out.alen; omega) HDl.out.1 HDl.out.2.2.1)
    rw [← HLa.out] at HC1
    unfold CollPost at HC1
    go_wp2_with fail
    refine HC1.out.mono ?_
    rintro e Y12 ⟨A1, c1, rfl, ho1, hEY12⟩
    have hE12 : Ext X11 Y12 := hEZ12.trans hEY12
    have r12 := (hE12.block _ (Array.getElem?_eq_some_iff.1 r10).1).trans r10
    have k12 := box_cell (j := 12) r12 rfl
    have f12 := box_free (j := 12) r12
    go_upto_region 13 with fail
    obtain ⟨X12, hX12⟩ : ∃ X12, X12 = Y12.setCell ⟨b10, 12, none⟩ (.slice A1 la.length c1) := ⟨_, rfl⟩
    rw [← hX12]
    have r12' : X12.heap[b10]? = some (.cells #[.int .u16 m.hd.id, .bool true, .int .u8 0, .bool false, .bool false, .bool m.hd.rd, .bool true, .bool false, .bool false, .bool false, .int .u8 R.code, .slice (some ⟨gq, oq, none⟩) m.qs.length qc, .slice A1 la.length c1, .slice none 0 0, .slice none 0 0, .bool false, .int .u16 0, .int .u8 0, .int .u8 0, .int .u16 0, .slice none 0 0] 45) := by rw [hX12]; exact row_set r12 12 _
    have hb10X : b10 < X11.heap.size := (Array.getElem?_eq_some_iff.1 r10).1
    have hb10Z : b10 < Z12.heap.size := Nat.lt_of_lt_of_le hb10X hEZ12.size
    have hE12' : Ext w6 X12 := by rw [hX12]; exact (hE11.trans hE12).setCell (Nat.le_trans hw66 hb106) _
    have ho12 : Own X12 Z12.heap.size 99 5 A1 la.length c1 (la.flatMap recCells) := by rw [hX12]; exact ho1.set_other (Nat.lt_of_lt_of_le hb10X hEZ12.size) _
    have HO1 := Lib.hid ho12
    clear hX12 k12 f12 r12 ho1 ho12 r10 hE11 hE12 hEZ12 hEY12 rB12 HC1
    have HSq2 := Lib.hid (fun V => res_seq uA2 us.length uc2 V)
    go_wp2_with fail
    refine (HSq2.out _).mono ?_
    rintro e Z13 ⟨rfl, hZ13⟩
    obtain ⟨B13, hB13⟩ : ∃ B13, B13 = X12.heap.size := ⟨_, rfl⟩
    have rB13 : Z13.cell? ⟨B13, 0, none⟩ = some (.slice uA2 us.length uc2) := by rw [hZ13, hB13]; exact box_cell (heap_alloc_new _ _) rfl
    have hEZ13 : Ext X12 Z13 := by rw [hZ13]; exact (Ext.refl _).alloc _
    rw [← hB13]
    clear hZ13 hB13
    have HC2 := Lib.hid (res_collect _ R.auth w6 Z13 B13 HSu.out (hE12'.trans hEZ13) rB13 (by have := HRo.out.ulen; omega) HDl.out.2.1 HDl.out.2.2.2)
    rw [← HUa.out] at HC2
    unfold CollPost at HC2
    go_wp2_with fail
    refine HC2.out.mono ?_
    rintro e Y13 ⟨A2, c2, rfl, ho2, hEY13⟩
    have hE13 : Ext X12 Y13 := hEZ13.trans hEY13
    have r13 := (hE13.block _ (Array.getElem?_eq_some_iff.1 r12').1).trans r12'
    have k13 := box_cell (j := 13) r13 rfl
    have f13 := box_free (j := 13) r13
    go_upto_region 14 with fail
    obtain ⟨X13, hX13⟩ : ∃ X13, X13 = Y13.setCell ⟨b10, 13, none⟩ (.slice A2 ua.length c2) := ⟨_, rfl⟩
    rw [← hX13]
    have r13' : X13.heap[b10]? = some (.cells #[.int .u16 m.hd.id, .bool true, .int .u8 0, .bool false, .bool false, .bool m.hd.rd, .bool true, .bool false, .bool false, .bool false, .int .u8 R.code, .slice (some ⟨gq, oq, none⟩) m.qs.length qc, .slice A1 la.length c1, .slice A2 ua.length c2, .slice none 0 0, .bool false, .int .u16 0, .int .u8 0, .int .u8 0, .int .u16 0, .slice none 0 0] 45) := by rw [hX13]; exact row_set r13 13 _
    have hb10Y : b10 < X12.heap.size := (Array.getElem?_eq_some_iff.1 r12').1
    have hE13' : Ext w6 X13 := by rw [hX13]; exact (hE12'.trans hE13).setCell (Nat.le_trans hw66 hb106) _
    have ho13 : Own X13 Z13.heap.size 99 5 A2 ua.length c2 (ua.flatMap recCells) := by rw [hX13]; exact ho2.set_other (Nat.lt_of_lt_of_le hb10Y hEZ13.size) _
    have ho1b : Own X13 Z12.heap.size 99 5 A1 la.length c1 (la.flatMap recCells) := by rw [hX13]; exact (HO1.out.ext hE13).set_other hb10Z _
    have hm7 : Msg7 X13 (resFull m R) (.slice (some ⟨gq, oq, none⟩) m.qs.length qc) (.slice A1 la.length c1) (.slice A2 ua.length c2) (.slice none 0 0) (.slice none 0 0) := by
      have h7 := (((HM.out.lower (Nat.zero_le _)).ext (hY5.trans ((hX6.trans hE13')))).msg7 hBd)
      exact ⟨h7.qs, (by show Recs X13 0 _ (R.ans.flatMap recsOf); rw [← HLa.out]; exact ⟨A1, c1, rfl, ho1b.cap.1, ho1b.cap.2, ho1b.rd.lower (Nat.zero_le _)⟩), (by show Recs X13 0 _ (R.auth.flatMap recsOf); rw [← HUa.out]; exact ⟨A2, c2, rfl, ho13.cap.1, ho13.cap.2, ho13.rd.lower (Nat.zero_le _)⟩), recs_nil0 _, opts_nil0 _ _ (edSize_ok m.he).2, h7.qok, recs_ok7R hsb HRo.out.ans, recs_ok7R hsb HRo.out.auth, (by intro r hr; cases hr), Nat.zero_le _⟩
    have hw13 : Ext w X13 := hE06.trans hE13'
    have HEn := Lib.hid (show Calls Tryz.prog 20 #[.agg #[.int .u16 m.hd.id, .bool true, .int .u8 0, .bool false, .bool false, .bool m.hd.rd, .bool true, .bool false, .bool false, .bool false, .int .u8 R.code, .slice (some ⟨gq, oq, none⟩) m.qs.length qc, .slice A1 la.length c1, .slice A2 ua.length c2, .slice none 0 0, .bool false, .int .u16 0, .int .u8 0, .int .u8 0, .int .u16 0, .slice none 0 0]] X13 (EncPost (resFull m R) X13) from by
      have h := wire_encode (resFull m R) _ _ _ _ _ X13 (hg.ext hw13) (hb.ext hw13) (resMsg_wf HW.out.1 false HCd.out.1 (recs_wfR hwf HRo.out.ans) (recs_wfR hwf HRo.out.auth)) hm7
      have e : msg7V (resFull m R).hd (.slice (some ⟨gq, oq, none⟩) m.qs.length qc) (.slice A1 la.length c1) (.slice A2 ua.length c2) (.slice none 0 0) (resFull m R).he (resFull m R).ed (.slice none 0 0) = .agg #[.int .u16 m.hd.id, .bool true, .int .u8 0, .bool false, .bool false, .bool m.hd.rd, .bool true, .bool false, .bool false, .bool false, .int .u8 R.code, .slice (some ⟨gq, oq, none⟩) m.qs.length qc, .slice A1 la.length c1, .slice A2 ua.length c2, .slice none 0 0, .bool false, .int .u16 0, .int .u8 0, .int .u8 0, .int .u16 0, .slice none 0 0] := by unfold resFull resMsg; dsimp only; rw [HHe.out]; rfl
      rw [e] at h; exact h)
    have HRd := Lib.hid (show resBy m R = (if encErr (resFull m R) = 0 ∧ ((encOf (resFull m R)).length : Int) ≤ resRoom m then encOf (resFull m R) else encOf (resCut m R)) from rfl)
    rw [HRm.out] at HRd
    unfold EncPost at HEn
    obtain ⟨fs, hfs⟩ : ∃ fs, fs = encOf (resFull m R) := ⟨_, rfl⟩
    obtain ⟨fe, hfe⟩ : ∃ fe, fe = encErr (resFull m R) := ⟨_, rfl⟩
    rw [← hfs, ← hfe] at HRd HEn
    clear hX13 k13 f13 r13 ho2 ho13 ho1b hm7 hfs hfe
    go_wp2_with (first | (refine load_rowR (by rfl) 45 (.tmp 10) rfl b10 rfl 45 _ _ _ r13' Tryz.underlying45 rfl (by kernel_rfl) ?_) | fail)
    refine HEn.out.mono ?_
    rintro e w14 ⟨rfl, hE14⟩
    have r14 := (hE14.block _ (Array.getElem?_eq_some_iff.1 r13').1).trans r13'
    by_cases hfit : fe = 0 ∧ ((fs.length : Nat) : Int) ≤ 512
    · have HR2 := Lib.hid (show resBy m R = fs from by rw [HRd.out, if_pos hfit])
      have g1 : ((fe : Int) == 0) = true := by rw [hfit.1]; rfl
      have g2 := hfit.2
      clear hfit
      go_wp2_with fail
      go_ret
      exact ⟨by rw [HN.out, HN2.out, HR2.out]; rfl, hw13.trans hE14⟩
    have HR2 := Lib.hid (show resBy m R = encOf (resCut m R) from by rw [HRd.out, if_neg hfit])
    have HNf := Lib.hid hfit
    clear hfit
    go_upto_region 15 with fail
    go_cut [92] (fun s92 wx => s92 = .bool false ∧ w14 = wx)
    case first =>
      by_cases hf0 : fe = 0
      · have hl : ¬ ((fs.length : Nat) : Int) ≤ 512 := fun h => HNf.out ⟨hf0, h⟩
        have g1 : ((fe : Int) == 0) = true := by rw [hf0]; rfl
        clear hf0
        go_wp2_with fail
        go_meet
        exact ⟨rfl, rfl⟩
      · have g1 : ((fe : Int) == 0) = false := by rw [beq_eq_false_iff_ne]; omega
        clear hf0
        go_wp2_with fail
        go_meet
        exact ⟨rfl, rfl⟩
    case rest =>
      obtain ⟨rfl, rfl⟩ := hcut
      have k4 := box_cell (j := 4) r14 rfl
      have k12 := box_cell (j := 12) r14 rfl
      have k13 := box_cell (j := 13) r14 rfl
      have f4 := box_free (j := 4) r14
      have f12 := box_free (j := 12) r14
      have f13 := box_free (j := 13) r14
      have HCe := Lib.hid (resCut_enc (q := m) HY.out HYm.out (code := R.code) HCd.out.2 true)
      go_upto_region 18 with fail
      obtain ⟨X17, hX17⟩ : ∃ X17, X17 = ((w14.setCell ⟨b10, 4, none⟩ (.bool true)).setCell ⟨b10, 12, none⟩ (.slice none 0 0)).setCell ⟨b10, 13, none⟩ (.slice none 0 0) := ⟨_, rfl⟩
      rw [← hX17]
      have r17 : X17.heap[b10]? = some (.cells #[.int .u16 m.hd.id, .bool true, .int .u8 0, .bool false, .bool true, .bool m.hd.rd, .bool true, .bool false, .bool false, .bool false, .int .u8 R.code, .slice (some ⟨gq, oq, none⟩) m.qs.length qc, .slice none 0 0, .slice none 0 0, .slice none 0 0, .bool false, .int .u16 0, .int .u8 0, .int .u8 0, .int .u16 0, .slice none 0 0] 45) := by rw [hX17]; exact row_set (row_set (row_set r14 4 _) 12 _) 13 _
      have hE17 : Ext w6 X17 := by rw [hX17]; exact (((hE13'.trans hE14).setCell hb106 _).setCell hb106 _).setCell hb106 _
      have hm7 : Msg7 X17 (resCut m R) (.slice (some ⟨gq, oq, none⟩) m.qs.length qc) (.slice none 0 0) (.slice none 0 0) (.slice none 0 0) (.slice none 0 0) := by
        have h7 := (((HM.out.lower (Nat.zero_le _)).ext (hY5.trans ((hX6.trans hE17)))).msg7 hBd)
        exact ⟨h7.qs, recs_nil0 _, recs_nil0 _, recs_nil0 _, opts_nil0 _ _ (edSize_ok m.he).2, h7.qok, (by intro r hr; cases hr), (by intro r hr; cases hr), (by intro r hr; cases hr), Nat.zero_le _⟩
      have hw17 : Ext w X17 := hE06.trans hE17
      have HEc := Lib.hid (show Calls Tryz.prog 20 #[.agg #[.int .u16 m.hd.id, .bool true, .int .u8 0, .bool false, .bool true, .bool m.hd.rd, .bool true, .bool false, .bool false, .bool false, .int .u8 R.code, .slice (some ⟨gq, oq, none⟩) m.qs.length qc, .slice none 0 0, .slice none 0 0, .slice none 0 0, .bool false, .int .u16 0, .int .u8 0, .int .u8 0, .int .u16 0, .slice none 0 0]] X17 (EncPost (resCut m R) X17) from by
        have h := wire_encode (resCut m R) _ _ _ _ _ X17 (hg.ext hw17) (hb.ext hw17) (resMsg_wf HW.out.1 true HCd.out.1 (by intro r hr; cases hr) (by intro r hr; cases hr)) hm7
        have e : msg7V (resCut m R).hd (.slice (some ⟨gq, oq, none⟩) m.qs.length qc) (.slice none 0 0) (.slice none 0 0) (.slice none 0 0) (resCut m R).he (resCut m R).ed (.slice none 0 0) = .agg #[.int .u16 m.hd.id, .bool true, .int .u8 0, .bool false, .bool true, .bool m.hd.rd, .bool true, .bool false, .bool false, .bool false, .int .u8 R.code, .slice (some ⟨gq, oq, none⟩) m.qs.length qc, .slice none 0 0, .slice none 0 0, .slice none 0 0, .bool false, .int .u16 0, .int .u8 0, .int .u8 0, .int .u16 0, .slice none 0 0] := by unfold resCut resMsg; dsimp only; rw [HHe.out]; rfl
        rw [e] at h; exact h)
      unfold EncPost at HEc
      have hce : encErr (resCut m R) = 0 := HCe.out.1
      rw [hce] at HEc
      obtain ⟨cs, hcs⟩ : ∃ cs, cs = encOf (resCut m R) := ⟨_, rfl⟩
      rw [← hcs] at HEc HR2
      clear hX17 k4 k12 k13 f4 f12 f13 hm7 hce hcs
      go_wp2_with (first | (refine load_rowR (by rfl) 45 (.tmp 10) rfl b10 rfl 45 _ _ _ r17 Tryz.underlying45 rfl (by kernel_rfl) ?_) | fail)
      refine HEc.out.mono ?_
      rintro e w18 ⟨rfl, hE18⟩
      go_wp2_with fail
      go_ret
      exact ⟨by rw [HN.out, HN2.out, HR2.out]; rfl, hw17.trans hE18⟩
  · have HHe := Lib.hid hhe
    have HRm := Lib.hid (show resRoom m = max 512 m.ed.size from by unfold resRoom; rw [hhe]; by_cases h : 512 < m.ed.size; rw [if_pos ⟨rfl, h⟩]; omega; rw [if_neg (fun x => h x.2)]; omega)
    rw [hhe] at k15' r10
    have hsz := HW.out.1.size
    have hwz : wrap64 m.ed.size = m.ed.size := by unfold wrap64; omega
    have c16 := box_cell (j := 16) r10 rfl
    have f16 := box_free (j := 16) r10
    clear hhe
    go_upto_region 11 with fail
    obtain ⟨X11, hX11⟩ : ∃ X11, X11 = X6.setCell ⟨b10, 16, none⟩ (.int .u16 4096) := ⟨_, rfl⟩
    rw [← hX11]
    have r10 : X11.heap[b10]? = some (.cells #[.int .u16 m.hd.id, .bool true, .int .u8 0, .bool false, .bool false, .bool m.hd.rd, .bool true, .bool false, .bool false, .bool false, .int .u8 R.code, .slice (some ⟨gq, oq, none⟩) m.qs.length qc, .slice none 0 0, .slice none 0 0, .slice none 0 0, .bool true, .int .u16 4096, .int .u8 0, .int .u8 0, .int .u16 0, .slice none 0 0] 45) := by rw [hX11]; exact row_set r10 16 _
    have hE11 : Ext w6 X11 := by rw [hX11]; exact hE7.setCell hb106 _
    have hne : b5 ≠ b10 := by have h := (Array.getElem?_eq_some_iff.1 r56).1; omega
    have r58 := (show X11.heap[b5]? = X6.heap[b5]? by rw [hX11]; exact Below.heap_setCell _ ⟨b10, 16, none⟩ _ b5 hne).trans r57
    clear k16 c16 f16 r57 hX11 k15'
    have k16 := box_cell (j := 16) r58 rfl
    change X11.cell? ⟨b5, 16, none⟩ = some (.int .u16 m.ed.size) at k16
    have HSq1 := Lib.hid (fun V => res_seq pA ps.length pc V)
    go_upto_region 12 with fail
    go_wp2_with fail
    refine (HSq1.out _).mono ?_
    rintro e Z12 ⟨rfl, hZ12⟩
    obtain ⟨B12, hB12⟩ : ∃ B12, B12 = X11.heap.size := ⟨_, rfl⟩
    have rB12 : Z12.cell? ⟨B12, 0, none⟩ = some (.slice pA ps.length pc) := by rw [hZ12, hB12]; exact box_cell (heap_alloc_new _ _) rfl
    have hEZ12 : Ext X11 Z12 := by rw [hZ12]; exact (Ext.refl _).alloc _
    rw [← hB12]
    clear hZ12 hB12
    have HC1 := Lib.hid (res_collect _ R.ans w6 Z12 B12 HSa.out (hE11.trans hEZ12) rB12 (by have := HRo.out.alen; omega) HDl.out.1 HDl.out.2.2.1)
    rw [← HLa.out] at HC1
    unfold CollPost at HC1
    go_wp2_with fail
    refine HC1.out.mono ?_
    rintro e Y12 ⟨A1, c1, rfl, ho1, hEY12⟩
    have hE12 : Ext X11 Y12 := hEZ12.trans hEY12
    have r12 := (hE12.block _ (Array.getElem?_eq_some_iff.1 r10).1).trans r10
    have k12 := box_cell (j := 12) r12 rfl
    have f12 := box_free (j := 12) r12
    go_upto_region 13 with fail
    obtain ⟨X12, hX12⟩ : ∃ X12, X12 = Y12.setCell ⟨b10, 12, none⟩ (.slice A1 la.length c1) := ⟨_, rfl⟩
    rw [← hX12]
    have r12' : X12.heap[b10]? = some (.cells #[.int .u16 m.hd.id, .bool true, .int .u8 0, .bool false, .bool false, .bool m.hd.rd, .bool true, .bool false, .bool false, .bool false, .int .u8 R.code, .slice (some ⟨gq, oq, none⟩) m.qs.length qc, .slice A1 la.length c1, .slice none 0 0, .slice none 0 0, .bool true, .int .u16 4096, .int .u8 0, .int .u8 0, .int .u16 0, .slice none 0 0] 45) := by rw [hX12]; exact row_set r12 12 _
    have hb10X : b10 < X11.heap.size := (Array.getElem?_eq_some_iff.1 r10).1
    have hb10Z : b10 < Z12.heap.size := Nat.lt_of_lt_of_le hb10X hEZ12.size
    have hE12' : Ext w6 X12 := by rw [hX12]; exact (hE11.trans hE12).setCell (Nat.le_trans hw66 hb106) _
    have ho12 : Own X12 Z12.heap.size 99 5 A1 la.length c1 (la.flatMap recCells) := by rw [hX12]; exact ho1.set_other (Nat.lt_of_lt_of_le hb10X hEZ12.size) _
    have HO1 := Lib.hid ho12
    clear hX12 k12 f12 r12 ho1 ho12 r10 hE11 hE12 hEZ12 hEY12 rB12 HC1
    have HSq2 := Lib.hid (fun V => res_seq uA2 us.length uc2 V)
    go_wp2_with fail
    refine (HSq2.out _).mono ?_
    rintro e Z13 ⟨rfl, hZ13⟩
    obtain ⟨B13, hB13⟩ : ∃ B13, B13 = X12.heap.size := ⟨_, rfl⟩
    have rB13 : Z13.cell? ⟨B13, 0, none⟩ = some (.slice uA2 us.length uc2) := by rw [hZ13, hB13]; exact box_cell (heap_alloc_new _ _) rfl
    have hEZ13 : Ext X12 Z13 := by rw [hZ13]; exact (Ext.refl _).alloc _
    rw [← hB13]
    clear hZ13 hB13
    have HC2 := Lib.hid (res_collect _ R.auth w6 Z13 B13 HSu.out (hE12'.trans hEZ13) rB13 (by have := HRo.out.ulen; omega) HDl.out.2.1 HDl.out.2.2.2)
    rw [← HUa.out] at HC2
    unfold CollPost at HC2
    go_wp2_with fail
    refine HC2.out.mono ?_
    rintro e Y13 ⟨A2, c2, rfl, ho2, hEY13⟩
    have hE13 : Ext X12 Y13 := hEZ13.trans hEY13
    have r13 := (hE13.block _ (Array.getElem?_eq_some_iff.1 r12').1).trans r12'
    have k13 := box_cell (j := 13) r13 rfl
    have f13 := box_free (j := 13) r13
    go_upto_region 14 with fail
    obtain ⟨X13, hX13⟩ : ∃ X13, X13 = Y13.setCell ⟨b10, 13, none⟩ (.slice A2 ua.length c2) := ⟨_, rfl⟩
    rw [← hX13]
    have r13' : X13.heap[b10]? = some (.cells #[.int .u16 m.hd.id, .bool true, .int .u8 0, .bool false, .bool false, .bool m.hd.rd, .bool true, .bool false, .bool false, .bool false, .int .u8 R.code, .slice (some ⟨gq, oq, none⟩) m.qs.length qc, .slice A1 la.length c1, .slice A2 ua.length c2, .slice none 0 0, .bool true, .int .u16 4096, .int .u8 0, .int .u8 0, .int .u16 0, .slice none 0 0] 45) := by rw [hX13]; exact row_set r13 13 _
    have hb10Y : b10 < X12.heap.size := (Array.getElem?_eq_some_iff.1 r12').1
    have hE13' : Ext w6 X13 := by rw [hX13]; exact (hE12'.trans hE13).setCell (Nat.le_trans hw66 hb106) _
    have ho13 : Own X13 Z13.heap.size 99 5 A2 ua.length c2 (ua.flatMap recCells) := by rw [hX13]; exact ho2.set_other (Nat.lt_of_lt_of_le hb10Y hEZ13.size) _
    have ho1b : Own X13 Z12.heap.size 99 5 A1 la.length c1 (la.flatMap recCells) := by rw [hX13]; exact (HO1.out.ext hE13).set_other hb10Z _
    have hm7 : Msg7 X13 (resFull m R) (.slice (some ⟨gq, oq, none⟩) m.qs.length qc) (.slice A1 la.length c1) (.slice A2 ua.length c2) (.slice none 0 0) (.slice none 0 0) := by
      have h7 := (((HM.out.lower (Nat.zero_le _)).ext (hY5.trans ((hX6.trans hE13')))).msg7 hBd)
      exact ⟨h7.qs, (by show Recs X13 0 _ (R.ans.flatMap recsOf); rw [← HLa.out]; exact ⟨A1, c1, rfl, ho1b.cap.1, ho1b.cap.2, ho1b.rd.lower (Nat.zero_le _)⟩), (by show Recs X13 0 _ (R.auth.flatMap recsOf); rw [← HUa.out]; exact ⟨A2, c2, rfl, ho13.cap.1, ho13.cap.2, ho13.rd.lower (Nat.zero_le _)⟩), recs_nil0 _, opts_nil0 _ _ (edSize_ok m.he).2, h7.qok, recs_ok7R hsb HRo.out.ans, recs_ok7R hsb HRo.out.auth, (by intro r hr; cases hr), Nat.zero_le _⟩
    have hw13 : Ext w X13 := hE06.trans hE13'
    have HEn := Lib.hid (show Calls Tryz.prog 20 #[.agg #[.int .u16 m.hd.id, .bool true, .int .u8 0, .bool false, .bool false, .bool m.hd.rd, .bool true, .bool false, .bool false, .bool false, .int .u8 R.code, .slice (some ⟨gq, oq, none⟩) m.qs.length qc, .slice A1 la.length c1, .slice A2 ua.length c2, .slice none 0 0, .bool true, .int .u16 4096, .int .u8 0, .int .u8 0, .int .u16 0, .slice none 0 0]] X13 (EncPost (resFull m R) X13) from by
      have h := wire_encode (resFull m R) _ _ _ _ _ X13 (hg.ext hw13) (hb.ext hw13) (resMsg_wf HW.out.1 false HCd.out.1 (recs_wfR hwf HRo.out.ans) (recs_wfR hwf HRo.out.auth)) hm7
      have e : msg7V (resFull m R).hd (.slice (some ⟨gq, oq, none⟩) m.qs.length qc) (.slice A1 la.length c1) (.slice A2 ua.length c2) (.slice none 0 0) (resFull m R).he (resFull m R).ed (.slice none 0 0) = .agg #[.int .u16 m.hd.id, .bool true, .int .u8 0, .bool false, .bool false, .bool m.hd.rd, .bool true, .bool false, .bool false, .bool false, .int .u8 R.code, .slice (some ⟨gq, oq, none⟩) m.qs.length qc, .slice A1 la.length c1, .slice A2 ua.length c2, .slice none 0 0, .bool true, .int .u16 4096, .int .u8 0, .int .u8 0, .int .u16 0, .slice none 0 0] := by unfold resFull resMsg; dsimp only; rw [HHe.out]; rfl
      rw [e] at h; exact h)
    have HRd := Lib.hid (show resBy m R = (if encErr (resFull m R) = 0 ∧ ((encOf (resFull m R)).length : Int) ≤ resRoom m then encOf (resFull m R) else encOf (resCut m R)) from rfl)
    rw [HRm.out] at HRd
    unfold EncPost at HEn
    obtain ⟨fs, hfs⟩ : ∃ fs, fs = encOf (resFull m R) := ⟨_, rfl⟩
    obtain ⟨fe, hfe⟩ : ∃ fe, fe = encErr (resFull m R) := ⟨_, rfl⟩
    rw [← hfs, ← hfe] at HRd HEn
    clear hX13 k13 f13 r13 ho2 ho13 ho1b hm7 hfs hfe
    go_wp2_with (first | (refine load_rowR (by rfl) 45 (.tmp 10) rfl b10 rfl 45 _ _ _ r13' Tryz.underlying45 rfl (by kernel_rfl) ?_) | fail)
    refine HEn.out.mono ?_
    rintro e w14 ⟨rfl, hE14⟩
    have r14 := (hE14.block _ (Array.getElem?_eq_some_iff.1 r13').1).trans r13'
    by_cases hfit : fe = 0 ∧ ((fs.length : Nat) : Int) ≤ (max 512 m.ed.size)
    · have HR2 := Lib.hid (show resBy m R = fs from by rw [HRd.out, if_pos hfit])
      have g1 : ((fe : Int) == 0) = true := by rw [hfit.1]; rfl
      have g2 := hfit.2
      clear hfit
      go_wp2_with fail
      go_ret
      exact ⟨by rw [HN.out, HN2.out, HR2.out]; rfl, hw13.trans hE14⟩
    have HR2 := Lib.hid (show resBy m R = encOf (resCut m R) from by rw [HRd.out, if_neg hfit])
    have HNf := Lib.hid hfit
    clear hfit
    go_upto_region 15 with fail
    go_cut [92] (fun s92 wx => s92 = .bool false ∧ w14 = wx)
    case first =>
      by_cases hf0 : fe = 0
      · have hl : ¬ ((fs.length : Nat) : Int) ≤ (max 512 m.ed.size) := fun h => HNf.out ⟨hf0, h⟩
        have g1 : ((fe : Int) == 0) = true := by rw [hf0]; rfl
        clear hf0
        go_wp2_with fail
        go_meet
        exact ⟨rfl, rfl⟩
      · have g1 : ((fe : Int) == 0) = false := by rw [beq_eq_false_iff_ne]; omega
        clear hf0
        go_wp2_with fail
        go_meet
        exact ⟨rfl, rfl⟩
    case rest =>
      obtain ⟨rfl, rfl⟩ := hcut
      have k4 := box_cell (j := 4) r14 rfl
      have k12 := box_cell (j := 12) r14 rfl
      have k13 := box_cell (j := 13) r14 rfl
      have f4 := box_free (j := 4) r14
      have f12 := box_free (j := 12) r14
      have f13 := box_free (j := 13) r14
      have HCe := Lib.hid (resCut_enc (q := m) HY.out HYm.out (code := R.code) HCd.out.2 true)
      go_upto_region 18 with fail
      obtain ⟨X17, hX17⟩ : ∃ X17, X17 = ((w14.setCell ⟨b10, 4, none⟩ (.bool true)).setCell ⟨b10, 12, none⟩ (.slice none 0 0)).setCell ⟨b10, 13, none⟩ (.slice none 0 0) := ⟨_, rfl⟩
      rw [← hX17]
      have r17 : X17.heap[b10]? = some (.cells #[.int .u16 m.hd.id, .bool true, .int .u8 0, .bool false, .bool true, .bool m.hd.rd, .bool true, .bool false, .bool false, .bool false, .int .u8 R.code, .slice (some ⟨gq, oq, none⟩) m.qs.length qc, .slice none 0 0, .slice none 0 0, .slice none 0 0, .bool true, .int .u16 4096, .int .u8 0, .int .u8 0, .int .u16 0, .slice none 0 0] 45) := by rw [hX17]; exact row_set (row_set (row_set r14 4 _) 12 _) 13 _
      have hE17 : Ext w6 X17 := by rw [hX17]; exact (((hE13'.trans hE14).setCell hb106 _).setCell hb106 _).setCell hb106 _
      have hm7 : Msg7 X17 (resCut m R) (.slice (some ⟨gq, oq, none⟩) m.qs.length qc) (.slice none 0 0) (.slice none 0 0) (.slice none 0 0) (.slice none 0 0) := by
        have h7 := (((HM.out.lower (Nat.zero_le _)).ext (hY5.trans ((hX6.trans hE17)))).msg7 hBd)
        exact ⟨h7.qs, recs_nil0 _, recs_nil0 _, recs_nil0 _, opts_nil0 _ _ (edSize_ok m.he).2, h7.qok, (by intro r hr; cases hr), (by intro r hr; cases hr), (by intro r hr; cases hr), Nat.zero_le _⟩
      have hw17 : Ext w X17 := hE06.trans hE17
      have HEc := Lib.hid (show Calls Tryz.prog 20 #[.agg #[.int .u16 m.hd.id, .bool true, .int .u8 0, .bool false, .bool true, .bool m.hd.rd, .bool true, .bool false, .bool false, .bool false, .int .u8 R.code, .slice (some ⟨gq, oq, none⟩) m.qs.length qc, .slice none 0 0, .slice none 0 0, .slice none 0 0, .bool true, .int .u16 4096, .int .u8 0, .int .u8 0, .int .u16 0, .slice none 0 0]] X17 (EncPost (resCut m R) X17) from by
        have h := wire_encode (resCut m R) _ _ _ _ _ X17 (hg.ext hw17) (hb.ext hw17) (resMsg_wf HW.out.1 true HCd.out.1 (by intro r hr; cases hr) (by intro r hr; cases hr)) hm7
        have e : msg7V (resCut m R).hd (.slice (some ⟨gq, oq, none⟩) m.qs.length qc) (.slice none 0 0) (.slice none 0 0) (.slice none 0 0) (resCut m R).he (resCut m R).ed (.slice none 0 0) = .agg #[.int .u16 m.hd.id, .bool true, .int .u8 0, .bool false, .bool true, .bool m.hd.rd, .bool true, .bool false, .bool false, .bool false, .int .u8 R.code, .slice (some ⟨gq, oq, none⟩) m.qs.length qc, .slice none 0 0, .slice none 0 0, .slice none 0 0, .bool true, .int .u16 4096, .int .u8 0, .int .u8 0, .int .u16 0, .slice none 0 0] := by unfold resCut resMsg; dsimp only; rw [HHe.out]; rfl
        rw [e] at h; exact h)
      unfold EncPost at HEc
      have hce : encErr (resCut m R) = 0 := HCe.out.1
      rw [hce] at HEc
      obtain ⟨cs, hcs⟩ : ∃ cs, cs = encOf (resCut m R) := ⟨_, rfl⟩
      rw [← hcs] at HEc HR2
      clear hX17 k4 k12 k13 f4 f12 f13 hm7 hce hcs
      go_wp2_with (first | (refine load_rowR (by rfl) 45 (.tmp 10) rfl b10 rfl 45 _ _ _ r17 Tryz.underlying45 rfl (by kernel_rfl) ?_) | fail)
      refine HEc.out.mono ?_
      rintro e w18 ⟨rfl, hE18⟩
      go_wp2_with fail
      go_ret
      exact ⟨by rw [HN.out, HN2.out, HR2.out]; rfl, hw17.trans hE18⟩
end Go.Proofs.YtdnpmapelmjfpaaGreatDoor
