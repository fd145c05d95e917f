/- Contracts of functions and plain lemmas that the proofs of this seat share (joined texts). No condition. -/
import Derived.Test.YtjmfpillnbnofaaDoorBwp
import Derived.Test.YtjmfpillnbnofaaDoorBa
import Derived.Test.YtjmfpillnbnofaaDoorBb
import Derived.Test.YtjmfpillnbnofaaDoorBc
import Derived.OwnWalk
import Derived.Test.YtjmfpillnbnofaaDoorBwm
import Derived.Deep.RegionLaw
import Derived.Deep.DeepCutAuto
import Derived.Test.YtjmfpillnbnofaaDoorBd
import Derived.Laws.CopyRow
import Derived.Laws.IdiomStrings
import Derived.WalkLawsBesides
import Derived.Test.YtjmfpillnbnofaaDoorBht
namespace Go.Proofs.YtjmfpillnbnofaaDoor
set_option linter.unusedSimpArgs false
set_option linter.unusedVariables false
open Go.RowKit
set_option maxRecDepth 100000

theorem u8_nat (n : Nat) : IntKind.u8.wrap (n : Int) = ((UInt8.ofNat n).toNat : Int) := by
  rw [UInt8.toNat_ofNat']
  show (n : Int) % _ = _
  exact rfl
/-- What a call hands back: bytes that are the call's own. -/
def BytesPost (x : List UInt8) (w : World) (e : Ending) (w' : World) : Prop :=
  ∃ A c, e = .returned (.slice A x.length c) ∧ Own w' w.heap.size 5 1 A x.length c (x.map U8) ∧ Ext w w'
theorem ext_grown {w w' : World} (h : w.grownBy w' none) : Ext w w' := (Below.refl _ _).grown h (Nat.le_refl _) (fun k hk => by cases hk)
theorem cur_put (lo lo' : Nat) (A : Option Addr) (c : Nat) (B : Option Addr) (d : Nat) (l m : List UInt8) (w : World) (ha : Rd w lo 1 A l.length (l.map U8)) (hb : Rd w lo' 1 B m.length (m.map U8))
    (hl : l.length ≤ 1073741824) (hm : m.length ≤ 1073741824) :
    Calls Tryd.prog 51 #[.slice A l.length c, .slice B m.length d] w (BytesPost (l ++ m) w) := by
  obtain ⟨i0, hi0, hz0, hz1, hz2⟩ := info_parts info_u8
  go_enter Tryd.func51, Tryd.ntmps51
  go_wp2_with (first
    | (refine wpList_make_own _ rfl _ _ _ rfl w.heap.size 5 i0 _ 1 Tryd.underlying63 hi0 hz0 hz1 _ _ _ (l.length + m.length) rfl rfl (by go_num) (by rw [hz2]; omega) (by unfold maxLen; omega) (Nat.le_refl _) ?_
       intro w1 ho1 hg1
       have hE1 := ext_grown hg1)
    | (at_builtin
       refine wpList_app _ rfl (.tmp 12) (.tmp 13) _ rfl w.heap.size 5 i0 _ 1 1 Tryd.underlying63 hi0 hz0 hz1 hz2 rfl (by omega) (some ⟨w.heap.size, 0, none⟩) 0 (l.length + m.length) [] rfl ho1 lo A l.length c (l.map U8) rfl (ha.ext hE1) (u8_one _) (by omega) (by omega) hE1.size ?_
       intro A2 c2 w2 ho2 hg2 hb2 _
       rw [Nat.zero_add, List.nil_append] at ho2
       rw [Nat.zero_add]
       have hE2 : Ext w w2 := hE1.then hb2 (Nat.le_refl _))
    | (at_builtin
       refine wpList_app _ rfl (.tmp 15) (.tmp 16) _ rfl w.heap.size 5 i0 _ 1 1 Tryd.underlying63 hi0 hz0 hz1 hz2 rfl (by omega) A2 l.length c2 (l.map U8) rfl ho2 lo' B m.length d (m.map U8) rfl (hb.ext hE2) (u8_one _) (by omega) (by omega) hE2.size ?_
       intro A3 c3 w3 ho3 hg3 hb3 _
       have hE3 : Ext w w3 := hE2.then hb3 (Nat.le_refl _)))
  go_ret
  refine ⟨A3, c3, by rw [List.length_append]; rfl, ?_, hE3⟩
  rw [List.length_append, List.map_append]; exact ho3
theorem u8_val (k : Nat) (n : Int) (h : n = (k : Int)) : Value.int .u8 (n % 256) = U8 (UInt8.ofNat k) := by
  subst h
  show Value.int .u8 _ = .int .u8 (((UInt8.ofNat k).toNat : Nat) : Int)
  rw [UInt8.toNat_ofNat']
  exact congrArg _ rfl
theorem two_cells (n : Int) (h0 : 0 ≤ n) (h1 : n ≤ 65535) : [Value.int .u8 (n / 256), .int .u8 (n % 256)] = (two n.toNat).map U8 := by
  obtain ⟨k, rfl⟩ := Int.eq_ofNat_of_zero_le h0
  have e1 := u8_val (k / 256) ((k : Int) / 256) (by omega)
  have e2 := u8_val k (k : Int) rfl
  rw [show (k : Int) / 256 % 256 = (k : Int) / 256 by omega] at e1
  rw [e1, e2]
  rfl
theorem cur_put2 (lo : Nat) (A : Option Addr) (c : Nat) (l : List UInt8) (n : Int) (w : World) (ha : Rd w lo 1 A l.length (l.map U8)) (hl : l.length ≤ 1073741822) (h0 : 0 ≤ n ∧ n ≤ 65535) :
    Calls Tryd.prog 38 #[.slice A l.length c, .int .u16 n] w (BytesPost (l ++ two n.toNat) w) := by
  have htc := two_cells n h0.1 h0.2
  obtain ⟨x, y, hxy⟩ : ∃ x y, two n.toNat = [x, y] := ⟨_, _, rfl⟩
  rw [hxy] at htc
  have hr : Rd (w.alloc (.cells #[.int .u8 (n / 256), .int .u8 (n % 256)] 5)) 0 1 (some ⟨w.heap.size, 0, none⟩) 2 ([x, y].map U8) := by
    rw [show (#[.int .u8 (n / 256), .int .u8 (n % 256)] : Array Value) = ([Value.int .u8 (n / 256), .int .u8 (n % 256)]).toArray from rfl, htc]
    exact rd_new w w.heap.size rfl _ _ 2 1 rfl
  have hC := Lib.hid (cur_put lo 0 A c (some ⟨w.heap.size, 0, none⟩) 2 l [x, y] _ (ha.ext ((Ext.refl w).alloc _)) hr (by omega) (by simp))
  rw [hxy]
  clear htc hr hxy
  go_enter Tryd.func38, Tryd.ntmps38
  go_wp2_with fail
  refine hC.out.mono ?_; rintro e w1 ⟨A1, c1, rfl, ho, hE⟩
  go_wp2_with fail
  go_ret
  exact ⟨A1, c1, by rw [List.length_append]; rfl, ho.lower (by simp), ((Ext.refl w).alloc _).trans hE⟩
theorem four_cells (n : Int) (h0 : 0 ≤ n) (h1 : n ≤ 4294967295) : [Value.int .u8 (n / 16777216), .int .u8 (n / 65536 % 256), .int .u8 (n / 256 % 256), .int .u8 (n % 256)] = (four n.toNat).map U8 := by
  obtain ⟨k, rfl⟩ := Int.eq_ofNat_of_zero_le h0
  have e1 := u8_val (k / 16777216) ((k : Int) / 16777216) (by omega)
  have e2 := u8_val (k / 65536) ((k : Int) / 65536) (by omega)
  have e3 := u8_val (k / 256) ((k : Int) / 256) (by omega)
  have e4 := u8_val k (k : Int) rfl
  rw [show (k : Int) / 16777216 % 256 = (k : Int) / 16777216 by omega] at e1
  rw [e1, e2, e3, e4]
  rfl
theorem cur_put4 (lo : Nat) (A : Option Addr) (c : Nat) (l : List UInt8) (n : Int) (w : World) (ha : Rd w lo 1 A l.length (l.map U8)) (hl : l.length ≤ 1073741820) (h0 : 0 ≤ n ∧ n ≤ 4294967295) :
    Calls Tryd.prog 53 #[.slice A l.length c, .int .u32 n] w (BytesPost (l ++ four n.toNat) w) := by
  have htc := four_cells n h0.1 h0.2
  obtain ⟨x, y, z, u, hxy⟩ : ∃ x y z u, four n.toNat = [x, y, z, u] := ⟨_, _, _, _, rfl⟩
  rw [hxy] at htc
  have hr : Rd (w.alloc (.cells #[.int .u8 (n / 16777216), .int .u8 (n / 65536 % 256), .int .u8 (n / 256 % 256), .int .u8 (n % 256)] 5)) 0 1 (some ⟨w.heap.size, 0, none⟩) 4 ([x, y, z, u].map U8) := by
    rw [show (#[.int .u8 (n / 16777216), .int .u8 (n / 65536 % 256), .int .u8 (n / 256 % 256), .int .u8 (n % 256)] : Array Value) = ([Value.int .u8 (n / 16777216), .int .u8 (n / 65536 % 256), .int .u8 (n / 256 % 256), .int .u8 (n % 256)]).toArray from rfl, htc]
    exact rd_new w w.heap.size rfl _ _ 4 1 rfl
  have hC := Lib.hid (cur_put lo 0 A c (some ⟨w.heap.size, 0, none⟩) 4 l [x, y, z, u] _ (ha.ext ((Ext.refl w).alloc _)) hr (by omega) (by simp))
  rw [hxy]
  clear htc hr hxy
  go_enter Tryd.func53, Tryd.ntmps53
  go_wp2_with fail
  refine hC.out.mono ?_; rintro e w1 ⟨A1, c1, rfl, ho, hE⟩
  go_wp2_with fail
  go_ret
  exact ⟨A1, c1, by rw [List.length_append]; rfl, ho.lower (by simp), ((Ext.refl w).alloc _).trans hE⟩
end Go.Proofs.YtjmfpillnbnofaaDoor
namespace Go.Proofs.YtjmfpillnbnofaaDoor
set_option linter.unusedSimpArgs false
set_option linter.unusedVariables false
open Go.RowKit
set_option maxRecDepth 100000

/-- A table stands in box tp. -/
def TabAt (w : World) (lo tp : Nat) (T : Tab) : Prop := lo ≤ tp ∧ TabNd T ∧
  ((w.heap[tp]? = some (.cells #[.map none] 126) ∧ T = []) ∨ ∃ b, w.heap[tp]? = some (.cells #[.map (some b)] 126) ∧ lo ≤ b ∧ TMap w b T)
/-- All blocks of cells but one stay. -/
def KeptC (tp : Nat) (w w' : World) : Prop := w.heap.size ≤ w'.heap.size ∧ ∀ (g : Nat) (cs : Array Value) (t : TypeId) (m : Nat × Nat), g ≠ tp → w.heap[g]? = some (.cells cs t m) → w'.heap[g]? = some (.cells cs t m)
theorem KeptC.refl (tp : Nat) (w : World) : KeptC tp w w := ⟨Nat.le_refl _, fun _ _ _ _ _ h => h⟩
theorem KeptC.trans {tp : Nat} {a b c : World} (h : KeptC tp a b) (k : KeptC tp b c) : KeptC tp a c := ⟨Nat.le_trans h.1 k.1, fun g cs t m hne hg => k.2 g cs t m hne (h.2 g cs t m hne hg)⟩
theorem KeptC.ext {tp : Nat} {w w' : World} (h : Ext w w') : KeptC tp w w' := ⟨h.size, fun g cs t m _ hg => (h.block g (Array.getElem?_eq_some_iff.1 hg).1).trans hg⟩
theorem KeptC.set {tp : Nat} (w : World) (j : Nat) (u : Value) : KeptC tp w (w.setCell ⟨tp, j, none⟩ u) := ⟨by simp, fun g cs t m hne hg => (Below.heap_setCell w ⟨tp, j, none⟩ u g hne).trans hg⟩
theorem TabAt.lt {w : World} {lo tp : Nat} {T : Tab} (h : TabAt w lo tp T) : tp < w.heap.size := by
  obtain ⟨_, _, h | ⟨b, h, _⟩⟩ := h
  · exact (Array.getElem?_eq_some_iff.1 h.1).1
  · exact (Array.getElem?_eq_some_iff.1 h).1
theorem TabAt.ext {w w' : World} {lo tp : Nat} {T : Tab} (h : TabAt w lo tp T) (hE : Ext w w') : TabAt w' lo tp T := by
  have hlt := h.lt
  obtain ⟨h1, h2, h | ⟨b, h, h3, h4⟩⟩ := h
  · exact ⟨h1, h2, .inl ⟨(hE.block tp hlt).trans h.1, h.2⟩⟩
  · exact ⟨h1, h2, .inr ⟨b, (hE.block tp hlt).trans h, h3, h4.ext hE⟩⟩
/-- The table stays where another block of cells is written or grows. -/
theorem TabAt.kept {w w' : World} {lo tp : Nat} {T : Tab} (h : TabAt w lo tp T) {row : Option Nat} (hg : w.grownBy w' row) (hr : ∀ k, row = some k → k ≠ tp ∧ ∃ cs t m, w.heap[k]? = some (.cells cs t m)) : TabAt w' lo tp T := by
  have hlt := h.lt
  have hne : some tp ≠ row := fun e => (hr tp e.symm).1 rfl
  obtain ⟨h1, h2, h | ⟨b, h, h3, h4⟩⟩ := h
  · exact ⟨h1, h2, .inl ⟨(hg.block tp hlt hne).trans h.1, h.2⟩⟩
  · refine ⟨h1, h2, .inr ⟨b, (hg.block tp hlt hne).trans h, h3, h4.kept hg fun e => ?_⟩⟩
    obtain ⟨cs, t, m, hc⟩ := (hr b e.symm).2
    obtain ⟨es, clock, hb, _⟩ := h4
    rw [hb] at hc; cases hc
theorem comp_new (w : World) : Calls Tryd.prog 35 #[] w fun e w' => e = .returned (.pointer (some ⟨w.heap.size, 0, none⟩)) ∧ w' = w.alloc (.cells #[.map none] 126) := by
  go_enter Tryd.func35, Tryd.ntmps35
  go_wp2_with fail
  go_ret
  exact ⟨rfl, rfl⟩
theorem TabAt.new (w : World) (lo : Nat) (h : lo ≤ w.heap.size) : TabAt (w.alloc (.cells #[.map none] 126)) lo w.heap.size [] := ⟨h, tabNd_nil, .inl ⟨heap_alloc_new w _, rfl⟩⟩
theorem tab_add (lo tp : Nat) (T : Tab) (n : List UInt8) (k : Nat) (w : World) (h : TabAt w lo tp T) (hn : n.length ≤ 255) (hk : k ≤ 16383) (hno : tabAt T n = none) :
    Calls Tryd.prog 64 #[.pointer (some ⟨tp, 0, none⟩), S n, .int .i64 (k : Int)] w fun e w' => e = .returned (.tuple #[]) ∧ TabAt w' lo tp (T ++ [(n, k)]) ∧ Below lo w w' ∧ KeptC tp w w' := by
  have hnd : TabNd (T ++ [(n, k)]) := by
    have := tabNd_put (known := true) (pos := k) h.2.1 hn
    unfold tabPut at this
    rw [if_pos ⟨rfl, hno, hk⟩] at this
    exact this
  have hmm := @run_makeMap Tryd.prog
  have hq0 : ∀ W : World, (binOp BinOp.eql 124 (.map none) (.map none)).run Tryd.prog W = .ok (.bool true) W := fun _ => by kernel_rfl
  have hq1 : ∀ (b : Nat) (W : World), (binOp BinOp.eql 124 (.map (some b)) (.map none)).run Tryd.prog W = .ok (.bool false) W := fun _ _ => by kernel_rfl
  obtain ⟨h1, h2, ⟨h, rfl⟩ | ⟨b, h, h3, h4⟩⟩ := h
  · have c0 : w.cell? ⟨tp, 0, none⟩ = some (.map none) := by simp [World.cell?, h]
    have f0 : w.frozen? ⟨tp, 0, none⟩ = false := by simp [World.frozen?, h]
    have hz := (Array.getElem?_eq_some_iff.1 h).1
    have hsz : (w.setCell ⟨tp, 0, none⟩ (.map (some w.heap.size))).heap.size = w.heap.size := by simp
    have hT : TMap ((w.setCell ⟨tp, 0, none⟩ (.map (some w.heap.size))).alloc (.map #[] 0)) w.heap.size [] := by
      have := TMap.made (w.setCell ⟨tp, 0, none⟩ (.map (some w.heap.size)))
      rw [hsz] at this; exact this
    have hh : ((w.setCell ⟨tp, 0, none⟩ (.map (some w.heap.size))).alloc (.map #[] 0)).heap[tp]? = some (.cells #[.map (some w.heap.size)] 126) := by
      refine (heap_alloc_old _ _ (by rw [hsz]; exact hz)).trans ?_
      simp [World.setCell, Array.getElem?_modify, h]
    obtain ⟨W2, hup, hT2, hg2⟩ := hT.store n k (by unfold maxLen; omega) rfl
    have hB : Below lo w W2 := ((((Below.refl lo w).setCell h1 _).alloc (by rw [hsz]; omega) (.map #[] 0))).grown hg2 (by simp; omega) (fun j hj => by injection hj with hj; omega)
    have hK : KeptC tp w W2 := by
      refine ((KeptC.set w 0 _).trans (KeptC.ext ((Ext.refl _).alloc (.map #[] 0)))).trans ⟨hg2.size, fun g cs t m _ hg => (hg2.block g (Array.getElem?_eq_some_iff.1 hg).1 (fun e => ?_)).trans hg⟩
      injection e with e; subst e
      obtain ⟨es, clock, hb, _⟩ := hT
      rw [hb] at hg; cases hg
    have hh2 := (hg2.block tp (by simp; omega) (fun e => by injection e with e; omega)).trans hh
    clear hh hT hsz
    go_enter Tryd.func64, Tryd.ntmps64
    go_wp2_with fail
    go_end0
    exact ⟨rfl, ⟨h1, hnd, .inr ⟨_, hh2, by omega, hT2⟩⟩, hB, hK⟩
  · have c0 : w.cell? ⟨tp, 0, none⟩ = some (.map (some b)) := by simp [World.cell?, h]
    obtain ⟨W2, hup, hT2, hg2⟩ := h4.store n k (by unfold maxLen; omega) hno
    have hz := (Array.getElem?_eq_some_iff.1 h).1
    have hne : some tp ≠ some b := fun e => by
      injection e with e; subst e
      obtain ⟨es, clock, hb, _⟩ := h4
      rw [hb] at h; cases h
    have hh := (hg2.block tp hz hne).trans h
    have hB : Below lo w W2 := (Below.refl lo w).grown hg2 (by omega) (fun j hj => by injection hj with hj; omega)
    have hK : KeptC tp w W2 := ⟨hg2.size, fun g cs t m _ hg => (hg2.block g (Array.getElem?_eq_some_iff.1 hg).1 (fun e => by
      injection e with e; subst e
      obtain ⟨es, clock, hb, _⟩ := h4
      rw [hb] at hg; cases hg)).trans hg⟩
    clear h4
    go_enter Tryd.func64, Tryd.ntmps64
    go_wp2_with fail
    go_end0
    exact ⟨rfl, ⟨h1, hnd, .inr ⟨_, hh, h3, hT2⟩⟩, hB, hK⟩
end Go.Proofs.YtjmfpillnbnofaaDoor
namespace Go.Proofs.YtjmfpillnbnofaaDoor
set_option linter.unusedSimpArgs false
set_option linter.unusedVariables false
open Go.RowKit
set_option maxRecDepth 100000

theorem Own.keptC {w w' : World} {lo : Nat} {e : TypeId} {sz n c : Nat} {A : Option Addr} {xs : List Value} {tp : Nat} (h : Own w lo e sz A n c xs) (hk : KeptC tp w w') (hne : (Value.slice A n c).ownBlock ≠ some tp) : Own w' lo e sz A n c xs := by
  refine ⟨h.1, ?_⟩
  rcases h.2 with h1 | ⟨g, cap, cur, h1, hg, hh, h4⟩
  · exact .inl h1
  · refine .inr ⟨g, cap, cur, h1, hg, hk.2 g _ _ _ (fun e => hne ?_) hh, h4⟩
    rw [h1, e]; rfl
theorem Own.row {w : World} {lo : Nat} {e : TypeId} {sz n c : Nat} {A : Option Addr} {xs : List Value} (h : Own w lo e sz A n c xs) : ∀ k, (Value.slice A n c).ownBlock = some k → ∃ cur, w.heap[k]? = some (.cells cur e (0, 0)) := by
  intro k hk
  rcases h.2 with ⟨h1, _⟩ | ⟨g, cap, cur, h1, hg, hh, _⟩
  · rw [h1] at hk; cases hk
  · rw [h1] at hk
    injection hk with hk
    exact ⟨cur, by rw [← hk]; exact hh⟩
/-- Bytes of its own are not the table's box. -/
theorem own_tab {w : World} {lo lo' tp : Nat} {n c : Nat} {A : Option Addr} {xs : List Value} {T : Tab} (h : Own w lo 5 1 A n c xs) (ht : TabAt w lo' tp T) : (Value.slice A n c).ownBlock ≠ some tp := fun e => by
  obtain ⟨cur, hc⟩ := h.row tp e
  obtain ⟨_, _, ⟨h1, _⟩ | ⟨b, h1, _⟩⟩ := ht
  · rw [h1] at hc; injection hc with hc; injection hc with _ hc; cases hc
  · rw [h1] at hc; injection hc with hc; injection hc with _ hc; cases hc
theorem TabAt.keptO {w w' : World} {lo lo' tp n c : Nat} {A : Option Addr} {xs : List Value} {T : Tab} (ht : TabAt w lo' tp T) (h : Own w lo 5 1 A n c xs) (hg : w.grownBy w' (Value.slice A n c).ownBlock) : TabAt w' lo' tp T :=
  ht.kept hg fun k hk => ⟨fun e => by subst e; exact own_tab h ht hk, by obtain ⟨cur, hc⟩ := h.row k hk; exact ⟨_, _, _, hc⟩⟩
/-- Growing bytes that are new keeps all old blocks of cells. -/
theorem KeptC.grown {W w w' : World} {tp lo n c : Nat} {A : Option Addr} {xs : List Value} (hk : KeptC tp W w) (ho : Own w lo 5 1 A n c xs) (hlo : W.heap.size ≤ lo) (hg : w.grownBy w' (Value.slice A n c).ownBlock) : KeptC tp W w' := by
  refine ⟨Nat.le_trans hk.1 hg.size, fun g cs t m hne hh => ?_⟩
  have h1 := hk.2 g cs t m hne hh
  refine (hg.block g (Array.getElem?_eq_some_iff.1 h1).1 (fun e => ?_)).trans h1
  have := (ho.blk g e.symm).1
  have := (Array.getElem?_eq_some_iff.1 hh).1
  omega
theorem lookup_none (n : List UInt8) (hn : n.length ≤ maxLen) (w : World) : (Instr.lookup 124 (.map none) (S n) true).run Tryd.prog w = .ok (.tuple #[.int .i64 (((tabAt [] n).getD 0 : Nat) : Int), .bool (tabAt [] n).isSome]) w := by
  obtain ⟨kl, hkl⟩ := keyOf_str n hn
  rcases strLaw.find w hkl [] (by simp) with ⟨f1, _⟩ | ⟨j, e0, _, f2, _⟩
  · simp [Instr.lookup, run_underlying Tryd.underlying124, strLaw.check w _ hkl, f1, Tryd.zeroValue3, Result.andThen, tabAt]
  · simp at f2
structure PtInv (w : World) (tp lo : Nat) (cmp known : Bool) (n : List UInt8) (R : List UInt8 × Tab) (k : Nat) (X : List UInt8) (A : Option Addr) (c : Nat) (wr : World) : Prop where
  kl : k ≤ n.length
  ps : (parse (n.drop k)).isSome = true
  bd : X.length + (n.drop k).length ≤ 1073742079
  own : Own wr w.heap.size 5 1 A X.length c (X.map U8)
  tab : ∃ T1, TabAt wr lo tp T1 ∧ (X ++ (putN cmp known X.length (n.drop k) T1).1, (putN cmp known X.length (n.drop k) T1).2) = R
  blw : Below lo w wr
  kc : KeptC tp w wr
theorem or_192 (k : Nat) (h : k < 64) : bits BinOp.or IntKind.u8 192 (k : Int) = 192 + k := by
  have : ∀ k : Fin 64, bits BinOp.or IntKind.u8 192 ((k.val : Nat) : Int) = 192 + (k.val : Nat) := by decide
  exact this ⟨k, h⟩
theorem ptr_cells (k : Nat) (h : k ≤ 16383) : [Value.int .u8 (bits BinOp.or IntKind.u8 192 ((k : Int) / 256)), .int .u8 ((k : Int) % 256)] = (ptrB k).map U8 := by
  have e1 : ((k : Int) / 256) = ((k / 256 : Nat) : Int) := by omega
  have e2 := u8_val k (k : Int) rfl
  rw [e1, or_192 _ (by omega), e2]
  have e3 : (192 + ((k / 256 : Nat) : Int)) = (((UInt8.ofNat (192 + k / 256)).toNat : Nat) : Int) := by
    rw [UInt8.toNat_ofNat']; omega
  rw [e3]
  rfl
theorem put_step {cmp known : Bool} {X nk lab r : List UInt8} {b : UInt8} {T1 T2 : Tab} {R : List UInt8 × Tab} (h1 : (X ++ (putN cmp known X.length nk T1).1, (putN cmp known X.length nk T1).2) = R) (hnk : nk = b :: r) (h0 : b ≠ 0)
    (hn : ¬ ((tabAt T1 nk).isSome = true ∧ cmp = true)) (hlab : lab = b :: r.take b.toNat) (hb : b.toNat ≤ r.length) (hT : tabPut known nk X.length T1 = T2) :
    ((X ++ lab) ++ (putN cmp known (X ++ lab).length (r.drop b.toNat) T2).1, (putN cmp known (X ++ lab).length (r.drop b.toNat) T2).2) = R := by
  subst hnk hlab hT
  have hl : (X ++ b :: r.take b.toNat).length = X.length + (1 + b.toNat) := by
    simp only [List.length_append, List.length_cons, List.length_take]; omega
  rw [← h1, putN_step h0 hn, hl]
  simp
theorem pt_step {w wo W1 W2 : World} {tp lo : Nat} {cmp known : Bool} {n nk lab X : List UInt8} {R : List UInt8 × Tab} {k c3 c4 : Nat} {A3 A4 : Option Addr} {b : UInt8} {T1 T2 : Tab} (hI : PtInv w tp lo cmp known n R k X A3 c3 wo)
    (hR : (X ++ (putN cmp known X.length nk T1).1, (putN cmp known X.length nk T1).2) = R) (hnk : nk = b :: n.drop (k + 1)) (h0 : b ≠ 0) (hn : ¬ ((tabAt T1 nk).isSome = true ∧ cmp = true)) (hlab : lab = b :: (n.drop (k + 1)).take b.toNat)
    (hb : b.toNat < n.length - (k + 1)) (hp : (parse ((n.drop (k + 1)).drop b.toNat)).isSome = true) (hT : tabPut known nk X.length T1 = T2) (hT2 : TabAt W1 lo tp T2) (hB : Below lo wo W1) (hK : KeptC tp wo W1)
    (ho1 : Own W1 w.heap.size 5 1 A3 X.length c3 (X.map U8)) (ho4 : Own W2 w.heap.size 5 1 A4 (X.length + lab.length) c4 (X.map U8 ++ lab.map U8)) (hg : W1.grownBy W2 (Value.slice A3 X.length c3).ownBlock) (hB4 : Below w.heap.size W1 W2) (hlo : lo ≤ w.heap.size) :
    PtInv w tp lo cmp known n R (k + (1 + b.toNat)) (X ++ lab) A4 c4 W2 := by
  have hd : n.drop (k + (1 + b.toNat)) = (n.drop (k + 1)).drop b.toNat := by rw [List.drop_drop, Nat.add_assoc]
  have hll : lab.length = 1 + b.toNat := by rw [hlab]; simp only [List.length_cons, List.length_take, List.length_drop]; omega
  have hbd := hI.bd
  rw [List.length_drop] at hbd
  refine ⟨by omega, by rw [hd]; exact hp, ?_, by rw [List.length_append, List.map_append]; exact ho4, ⟨T2, hT2.keptO ho1 hg, ?_⟩, (hI.blw.trans hB).trans (hB4.mono hlo), ((hI.kc.trans hK)).grown ho1 (Nat.le_refl _) hg⟩
  · rw [List.length_append, List.length_drop]; omega
  · rw [hd]
    exact put_step hR hnk h0 hn hlab (by rw [List.length_drop]; omega) hT
/-- What Put hands back: bytes of the call's own, and the table then. -/
def TPutPost (tp lo : Nat) (R : List UInt8 × Tab) (w : World) (e : Ending) (w' : World) : Prop :=
  ∃ A c, e = .returned (.tuple #[.slice A R.1.length c, .int .i64 0]) ∧ Own w' w.heap.size 5 1 A R.1.length c (R.1.map U8) ∧ TabAt w' lo tp R.2 ∧ Below lo w w' ∧ KeptC tp w w'
set_option maxHeartbeats 4000000 in
theorem tab_put (lo tp lo' : Nat) (T : Tab) (A : Option Addr) (c : Nat) (l n : List UInt8) (cmp known : Bool) (w : World) (ht : TabAt w lo tp T) (ha : Rd w lo' 1 A l.length (l.map U8)) (hl : l.length ≤ 1073741824) (hn : may n = true) :
    Calls Tryd.prog 50 #[.pointer (some ⟨tp, 0, none⟩), .slice A l.length c, S n, .bool cmp, .bool known] w (TPutPost tp lo (l ++ (putN cmp known l.length n T).1, (putN cmp known l.length n T).2) w) := by
  obtain ⟨i0, hi0, hz0, hz1, hz2⟩ := info_parts info_u8
  have hlt := ht.lt
  have hn255 := may_le hn
  have hpn := may_parse hn
  have hMay := Lib.hid (fun W => name_may n W (by unfold maxLen; omega))
  simp only [hn] at hMay
  obtain ⟨R, hR⟩ : ∃ R, R = (l ++ (putN cmp known l.length n T).1, (putN cmp known l.length n T).2) := ⟨_, rfl⟩
  rw [← hR]
  have HR := Lib.hid hR
  clear hR
  go_enter Tryd.func50, Tryd.ntmps50
  go_wp2_with (first
    | (go_at_call 22; refine (hMay.out _).mono ?_; rintro e w0 ⟨rfl, rfl⟩)
    | (refine wpList_make_own _ rfl _ _ _ rfl w.heap.size 5 i0 _ 1 Tryd.underlying63 hi0 hz0 hz1 _ _ _ (l.length + n.length) rfl rfl (by go_num) (by rw [hz2]; omega) (by unfold maxLen; omega) (Nat.le_refl _) ?_
       intro w1 ho1 hg1
       have hE1 := ext_grown hg1)
    | (at_builtin
       refine wpList_app _ rfl (.tmp 28) (.tmp 29) _ rfl w.heap.size 5 i0 _ 1 1 Tryd.underlying63 hi0 hz0 hz1 hz2 rfl (by omega) (some ⟨w.heap.size, 0, none⟩) 0 (l.length + n.length) [] rfl ho1 lo' A l.length c (l.map U8) rfl (ha.ext hE1) (u8_one _) (by omega) (by omega) hE1.size ?_
       intro A2 c2 w2 ho2 hg2 hb2 _
       rw [Nat.zero_add, List.nil_append] at ho2
       rw [Nat.zero_add]
       have hE2 : Ext w w2 := hE1.then hb2 (Nat.le_refl _))
    | fail)
  go_loopw [10, 11, 12, 13, 14, 15, 16] (fun s10 s11 s12 s13 _ _ _ wr => ∃ (k c : Nat) (X : List UInt8) (A : Option Addr), s10 = .slice none 0 0 ∧ s11 = .int .i64 0 ∧ s12 = .slice A X.length c ∧ s13 = .int .i64 k ∧ PtInv w tp lo cmp known n R k X A c wr) (fun _ _ _ s13 _ _ _ _ => n.length - (intOf s13).toNat)
  case atStart => exact ⟨0, c2, l, A2, rfl, rfl, rfl, rfl, Nat.zero_le _, by simpa using hpn, by simp; omega, ho2, ⟨T, ht.ext hE2, by rw [HR.out]; simp⟩, hE2.mono (by have := ht.1; omega), KeptC.ext hE2⟩
  case round =>
    obtain ⟨k, c3, X, A3, rfl, rfl, rfl, rfl, hI⟩ := hrel
    obtain ⟨wo, rfl⟩ : ∃ wo : World, wo = wr := ⟨_, rfl⟩
    have hk : k < n.length := by
      rcases Nat.lt_or_ge k n.length with h | h
      · exact h
      · have := hI.ps; rw [List.drop_of_length_le h, parse_nil] at this; cases this
    obtain ⟨T1, hT1, hR1⟩ := hI.tab
    obtain ⟨b, Hb, hb1, hb2, hb3⟩ := byte_at n k hk
    have hps := hI.ps
    have hbd := hI.bd
    obtain ⟨nk, hnk⟩ : ∃ nk, nk = n.drop k := ⟨_, rfl⟩
    have hnl : nk.length = n.length - k := by rw [hnk, List.length_drop]
    have hsl : (n.drop k).take (n.length - k) = nk := by rw [hnk]; exact List.take_of_length_le (by rw [List.length_drop]; omega)
    have hdk : nk = b :: n.drop (k + 1) := by rw [hnk, List.drop_eq_getElem_cons hk, Hb.out]
    rw [← hnk] at hps hbd hR1
    have Hdk := Lib.hid hdk
    have HR1 := Lib.hid hR1
    have Hnk := Lib.hid hnk
    rw [hdk] at hps
    clear hnk hdk hR1
    have hki : (k : Int) < (n.length : Int) := by omega
    have hk0 : (0 : Int) ≤ (k : Int) := by omega
    by_cases h0 : b = 0
    · subst h0
      have hr0 := parseZ0 hps
      have ha3 := hI.own
      have hX1 : R = (X ++ [0], T1) := by rw [← HR1.out, Hdk.out, hr0, putN_zero]
      have HX1 := Lib.hid hX1
      clear hX1 hr0
      have hlX : X.length ≤ 1073742079 := by omega
      go_wp2_with (first
        | (at_builtin
           refine wpList_app _ rfl (.tmp 90) (.tmp 91) _ rfl w.heap.size 5 i0 _ 1 1 Tryd.underlying63 hi0 hz0 hz1 hz2 rfl (by omega) A3 X.length c3 (X.map U8) rfl (ha3.ext ((Ext.refl _).alloc _)) 0 _ 1 1 ([(0 : UInt8)].map U8) rfl (rd_new1 wo 0 _ _ (Nat.zero_le _)) (u8_one _) (by omega) (by omega) (Nat.le_trans hI.kc.1 ((Ext.refl wo).alloc _).size) ?_
           intro A4 c4 W2 ho4 hg4 hb4 _)
        | fail)
      go_ret2
      rw [HX1.out]
      have hEa : Ext wo (wo.alloc (.cells #[.int .u8 0] 5)) := (Ext.refl _).alloc _
      refine ⟨A4, c4, by rw [List.length_append]; rfl, ?_, (hT1.ext hEa).keptO (ha3.ext hEa) hg4, (hI.blw.trans (hEa.mono (Nat.le_trans (by have := ht.1; omega) hI.kc.1))).trans (hb4.mono (by have := ht.1; omega)), (hI.kc.trans (KeptC.ext hEa)).grown (ha3.ext hEa) (Nat.le_refl _) hg4⟩
      rw [List.length_append, List.map_append]; exact ho4
    · have h0n : b.toNat ≠ 0 := fun e => h0 (UInt8.toNat_inj.1 (by simpa using e))
      have hb0 : ((b.toNat : Int) == 0) = false := len_ne h0n
      obtain ⟨hb64, hbl, hp'⟩ := parseS0 h0 hps
      clear hps
      rw [List.length_drop] at hbl
      have hnx : (k : Int) + 1 + (b.toNat : Int) ≤ (n.length : Int) := by omega
      have hnx0 : (0 : Int) ≤ (k : Int) + 1 + (b.toNat : Int) := by omega
      obtain ⟨lab, hlab⟩ : ∃ lab, List.take (k + 1 + b.toNat - k) (List.drop k n) = lab := ⟨_, rfl⟩
      have Hlab0 := Lib.hid hlab
      have Hlab := Lib.hid (show lab = b :: (n.drop (k + 1)).take b.toNat by
        rw [← hlab, List.drop_eq_getElem_cons hk, Hb.out, show k + 1 + b.toNat - k = b.toNat + 1 by omega, List.take_succ_cons])
      clear hlab
      have Hll := Lib.hid (show lab.length = 1 + b.toNat by rw [Hlab.out]; simp only [List.length_cons, List.length_take, List.length_drop]; omega)
      obtain ⟨q, hq⟩ : ∃ q, q = tabAt T1 nk := ⟨_, rfl⟩
      obtain ⟨mv, c0, hlook⟩ : ∃ mv, wo.cell? ⟨tp, 0, none⟩ = some mv ∧ (Instr.lookup 124 mv (S nk) true).run Tryd.prog wo.drew = .ok (.tuple #[.int .i64 ((q.getD 0 : Nat) : Int), .bool q.isSome]) wo.drew := by
        rw [hq]
        obtain ⟨_, hnd, ⟨h1, h2⟩ | ⟨g, h1, h2, h3⟩⟩ := hT1
        · refine ⟨.map none, by simp [World.cell?, h1], ?_⟩
          subst h2
          exact lookup_none _ (by unfold maxLen; omega) _
        · exact ⟨.map (some g), by simp [World.cell?, h1], (h3.ext (Ext.refl wo).drew).look hnd.1 _ (by unfold maxLen; omega)⟩
      have Hq := Lib.hid hq
      have hqle : q.getD 0 ≤ 16383 := by rw [hq]; exact tabAt_le hT1.2.1
      clear hq
      generalize hqs : q.isSome = qs at *
      generalize hqv : q.getD 0 = qv at *
      have Hqs := Lib.hid hqs
      have Hqv := Lib.hid hqv
      clear hqs hqv
      go_upto_region 9 with fail
      go_region
      have ha3 := hI.own
      have hlX : X.length ≤ 1073742079 := by omega
      have hlo : lo ≤ w.heap.size := by have := ht.1; omega
      have hWo : Ext wo wo.drew := (Ext.refl wo).drew
      by_cases hc : qs = true ∧ cmp = true
      · obtain ⟨rfl, rfl⟩ := hc
        have HP := Lib.hid (ptr_cells qv hqle)
        have hX1 : R = (X ++ ptrB qv, T1) := by
          have h1 := Hq.out; have h2 := Hqs.out; have h3 := Hqv.out
          rcases q with _ | q'
          · cases h2
          · rw [← HR1.out, Hdk.out, putN_hit h0 (k := q') (by rw [← Hdk.out, ← h1]) rfl]
            rw [show qv = q' from h3.symm]
        have HX1 := Lib.hid hX1
        clear hX1
        have hqi : (qv : Int) ≤ 16383 := by omega
        have hr2 : Rd (wo.drew.alloc (.cells #[.int .u8 (bits BinOp.or IntKind.u8 192 ((qv : Int) / 256)), .int .u8 ((qv : Int) % 256)] 5)) 0 1 (some ⟨wo.heap.size, 0, none⟩) 2 ((ptrB qv).map U8) := by
          rw [← HP.out]
          exact rd_new wo.drew wo.heap.size rfl _ _ 2 1 rfl
        have hEa : Ext wo (wo.drew.alloc (.cells #[.int .u8 (bits BinOp.or IntKind.u8 192 ((qv : Int) / 256)), .int .u8 ((qv : Int) % 256)] 5)) := (Ext.refl wo).drew.alloc _
        go_wp2_with (first
          | (at_builtin
             refine wpList_app _ rfl (.tmp 50) (.tmp 57) _ rfl w.heap.size 5 i0 _ 1 1 Tryd.underlying63 hi0 hz0 hz1 hz2 rfl (by omega) A3 X.length c3 (X.map U8) rfl (ha3.ext hEa) 0 _ 2 2 ((ptrB qv).map U8) rfl hr2 (u8_one _) (by omega) (by omega) (Nat.le_trans hI.kc.1 hEa.size) ?_
             intro A4 c4 W2 ho4 hg4 hb4 _)
          | fail)
        go_ret2
        rw [HX1.out]
        refine ⟨A4, c4, by rw [List.length_append]; rfl, ?_, (hT1.ext hEa).keptO (ha3.ext hEa) hg4, (hI.blw.trans (hEa.mono (Nat.le_trans hlo hI.kc.1))).trans (hb4.mono hlo), (hI.kc.trans (KeptC.ext hEa)).grown (ha3.ext hEa) (Nat.le_refl _) hg4⟩
        rw [List.length_append, List.map_append]; exact ho4
      · have hno : qs = false → tabAt T1 nk = none := fun e => by
          rw [← Hq.out]
          have h2 := Hqs.out
          rw [e] at h2
          rcases q with _ | q
          · rfl
          · cases h2
        by_cases hadd : known = true ∧ qs = false ∧ X.length ≤ 16383
        · have HTp := Lib.hid (show tabPut known nk X.length T1 = T1 ++ [(nk, X.length)] by
            unfold tabPut
            rw [if_pos ⟨hadd.1, hno hadd.2.1, hadd.2.2⟩])
          obtain ⟨rfl, rfl, hx16⟩ := hadd
          have hxi : (X.length : Int) ≤ 16383 := by omega
          have HA := Lib.hid (tab_add lo tp T1 nk X.length wo.drew (hT1.ext hWo) (by omega) hx16 (hno rfl))
          go_wp2_with fail
          refine HA.out.mono ?_; rintro e W1 ⟨rfl, hT2, hB2, hK2⟩
          have ho1 := (ha3.ext hWo).keptC hK2 (own_tab ha3 hT1)
          go_wp2_with (first
            | (at_builtin
               refine wpList_app_str _ rfl (.tmp 83) (.tmp 87) _ _ rfl w.heap.size 5 i0 Tryd.underlying63 Tryd.underlying9 hi0 hz0 hz1 hz2 A3 X.length c3 (X.map U8) rfl ho1 (List.take (k + 1 + b.toNat - k) (List.drop k n)) rfl (by rw [Hlab0.out]; have := Hll.out; omega) (Nat.le_trans (hI.kc.1) (Nat.le_trans hWo.size hK2.1)) ?_
               intro A4 c4 W2 ho4 hg4 hb4
               rw [Hlab0.out] at ho4 ⊢)
            | fail)
          go_roundw
          case rel => exact ⟨k + (1 + b.toNat), c4, X ++ lab, A4, rfl, rfl, by rw [List.length_append], by go_num, pt_step hI HR1.out Hdk.out h0 (fun h => hc ⟨by first | rfl | (rw [← Hqs.out, Hq.out]; exact h.1), h.2⟩) Hlab.out hbl hp' HTp.out hT2 ((hWo.mono (Nat.le_trans hlo hI.kc.1)).trans hB2) ((KeptC.ext hWo).trans hK2) ho1 ho4 hg4 hb4 hlo⟩
          case measure => simp [intOf]; omega
        · have HTp := Lib.hid (show tabPut known nk X.length T1 = T1 by
            unfold tabPut
            rw [if_neg fun h => hadd ⟨h.1, ?_, h.2.2⟩]
            have h1 := Hq.out; have h2 := Hqs.out
            rw [← h1] at h
            rw [← h2, h.2.1]; rfl)
          obtain ⟨W1, hW1⟩ : ∃ W1 : World, W1 = wo.drew := ⟨_, rfl⟩
          rw [← hW1] at hWo ⊢
          have hT2 : TabAt W1 lo tp T1 := hT1.ext hWo
          have hB2 : Below lo W1 W1 := Below.refl _ _
          have hK2 : KeptC tp W1 W1 := KeptC.refl _ _
          have ho1 := ha3.ext hWo
          clear hW1 hlook
          rcases qs with _ | _
          · rcases known with _ | _
            · go_wp2_with (first
                | (at_builtin
                   refine wpList_app_str _ rfl (.tmp 83) (.tmp 87) _ _ rfl w.heap.size 5 i0 Tryd.underlying63 Tryd.underlying9 hi0 hz0 hz1 hz2 A3 X.length c3 (X.map U8) rfl ho1 (List.take (k + 1 + b.toNat - k) (List.drop k n)) rfl (by rw [Hlab0.out]; have := Hll.out; omega) (Nat.le_trans (hI.kc.1) (Nat.le_trans hWo.size hK2.1)) ?_
                   intro A4 c4 W2 ho4 hg4 hb4
                   rw [Hlab0.out] at ho4 ⊢)
                | fail)
              go_roundw
              case rel => exact ⟨k + (1 + b.toNat), c4, X ++ lab, A4, rfl, rfl, by rw [List.length_append], by go_num, pt_step hI HR1.out Hdk.out h0 (fun h => hc ⟨by first | rfl | (rw [← Hqs.out, Hq.out]; exact h.1), h.2⟩) Hlab.out hbl hp' HTp.out hT2 ((hWo.mono (Nat.le_trans hlo hI.kc.1)).trans hB2) ((KeptC.ext hWo).trans hK2) ho1 ho4 hg4 hb4 hlo⟩
              case measure => simp [intOf]; omega
            · have hxi : ¬ ((X.length : Int) ≤ 16383) := fun h => hadd ⟨rfl, rfl, by omega⟩
              go_wp2_with (first
                | (at_builtin
                   refine wpList_app_str _ rfl (.tmp 83) (.tmp 87) _ _ rfl w.heap.size 5 i0 Tryd.underlying63 Tryd.underlying9 hi0 hz0 hz1 hz2 A3 X.length c3 (X.map U8) rfl ho1 (List.take (k + 1 + b.toNat - k) (List.drop k n)) rfl (by rw [Hlab0.out]; have := Hll.out; omega) (Nat.le_trans (hI.kc.1) (Nat.le_trans hWo.size hK2.1)) ?_
                   intro A4 c4 W2 ho4 hg4 hb4
                   rw [Hlab0.out] at ho4 ⊢)
                | fail)
              go_roundw
              case rel => exact ⟨k + (1 + b.toNat), c4, X ++ lab, A4, rfl, rfl, by rw [List.length_append], by go_num, pt_step hI HR1.out Hdk.out h0 (fun h => hc ⟨by first | rfl | (rw [← Hqs.out, Hq.out]; exact h.1), h.2⟩) Hlab.out hbl hp' HTp.out hT2 ((hWo.mono (Nat.le_trans hlo hI.kc.1)).trans hB2) ((KeptC.ext hWo).trans hK2) ho1 ho4 hg4 hb4 hlo⟩
              case measure => simp [intOf]; omega
          · rcases cmp with _ | _
            · rcases known with _ | _
              · go_wp2_with (first
                  | (at_builtin
                     refine wpList_app_str _ rfl (.tmp 83) (.tmp 87) _ _ rfl w.heap.size 5 i0 Tryd.underlying63 Tryd.underlying9 hi0 hz0 hz1 hz2 A3 X.length c3 (X.map U8) rfl ho1 (List.take (k + 1 + b.toNat - k) (List.drop k n)) rfl (by rw [Hlab0.out]; have := Hll.out; omega) (Nat.le_trans (hI.kc.1) (Nat.le_trans hWo.size hK2.1)) ?_
                     intro A4 c4 W2 ho4 hg4 hb4
                     rw [Hlab0.out] at ho4 ⊢)
                  | fail)
                go_roundw
                case rel => exact ⟨k + (1 + b.toNat), c4, X ++ lab, A4, rfl, rfl, by rw [List.length_append], by go_num, pt_step hI HR1.out Hdk.out h0 (fun h => hc ⟨by first | rfl | (rw [← Hqs.out, Hq.out]; exact h.1), h.2⟩) Hlab.out hbl hp' HTp.out hT2 ((hWo.mono (Nat.le_trans hlo hI.kc.1)).trans hB2) ((KeptC.ext hWo).trans hK2) ho1 ho4 hg4 hb4 hlo⟩
                case measure => simp [intOf]; omega
              · go_wp2_with (first
                  | (at_builtin
                     refine wpList_app_str _ rfl (.tmp 83) (.tmp 87) _ _ rfl w.heap.size 5 i0 Tryd.underlying63 Tryd.underlying9 hi0 hz0 hz1 hz2 A3 X.length c3 (X.map U8) rfl ho1 (List.take (k + 1 + b.toNat - k) (List.drop k n)) rfl (by rw [Hlab0.out]; have := Hll.out; omega) (Nat.le_trans (hI.kc.1) (Nat.le_trans hWo.size hK2.1)) ?_
                     intro A4 c4 W2 ho4 hg4 hb4
                     rw [Hlab0.out] at ho4 ⊢)
                  | fail)
                go_roundw
                case rel => exact ⟨k + (1 + b.toNat), c4, X ++ lab, A4, rfl, rfl, by rw [List.length_append], by go_num, pt_step hI HR1.out Hdk.out h0 (fun h => hc ⟨by first | rfl | (rw [← Hqs.out, Hq.out]; exact h.1), h.2⟩) Hlab.out hbl hp' HTp.out hT2 ((hWo.mono (Nat.le_trans hlo hI.kc.1)).trans hB2) ((KeptC.ext hWo).trans hK2) ho1 ho4 hg4 hb4 hlo⟩
                case measure => simp [intOf]; omega
            · exact absurd ⟨rfl, rfl⟩ hc
end Go.Proofs.YtjmfpillnbnofaaDoor
namespace Go.Proofs.YtjmfpillnbnofaaDoor
set_option linter.unusedSimpArgs false
set_option linter.unusedVariables false
open Go.RowKit
set_option maxRecDepth 100000

theorem runChk_may {c : Chk} {msg : List UInt8} {pos : Nat} (h : (runChk c msg pos).2 = 0) (hn : (runChk c msg pos).1.nm = true) : may (runChk c msg pos).1.text = true := by
  by_cases h1 : c.kind = 1
  · rw [runChk_1 h1] at h hn ⊢
    split at h
    · rename_i h2; exact absurd h h2
    · rename_i h2
      rw [if_neg h2]
      exact readN_valid (Decidable.not_not.1 h2)
  · exfalso
    unfold runChk at hn
    split at hn
    · split at hn <;> cases hn
    · rename_i e; exact h1 e
    · split at hn <;> cases hn
    · cases hn
theorem splitL_may : ∀ (cs : List Chk) (d : List UInt8) (pos : Nat), (splitL cs d pos).2 = 0 → ∀ p ∈ (splitL cs d pos).1, p.nm = true → may p.text = true
  | [], d, pos, h, p, hp, _ => by
    unfold splitL at hp
    split at hp <;> cases hp
  | c :: cs, d, pos, h, p, hp, hn => by
    unfold splitL at h hp
    split at h
    · rename_i h1
      rw [if_pos h1] at hp; cases hp
    · rename_i h1
      rw [if_neg h1] at hp
      split at h
      · rename_i h2
        rw [if_pos h2] at hp; cases hp
      · rename_i h2
        rw [if_neg h2] at hp
        rcases List.mem_cons.1 hp with rfl | hp
        · exact runChk_may (Decidable.not_not.1 h1) hn
        · exact splitL_may cs d _ (Decidable.not_not.1 h2) p hp hn
theorem parts_may {k : Int} {d : List UInt8} (h : rmay k d = true) {p : Pc} (hp : p ∈ partsOf k d) (hn : p.nm = true) : may p.text = true := by
  obtain ⟨h1, h2, h3⟩ := split_whole h
  have : (splitL (checksOf k) d 0).1 = partsOf k d := by rw [h2]
  exact splitL_may (checksOf k) d 0 (by rw [h2]) p (by rw [this]; exact hp) hn
theorem rdata_comp (kind : Int) (w : World) : Calls Tryd.prog 65 #[.int .u16 kind] w fun e w' => e = .returned (.bool (cmpOf kind)) ∧ w = w' := by
  by_cases h2 : kind = 2
  · subst h2
    go_enter Tryd.func65, Tryd.ntmps65
    go_wp2_with fail
    go_ret
    exact ⟨rfl, rfl⟩
  by_cases h5 : kind = 5
  · subst h5
    go_enter Tryd.func65, Tryd.ntmps65
    go_wp2_with fail
    go_ret
    exact ⟨rfl, rfl⟩
  by_cases h6 : kind = 6
  · subst h6
    go_enter Tryd.func65, Tryd.ntmps65
    go_wp2_with fail
    go_ret
    exact ⟨rfl, rfl⟩
  by_cases h12 : kind = 12
  · subst h12
    go_enter Tryd.func65, Tryd.ntmps65
    go_wp2_with fail
    go_ret
    exact ⟨rfl, rfl⟩
  by_cases h15 : kind = 15
  · subst h15
    go_enter Tryd.func65, Tryd.ntmps65
    go_wp2_with fail
    go_ret
    exact ⟨rfl, rfl⟩
  have hc : cmpOf kind = false := by unfold cmpOf; simp [h2, h5, h6, h12, h15]
  rw [hc]
  have e2 : (kind == 2) = false := beq_eq_false_iff_ne.2 h2
  have e5 : (kind == 5) = false := beq_eq_false_iff_ne.2 h5
  have e6 : (kind == 6) = false := beq_eq_false_iff_ne.2 h6
  have e12 : (kind == 12) = false := beq_eq_false_iff_ne.2 h12
  have e15 : (kind == 15) = false := beq_eq_false_iff_ne.2 h15
  go_enter Tryd.func65, Tryd.ntmps65
  go_wp2_with fail
  go_ret
  exact ⟨rfl, rfl⟩
structure RwInv (w w1 : World) (tp lo : Nat) (cmp : Bool) (pcs : List Pc) (R : List UInt8 × Tab) (base k : Nat) (X : List UInt8) (A : Option Addr) (c : Nat) (wr : World) : Prop where
  bd : X.length ≤ base + k * (1048576 + 255)
  own : Own wr w1.heap.size 5 1 A X.length c (X.map U8)
  tab : ∃ T1, TabAt wr lo tp T1 ∧ (X ++ (partsW cmp X.length ((pcs.drop k).map pcT) T1).1, (partsW cmp X.length ((pcs.drop k).map pcT) T1).2) = R
  blw : Below lo w wr
  kc : KeptC tp w wr
  kc1 : KeptC tp w1 wr
set_option maxHeartbeats 4000000 in
theorem rdata_write (lo tp lo' : Nat) (T : Tab) (A : Option Addr) (c : Nat) (l data : List UInt8) (kind : Int) (w : World) (hg : Laid w) (ht : TabAt w lo tp T) (ha : Rd w lo' 1 A l.length (l.map U8)) (hl : l.length ≤ 1048576) (hd : data.length ≤ 1048576) (hm : rmay kind data = true) :
    Calls Tryd.prog 52 #[.slice A l.length c, .pointer (some ⟨tp, 0, none⟩), .int .u16 kind, S data] w (TPutPost tp lo (l ++ (dataW l.length kind data T).1, (dataW l.length kind data T).2) w) := by
  have Hs := Lib.hid (rdata_whole kind data w hg hd)
  have hbd := partsOf_bd kind data
  have HM := Lib.hid (fun p hp => @parts_may kind data hm p hp)
  unfold WholePost at Hs
  rw [show (wholeOf kind data).isSome = true from hm] at Hs
  have hlt := ht.lt
  have hlo : lo ≤ w.heap.size := by have := ht.1; omega
  have HC := Lib.hid (fun W => rdata_comp kind W)
  unfold dataW
  rw [pcT_def]
  generalize partsOf kind data = pcs at *
  generalize cmpOf kind = cmp at *
  obtain ⟨R, hR⟩ : ∃ R, R = (l ++ (partsW cmp l.length (pcs.map pcT) T).1, (partsW cmp l.length (pcs.map pcT) T).2) := ⟨_, rfl⟩
  rw [← hR]
  have HR := Lib.hid hR
  clear hR
  obtain ⟨i0, hi0, hz0, hz1, hz2⟩ := info_parts info_u8
  go_enter Tryd.func52, Tryd.ntmps52
  go_wp2_with (first
    | (go_at_call 48; refine Hs.out.mono ?_; rintro e w1 ⟨v, rfl, ⟨B, d, rfl, hown⟩, hE1⟩)
    | (refine wpList_make_own _ rfl _ _ _ rfl w1.heap.size 5 i0 _ 1 Tryd.underlying63 hi0 hz0 hz1 _ _ _ (l.length + data.length) rfl rfl (by go_num) (by rw [hz2]; omega) (by unfold maxLen; omega) (Nat.le_refl _) ?_
       intro w2 ho2 hg2
       have hE2 := ext_grown hg2)
    | (at_builtin
       refine wpList_app _ rfl (.tmp 34) (.tmp 35) _ rfl w1.heap.size 5 i0 _ 1 1 Tryd.underlying63 hi0 hz0 hz1 hz2 rfl (by omega) (some ⟨w1.heap.size, 0, none⟩) 0 (l.length + data.length) [] rfl ho2 lo' A l.length c (l.map U8) rfl (ha.ext (hE1.trans hE2)) (u8_one _) (by omega) (by omega) hE2.size ?_
       intro A2 c2 w3 ho3 hg3 hb3 _
       rw [Nat.zero_add, List.nil_append] at ho3
       rw [Nat.zero_add]
       have hE3 : Ext w1 w3 := hE2.then hb3 (Nat.le_refl _))
    | (go_at_call 65; refine (HC.out _).mono ?_; rintro e w' ⟨rfl, rfl⟩)
    | fail)
  have hE3w : Ext w w3 := hE1.trans hE3
  have hpne := fun (h : TabAt w lo tp T) => (show (Value.slice B pcs.length d).ownBlock ≠ some tp from fun e => by have := (hown.blk tp e).1; omega)
  have hpne := hpne ht
  go_loopw [8, 9, 12, 15, 16, 17, 41] (fun s8 s9 s12 _ _ _ s41 wr => ∃ (k c : Nat) (X : List UInt8) (A : Option Addr), s8 = .slice none 0 0 ∧ s9 = .int .i64 0 ∧ s12 = .slice A X.length c ∧ s41 = .int .i64 k ∧ k ≤ pcs.length ∧ RwInv w w1 tp lo cmp pcs R l.length k X A c wr) (fun _ _ _ _ _ _ s41 _ => pcs.length - (intOf s41).toNat)
  case atStart => exact ⟨0, c2, l, A2, rfl, rfl, rfl, rfl, Nat.zero_le _, by omega, ho3, ⟨T, ht.ext hE3w, by rw [HR.out, List.drop_zero]⟩, hE3w.mono hlo, KeptC.ext hE3w, KeptC.ext hE3⟩
  case round =>
    obtain ⟨k, c3, X, A3, rfl, rfl, rfl, rfl, hk, hI⟩ := hrel
    obtain ⟨wo, rfl⟩ : ∃ wo : World, wo = wr := ⟨_, rfl⟩
    obtain ⟨T1, hT1, hR1⟩ := hI.tab
    have hrd := (hown.keptC hI.kc1 hpne).rd
    have ha3 := hI.own
    have hX := hI.bd
    have hl3 := hbd.1
    by_cases hlt : k < pcs.length
    · have hp : pcs[k]? = some pcs[k] := List.getElem?_eq_getElem hlt
      have htb := hbd.2 pcs[k] (List.getElem_mem hlt)
      have hMay := HM.out pcs[k] (List.getElem_mem hlt)
      rw [List.drop_eq_getElem_cons hlt] at hR1
      generalize pcs[k] = p at *
      obtain ⟨b, off, rfl, _, hbz, hc⟩ := hrd.2 (by omega)
      obtain ⟨h0, h1', h2⟩ := pcs_cells (lo := 0) (n := 0) hc k p hp
      obtain ⟨pt, pn, px⟩ := p
      dsimp only at *
      have hX4 : X.length ≤ 8000000 := by
        have : k * (1048576 + 255) ≤ 3 * (1048576 + 255) := Nat.mul_le_mul (by omega) (by omega)
        omega
      have hEa : Ext wo (wo.alloc (.cells #[S pt, .bool pn, .int .i64 px] 153)) := (Ext.refl _).alloc _
      clear hc hp hrd
      rcases pn with _ | _
      · have HX := Lib.hid (show ((X ++ pt) ++ (partsW cmp (X ++ pt).length ((pcs.drop (k + 1)).map pcT) T1).1, (partsW cmp (X ++ pt).length ((pcs.drop (k + 1)).map pcT) T1).2) = R by
          rw [← hR1]
          show _ = (X ++ (partsW cmp X.length ((pt, false) :: (pcs.drop (k + 1)).map pcT) T1).1, _)
          simp only [partsW, List.map_cons, pcT]
          rw [if_neg (by simp), List.length_append, List.append_assoc])
        clear hR1
        go_wp2_with (first
          | (at_builtin
             refine wpList_app_str _ rfl (.tmp 48) (.tmp 50) _ _ rfl w1.heap.size 5 i0 Tryd.underlying63 Tryd.underlying9 hi0 hz0 hz1 hz2 A3 X.length c3 (X.map U8) rfl (ha3.ext hEa) pt rfl (by omega) (Nat.le_trans hI.kc1.1 hEa.size) ?_
             intro A5 c5 w5 hown5 hg5 hb5)
          | fail)
        go_roundw
        case rel =>
          refine ⟨k + 1, c5, X ++ pt, A5, rfl, rfl, by rw [List.length_append], by go_num, by omega, ?_, by rw [List.length_append, List.map_append]; exact hown5, ⟨T1, (hT1.ext hEa).keptO (ha3.ext hEa) hg5, HX.out⟩, (hI.blw.trans (hEa.mono (Nat.le_trans hlo hI.kc.1))).trans (hb5.mono (Nat.le_trans hlo hE1.size)), (hI.kc.trans (KeptC.ext hEa)).grown (ha3.ext hEa) hE1.size hg5, (hI.kc1.trans (KeptC.ext hEa)).grown (ha3.ext hEa) (Nat.le_refl _) hg5⟩
          rw [List.length_append, Nat.add_mul]; omega
        case measure => simp [intOf]; omega
      · have hmt := hMay rfl
        have HP := Lib.hid (tab_put lo tp w1.heap.size T1 A3 c3 X pt cmp cmp (wo.alloc (.cells #[S pt, .bool true, .int .i64 px] 153)) (hT1.ext hEa) (ha3.ext hEa).rd (by omega) hmt)
        have HX := Lib.hid (show ((X ++ (putN cmp cmp X.length pt T1).1) ++ (partsW cmp (X ++ (putN cmp cmp X.length pt T1).1).length ((pcs.drop (k + 1)).map pcT) (putN cmp cmp X.length pt T1).2).1, (partsW cmp (X ++ (putN cmp cmp X.length pt T1).1).length ((pcs.drop (k + 1)).map pcT) (putN cmp cmp X.length pt T1).2).2) = R by
          rw [← hR1]
          show _ = (X ++ (partsW cmp X.length ((pt, true) :: (pcs.drop (k + 1)).map pcT) T1).1, _)
          simp only [partsW, List.map_cons, pcT]
          rw [if_pos (by simp), List.length_append, List.append_assoc])
        have hpl := putF_len cmp cmp (pt.length + 1) X.length pt T1 (by omega) (may_parse hmt)
        have hp255 := may_le hmt
        have hpl' : (putN cmp cmp X.length pt T1).1.length ≤ 255 := by unfold putN; omega
        generalize putN cmp cmp X.length pt T1 = Q at *
        clear hR1 hpl
        go_wp2_with (first
          | (go_at_call 50; refine HP.out.mono ?_; rintro e w5 ⟨A5, c5, rfl, hown5, hT5, hB5, hK5⟩)
          | fail)
        go_roundw
        case rel =>
          refine ⟨k + 1, c5, X ++ Q.1, A5, rfl, rfl, by rw [List.length_append], by go_num, by omega, ?_, hown5.lower (Nat.le_trans hI.kc1.1 hEa.size), ⟨Q.2, hT5, HX.out⟩, (hI.blw.trans (hEa.mono (Nat.le_trans hlo hI.kc.1))).trans hB5, (hI.kc.trans (KeptC.ext hEa)).trans hK5, (hI.kc1.trans (KeptC.ext hEa)).trans hK5⟩
          rw [List.length_append, Nat.add_mul]; omega
        case measure => simp [intOf]; omega
    · have e1 : k = pcs.length := by omega
      subst e1
      rw [List.drop_length] at hR1
      have HX := Lib.hid (show (X, T1) = R by rw [← hR1]; simp [partsW])
      clear hR1
      go_wp2_with fail
      go_ret2
      rw [← HX.out]
      exact ⟨A3, c3, rfl, ha3.lower hE1.size, hT1, hI.blw, hI.kc⟩
end Go.Proofs.YtjmfpillnbnofaaDoor
namespace Go.Proofs.YtjmfpillnbnofaaDoor
set_option linter.unusedSimpArgs false
set_option linter.unusedVariables false
open Go.RowKit
set_option maxRecDepth 100000

/-- No cell of a row of n cells lies in the marked stretch. -/
def Harm (fz : Nat × Nat) (n : Nat) : Prop := ∀ j, j < n → ¬ (fz.1 ≤ j ∧ j < fz.2)
def OwnZ (w : World) (lo : Nat) (A : Option Addr) (n c : Nat) (xs : List Value) : Prop :=
  xs.length = n ∧ ((A = none ∧ n = 0 ∧ c = 0) ∨ ∃ g cur fz, A = some ⟨g, 0, none⟩ ∧ lo ≤ g ∧ w.heap[g]? = some (.cells cur 5 fz) ∧ Harm fz cur.size ∧ n ≤ c ∧ c ≤ maxLen ∧ cur.size = c ∧ cur.toList.take n = xs)
theorem Own.z {w : World} {lo n c : Nat} {A : Option Addr} {xs : List Value} (h : Own w lo 5 1 A n c xs) : OwnZ w lo A n c xs := by
  refine ⟨by rw [h.1, Nat.mul_one], ?_⟩
  rcases h.2 with ⟨h1, h2⟩ | ⟨g, cap, cur, h1, hg, hh, h4, h5, h6, h7⟩
  · injection h1 with h1 _ h3; exact .inl ⟨h1, h2, h3⟩
  · injection h1 with h1 _ h3
    subst h3
    rw [Nat.mul_one] at h6 h7
    exact .inr ⟨g, cur, (0, 0), h1, hg, hh, fun j _ hx => by simp at hx, h4, h5, h6, h7⟩
section
variable {w w' : World} {lo n c : Nat} {A : Option Addr} {xs : List Value}
theorem OwnZ.cap (h : OwnZ w lo A n c xs) : n ≤ c ∧ c ≤ maxLen := by
  rcases h.2 with ⟨_, h2, h3⟩ | ⟨g, cur, fz, _, _, _, _, h4, h5, _⟩
  · unfold maxLen; omega
  · exact ⟨h4, h5⟩
theorem OwnZ.rd (h : OwnZ w lo A n c xs) : Rd w lo 1 A n xs := by
  refine ⟨by rw [h.1, Nat.mul_one], fun hn => ?_⟩
  rcases h.2 with ⟨_, h2, _⟩ | ⟨g, cur, fz, h1, hg, hh, _, h4, h5, h6, h7⟩
  · omega
  · refine ⟨g, 0, h1, hg, (Array.getElem?_eq_some_iff.1 hh).1, fun j u hu => ?_⟩
    have hj : j < n := by have := (List.getElem?_eq_some_iff.1 hu).1; rw [h.1] at this; exact this
    rw [← h7, List.getElem?_take_of_lt hj] at hu
    simp [World.cell?, hh, ← hu]
theorem OwnZ.ext (h : OwnZ w lo A n c xs) (hE : Ext w w') : OwnZ w' lo A n c xs := by
  refine ⟨h.1, ?_⟩
  rcases h.2 with h1 | ⟨g, cur, fz, h1, hg, hh, h4⟩
  · exact .inl h1
  · exact .inr ⟨g, cur, fz, h1, hg, (hE.block g (Array.getElem?_eq_some_iff.1 hh).1).trans hh, h4⟩
theorem OwnZ.lower {lo' : Nat} (h : OwnZ w lo A n c xs) (hl : lo' ≤ lo) : OwnZ w lo' A n c xs := by
  refine ⟨h.1, ?_⟩
  rcases h.2 with h1 | ⟨g, cur, fz, h1, hg, hh, h4⟩
  · exact .inl h1
  · exact .inr ⟨g, cur, fz, h1, by omega, hh, h4⟩
theorem OwnZ.row (h : OwnZ w lo A n c xs) : ∀ k, (Value.slice A n c).ownBlock = some k → ∃ cur fz, w.heap[k]? = some (.cells cur 5 fz) := by
  intro k hk
  rcases h.2 with ⟨rfl, _⟩ | ⟨g, cur, fz, rfl, hg, hh, _⟩
  · cases hk
  · injection hk with hk
    exact ⟨cur, fz, by rw [← hk]; exact hh⟩
theorem OwnZ.blk (h : OwnZ w lo A n c xs) : ∀ k, (Value.slice A n c).ownBlock = some k → lo ≤ k ∧ k < w.heap.size := by
  intro k hk
  rcases h.2 with ⟨rfl, _⟩ | ⟨g, cur, fz, rfl, hg, hh, _⟩
  · cases hk
  · injection hk with hk
    have := (Array.getElem?_eq_some_iff.1 hh).1
    dsimp only at hk
    omega
theorem OwnZ.keptC {tp : Nat} (h : OwnZ w lo A n c xs) (hk : KeptC tp w w') (hne : (Value.slice A n c).ownBlock ≠ some tp) : OwnZ w' lo A n c xs := by
  refine ⟨h.1, ?_⟩
  rcases h.2 with h1 | ⟨g, cur, fz, h1, hg, hh, h4⟩
  · exact .inl h1
  · refine .inr ⟨g, cur, fz, h1, hg, hk.2 g _ _ _ (fun e => hne ?_) hh, h4⟩
    rw [h1, e]; rfl
theorem OwnZ.set_ne (h : OwnZ w lo A n c xs) {p : Addr} (hp : (Value.slice A n c).ownBlock ≠ some p.block) (u : Value) : OwnZ (w.setCell p u) lo A n c xs := by
  refine ⟨h.1, ?_⟩
  rcases h.2 with h1 | ⟨g, cur, fz, h1, hg, hh, h4⟩
  · exact .inl h1
  · exact .inr ⟨g, cur, fz, h1, hg, (Below.heap_setCell w p u g (fun e => hp (by rw [h1, ← e]; rfl))).trans hh, h4⟩
theorem OwnZ.addr (h : OwnZ w lo A n c xs) (hn : 0 < n) : ∃ g, A = some ⟨g, 0, none⟩ ∧ lo ≤ g ∧ g < w.heap.size := by
  rcases h.2 with ⟨_, h2, _⟩ | ⟨g, cur, fz, h1, hg, hh, _⟩
  · omega
  · exact ⟨g, h1, hg, (Array.getElem?_eq_some_iff.1 hh).1⟩
end
theorem ownZ_tab {w : World} {lo lo' tp : Nat} {n c : Nat} {A : Option Addr} {xs : List Value} {T : Tab} (h : OwnZ w lo A n c xs) (ht : TabAt w lo' tp T) : (Value.slice A n c).ownBlock ≠ some tp := fun e => by
  obtain ⟨cur, fz, hc⟩ := h.row tp e
  obtain ⟨_, _, ⟨h1, _⟩ | ⟨b, h1, _⟩⟩ := ht
  · rw [h1] at hc; injection hc with hc; injection hc with _ hc; cases hc
  · rw [h1] at hc; injection hc with hc; injection hc with _ hc; cases hc
theorem TabAt.keptZ {w w' : World} {lo lo' tp n c : Nat} {A : Option Addr} {xs : List Value} {T : Tab} (ht : TabAt w lo' tp T) (h : OwnZ w lo A n c xs) (hg : w.grownBy w' (Value.slice A n c).ownBlock) : TabAt w' lo' tp T :=
  ht.kept hg fun k hk => ⟨fun e => by subst e; exact ownZ_tab h ht hk, by obtain ⟨cur, fz, hc⟩ := h.row k hk; exact ⟨_, _, _, hc⟩⟩
/-- Stores into a row that bears no mark at its own cells. -/
theorem storeZ {P : Program} (g o : Nat) (t : TypeId) (fz : Nat × Nat) : ∀ (vs : List Value) (i : Nat) (cur : Array Value) (w : World), w.heap[g]? = some (.cells cur t fz) → Harm fz cur.size → o + i + vs.length ≤ cur.size → (∀ v ∈ vs, v.oneCell' = true) →
    (storeCells ⟨g, o, none⟩ vs i).run P w = .ok () (w.setRow g (cur.toList.take (o + i) ++ vs ++ cur.toList.drop (o + i + vs.length)).toArray) := by
  intro vs
  induction vs with
  | nil =>
    intro i cur w hg _ _ _
    simp only [storeCells, List.append_nil, List.length_nil, Nat.add_zero, List.take_append_drop, Array.toArray_toList]
    rw [setRow_self w g cur t fz hg]
    rfl
  | cons v rest ih =>
    intro i cur w hg hz hl h1
    rw [List.length_cons] at hl
    have hi : o + i < cur.size := by omega
    have hcell : w.cell? ⟨g, o + i, none⟩ = some cur[o + i] := by simp [World.cell?, hg, hi]
    have hfro : w.frozen? ⟨g, o + i, none⟩ = false := by
      have := hz (o + i) hi
      obtain ⟨a, b⟩ := fz
      simp only [World.frozen?, hg, Bool.and_eq_false_iff, decide_eq_false_iff_not]
      dsimp only at this
      omega
    have hst : (store ((⟨g, o, none⟩ : Addr).add i) v).run P w = .ok () (w.setRow g (cur.setIfInBounds (o + i) v)) := by
      rw [add_none, run_store P w _ v _ (h1 v (by simp)), hcell]
      simp [hfro, setCell_eq_setRow w g (o + i) cur t fz v hg]
    have h2 := ih (i + 1) (cur.setIfInBounds (o + i) v) (w.setRow g (cur.setIfInBounds (o + i) v)) (setRow_heap w g cur _ t _ hg) (by simpa using hz) (by simp; omega) (fun x hx => h1 x (by simp [hx]))
    simp only [storeCells, Sem.run_bind, hst, Result.andThen_ok, h2, setRow_setRow]
    congr 3
    have e := list_seg_step cur.toList (o + i) v rest (by rw [Array.length_toList]; omega)
    simpa [Array.toList_setIfInBounds, Nat.add_assoc] using e
theorem run_appZ {P : Program} (w : World) (lo : Nat) (t ty : TypeId) (i : TypeInfo) (ht : P.underlying t = some (.slice 5)) (hi : P.info? 5 = some i) (hz : i.zero = some (.int .u8 0))
    (hsize : i.size = 1) (hby : i.bytes = 1) (A : Option Addr) (n c : Nat) (xs : List Value) (hown : OwnZ w lo A n c xs)
    (l2 : Nat) (B : Option Addr) (m d : Nat) (news : List Value) (hr : Rd w l2 1 B m news) (h1 : ∀ u ∈ news, u.oneCell' = true) (hbytes : n + m ≤ 140737488355328) (hbase : lo ≤ w.heap.size) :
    ∃ A' c' w', (Builtin.append_ #[t, t] ty #[.slice A n c, .slice B m d]).run P w = .ok (.slice A' (n + m) c') w' ∧ OwnZ w' lo A' (n + m) c' (xs ++ news) ∧ w.grownBy w' (Value.slice A n c).ownBlock ∧ Below lo w w' := by
  have hbl : ∀ w', w.grownBy w' (Value.slice A n c).ownBlock → Below lo w w' := fun w' hg => (Below.refl _ _).grown hg hbase (fun k hk => (hown.blk k hk).1)
  have hnl : news.length = m := by have := hr.1; rw [Nat.mul_one] at this; exact this
  rcases hown.2 with ⟨rfl, rfl, rfl⟩ | ⟨g, cur, fz, rfl, hg, hh, hhz, hnc, hcm, hcs, htk⟩
  · have hxs : xs = [] := List.eq_nil_of_length_eq_zero hown.1
    subst hxs
    obtain ⟨A', c', w', r1, r2, r3, r4, _⟩ := run_app (P := P) w lo t ty 5 i (.int .u8 0) 1 1 ht hi hz hsize hby rfl (by omega) none 0 0 [] (Own.nil w lo _ _) l2 B m d news hr h1 (by omega) (by omega) hbase
    exact ⟨A', c', w', r1, r2.z, r3, r4⟩
  · by_cases hm : m = 0
    · subst hm
      have hn : news = [] := List.eq_nil_of_length_eq_zero hnl
      subst hn
      refine ⟨_, _, w, ?_, by simpa using hown, World.grownBy.refl w _, hbl w (World.grownBy.refl w _)⟩
      cases B <;> simp [Builtin.append_, run_underlying ht, sizeOf, typeInfo, hi, Builtin.lenOf, Builtin.firstCells, hnc, storeCells, loadCells, loadCellsFrom]
    · obtain ⟨b, off, rfl, _, _, hc⟩ := hr.2 (by omega)
      have hnews : ∀ j u, news[j]? = some u → w.cell? ((⟨b, off, none⟩ : Addr).add j) = some u := fun j u hu => by rw [add_none]; exact hc j u hu
      by_cases hroom : n + m ≤ c
      · have hf := run_firstCells_some (P := P) w 1 m ⟨b, off, none⟩ m d news (by rw [hnl, Nat.mul_one]) hnews
        have hst := storeZ (P := P) g n 5 fz news 0 cur w hh hhz (by omega) h1
        simp only [Nat.add_zero] at hst
        have hg3 : w.grownBy (w.setRow g (cur.toList.take n ++ news ++ cur.toList.drop (n + news.length)).toArray) (Value.slice (some ⟨g, 0, none⟩) n c).ownBlock := ⟨rfl, rfl, rfl, by simp, fun k _ hk => setRow_other w g k _ (fun e => hk (by simp [Value.ownBlock, e]))⟩
        refine ⟨_, _, _, by simp [Builtin.append_, run_underlying ht, sizeOf, typeInfo, hi, hsize, Builtin.lenOf, hroom, hf, Addr.add_lit, hst], ⟨by rw [List.length_append, hown.1, hnl], .inr ⟨g, _, fz, rfl, hg, setRow_heap w g cur _ _ _ hh, ?_, hroom, hcm, ?_, ?_⟩⟩, hg3, hbl _ hg3⟩
        · intro j hj
          refine hhz j ?_
          simp only [List.size_toArray, List.length_append, List.length_take, List.length_drop, Array.length_toList] at hj
          omega
        · simp only [List.size_toArray, List.length_append, List.length_take, List.length_drop, Array.length_toList]; omega
        · rw [htk, ← hnl, ← hown.1, ← List.length_append]
          exact List.take_left
      · have holds : ∀ j u, xs[j]? = some u → w.cell? ((⟨g, 0, none⟩ : Addr).add j) = some u := fun j u hu => by
          rw [add_none]
          have hj : j < n := by have := (List.getElem?_eq_some_iff.1 hu).1; rw [hown.1] at this; exact this
          rw [← htk, List.getElem?_take_of_lt hj] at hu
          simp [World.cell?, hh, ← hu]
        have hr := run_append_grow (P := P) w t ty 5 i (.int .u8 0) ht hi hz ⟨g, 0, none⟩ n c xs (by rw [hsize, hown.1, Nat.mul_one]) holds ⟨b, off, none⟩ m d news (by rw [hsize, hnl, Nat.mul_one]) hnews (by omega) (by omega) (by rw [hby]; exact growslice_fits (by omega) (by omega))
        have hge := grownCap_ge w (n + m) c 5
        have hcm2 : grownCap w (n + m) c 5 ≤ maxLen := grownCap_le_maxLen w (n + m) c _ (by unfold maxLen; omega)
        refine ⟨_, _, _, hr, ⟨by rw [List.length_append, hown.1, hnl], .inr ⟨w.heap.size, _, (0, 0), rfl, hbase, heap_alloc_new w.drew _, fun j _ hx => by simp at hx, hge, hcm2, ?_, ?_⟩⟩, ⟨rfl, rfl, rfl, by simp, fun k hk _ => (by exact heap_alloc_old w.drew _ hk)⟩, hbl _ ⟨rfl, rfl, rfl, by simp, fun k hk _ => (by exact heap_alloc_old w.drew _ hk)⟩⟩
        · simp only [Array.size_append, List.size_toArray, size_zeroCells, hown.1, hnl]
          show n + m + (_ - (n + m)) * 1 = _
          omega
        · simp only [Array.toList_append, List.append_assoc]
          rw [← List.append_assoc, ← hnl, ← hown.1, ← List.length_append]
          exact List.take_left
section
variable {P : Program}
theorem wpList_appZ {ops : Array Oper} {rest : List Oper} {o : Oper} {a : Act} {w : World} {Q : Exit → Act → World → Prop} (hgd : o.guard = none) (s x : Operand) (t : TypeId)
    (ho : o.op = .call { callee := .builtin .append, args := #[s, x], argTypes := #[t, t] })
    (lo : Nat) (i : TypeInfo) (ht : P.underlying t = some (.slice 5)) (hi : P.info? 5 = some i) (hz : i.zero = some (.int .u8 0)) (hsize : i.size = 1) (hby : i.bytes = 1)
    (A : Option Addr) (n c : Nat) (xs : List Value) (hs : a.eval s = .slice A n c) (hown : OwnZ w lo A n c xs)
    (l2 : Nat) (B : Option Addr) (m d : Nat) (news : List Value) (hx : a.eval x = .slice B m d) (hr : Rd w l2 1 B m news) (h1 : ∀ u ∈ news, u.oneCell' = true)
    (hbytes : n + m ≤ 140737488355328) (hbase : lo ≤ w.heap.size)
    (h : ∀ A' c' w', OwnZ w' lo A' (n + m) c' (xs ++ news) → w.grownBy w' (Value.slice A n c).ownBlock → Below lo w w' → wpList P ops Q rest (a.put o.dst (.slice A' (n + m) c')) w') : wpList P ops Q (o :: rest) a w :=
  wpList_plain hgd fun K hK => by
    obtain ⟨A', c', w', hrun, h2, h3, h4⟩ := run_appZ (P := P) w lo t o.type i ht hi hz hsize hby A n c xs hown l2 B m d news hr h1 hbytes hbase
    unfold Oper.wp execOp
    simp only [ho, resolve, invoke, builtin, Sem.run_bind, Sem.run_pure, Result.andThen_ok, List.map_toArray, List.map_cons, List.map_nil, hs, hx, hrun]
    exact hK _ _ (h A' c' w' h2 h3 h4)
theorem run_copyZ (w : World) (t ty elem : TypeId) (g o dLen dCap : Nat) (a : Addr) (sLen sCap : Nat) (cur : Array Value) (T : TypeId) (fz : Nat × Nat) (cs : List Value)
    (hu : P.underlying t = some (.slice elem)) (hs : (P.info? elem).map (·.size) = some 1) (hg : w.heap[g]? = some (.cells cur T fz)) (hz : Harm fz cur.size) (hn : cs.length = Nat.min sLen dLen)
    (hsrc : ∀ j v, cs[j]? = some v → w.cell? (a.add j) = some v) (hfit : o + cs.length ≤ cur.size) (h1 : ∀ v ∈ cs, v.oneCell' = true) :
    (Builtin.copy_ #[t, t] ty #[.slice (some ⟨g, o, none⟩) dLen dCap, .slice (some a) sLen sCap]).run P w =
      .ok (goInt cs.length) (w.setRow g (cur.toList.take o ++ cs ++ cur.toList.drop (o + cs.length)).toArray) := by
  have hl := run_loadCells_list (P := P) w a cs hsrc
  have hst := storeZ (P := P) g o T fz cs 0 cur w hg hz (by simpa using hfit) h1
  cases hq : P.info? elem with
  | none => simp [hq] at hs
  | some i =>
    have hi : i.size = 1 := by simpa [hq] using hs
    simp [Builtin.copy_, run_underlying hu, Builtin.lenOf, Builtin.firstCells, sizeOf, typeInfo, hq, hi, ← hn, hl, hst]
end
/-- What '[]byte(s)' lays is owned. -/
theorem ownZ_conv (w : World) (lo : Nat) (l : List UInt8) (hlo : lo ≤ w.heap.size) (hl : l.length ≤ 1073741824) :
    ∃ (C : Array Value) (cap : Nat), (convert 9 63 (S l)).run Tryd.prog w = .ok (.slice (some ⟨w.heap.size, 0, none⟩) l.length cap) (w.drew.alloc (.cells C 5 (C.size, C.size + 1))) ∧
      OwnZ (w.drew.alloc (.cells C 5 (C.size, C.size + 1))) lo (some ⟨w.heap.size, 0, none⟩) l.length cap (l.map U8) := by
  have hge := grownCap_ge w l.length 0 5
  have hcs : (bytesRow ⟨l.toArray⟩ (grownCap w l.length 0 5)).size = grownCap w l.length 0 5 := by
    simp only [bytesRow, Array.size_append, Array.size_map, Array.size_replicate]
    show l.toArray.size + (_ - l.toArray.size) = _
    rw [List.size_toArray]; omega
  refine ⟨_, _, run_bytes_of_string (P := Tryd.prog) w 9 63 5 ⟨l.toArray⟩ Tryd.underlying9 Tryd.underlying63 Tryd.underlying5, by rw [List.length_map], .inr ⟨w.heap.size, _, _, rfl, hlo, heap_alloc_new w.drew _, fun j hj hx => ?_, hge, grownCap_le_maxLen w _ 0 _ (by rw [size_mk]; unfold maxLen; omega), hcs, ?_⟩⟩
  · have := hx.1
    dsimp only at this
    omega
  · simp only [bytesRow, Array.toList_append, Array.toList_map]
    show ((l.map fun b => Value.int .u8 b.toNat) ++ _).take l.length = _
    rw [List.take_left' (by rw [List.length_map])]
end Go.Proofs.YtjmfpillnbnofaaDoor
namespace Go.Proofs.YtjmfpillnbnofaaDoor
set_option linter.unusedSimpArgs false
set_option linter.unusedVariables false
open Go.RowKit
set_option maxRecDepth 100000

/-- The panic of wire.must. -/
abbrev faultV (e : Nat) : Value := .iface 83 (.agg #[.int .i64 (e : Int)])
abbrev faultE (e : Nat) : Ending := .panicked [{ v := faultV e, recovered := false }]
theorem wire_must0 (w : World) : Calls Tryd.prog 33 #[.int .i64 0] w fun e w' => e = .returned (.tuple #[]) ∧ w = w' := by
  go_enter Tryd.func33, Tryd.ntmps33
  go_wp2_with fail
  go_end0
  exact ⟨rfl, rfl⟩
theorem wire_must (k : Nat) (h : k ≠ 0) (w : World) : Calls Tryd.prog 33 #[.int .i64 (k : Int)] w fun e w' => e = faultE k ∧ w = w' := by
  have h1 : ((k : Int) == 0) = false := len_ne h
  go_enter Tryd.func33, Tryd.ntmps33
  go_wp2_with fail
  exact ⟨rfl, rfl, rfl⟩
/-- All blocks of cells stay, but those of bytes, of the writer and of its table. -/
def KeptY (w w' : World) : Prop := w.heap.size ≤ w'.heap.size ∧ ∀ (g : Nat) (cs : Array Value) (t : TypeId) (m : Nat × Nat), t ≠ 5 → t ≠ 102 → t ≠ 126 → w.heap[g]? = some (.cells cs t m) → w'.heap[g]? = some (.cells cs t m)
theorem KeptY.refl (w : World) : KeptY w w := ⟨Nat.le_refl _, fun _ _ _ _ _ _ _ h => h⟩
theorem KeptY.trans {a b c : World} (h : KeptY a b) (k : KeptY b c) : KeptY a c := ⟨Nat.le_trans h.1 k.1, fun g cs t m h1 h2 h3 hg => k.2 g cs t m h1 h2 h3 (h.2 g cs t m h1 h2 h3 hg)⟩
theorem KeptY.ext {w w' : World} (h : Ext w w') : KeptY w w' := ⟨h.size, fun g cs t m _ _ _ hg => (h.block g (Array.getElem?_eq_some_iff.1 hg).1).trans hg⟩
theorem KeptY.keptC {w w' : World} {lo tp : Nat} {T : Tab} (h : KeptC tp w w') (ht : TabAt w lo tp T) : KeptY w w' := ⟨h.1, fun g cs t m _ _ h3 hg => h.2 g cs t m (fun e => by
  subst e
  obtain ⟨_, _, ⟨h4, _⟩ | ⟨b, h4, _⟩⟩ := ht
  · rw [h4] at hg; injection hg with hg; injection hg with _ hg _; exact h3 hg.symm
  · rw [h4] at hg; injection hg with hg; injection hg with _ hg _; exact h3 hg.symm) hg⟩
theorem KeptY.grown {w w' : World} {lo n c : Nat} {A : Option Addr} {xs : List Value} (ho : OwnZ w lo A n c xs) (hg : w.grownBy w' (Value.slice A n c).ownBlock) : KeptY w w' := ⟨hg.size, fun g cs t m h1 _ _ hh => (hg.block g (Array.getElem?_eq_some_iff.1 hh).1 (fun e => by
  obtain ⟨cur, fz, hc⟩ := ho.row g e.symm
  rw [hh] at hc; injection hc with hc; injection hc with _ hc _; exact h1 hc)).trans hh⟩
theorem KeptY.set {w : World} {g : Nat} {cs : Array Value} {m : Nat × Nat} (hh : w.heap[g]? = some (.cells cs 102 m)) (j : Nat) (u : Value) : KeptY w (w.setCell ⟨g, j, none⟩ u) := ⟨by simp, fun b cs' t m' _ h2 _ hb => (Below.heap_setCell w ⟨g, j, none⟩ u b (fun e => by
  dsimp only at e
  subst e
  rw [hh] at hb; injection hb with hb; injection hb with _ hb _; exact h2 hb.symm)).trans hb⟩
/-- A writer stands in box g: its bytes, its table. -/
def WrAt (w : World) (lo g : Nat) (B : List UInt8) (T : Tab) : Prop := ∃ (A : Option Addr) (c tp : Nat), w.heap[g]? = some (.cells #[.slice A B.length c, .pointer (some ⟨tp, 0, none⟩)] 102) ∧ lo ≤ g ∧ OwnZ w lo A B.length c (B.map U8) ∧ TabAt w lo tp T
/-- What a call that writes comes to: the bytes and the table then, or too many bytes. -/
def WrPost (lo g : Nat) (R : List UInt8 × Tab) (w : World) (e : Ending) (w' : World) : Prop :=
  ((R.1.length ≤ 65535 ∧ e = .returned (.tuple #[]) ∧ WrAt w' lo g R.1 R.2 ∧ KeptY w w') ∨ (65535 < R.1.length ∧ e = faultE 5)) ∧ Below lo w w'
theorem own_wr {w : World} {lo g n c : Nat} {A : Option Addr} {xs : List Value} {cs : Array Value} {m : Nat × Nat} {t : TypeId} (h : OwnZ w lo A n c xs) (hg : w.heap[g]? = some (.cells cs t m)) (ht : t ≠ 5) : (Value.slice A n c).ownBlock ≠ some g := fun e => by
  obtain ⟨cur, fz, hc⟩ := h.row g e
  rw [hg] at hc; injection hc with hc; injection hc with _ hc _; exact ht hc
theorem TabAt.set {w : World} {lo tp g : Nat} {T : Tab} {cs : Array Value} {t : TypeId} {m : Nat × Nat} (h : TabAt w lo tp T) (hg : w.heap[g]? = some (.cells cs t m)) (ht : t ≠ 126) (j : Nat) (u : Value) : TabAt (w.setCell ⟨g, j, none⟩ u) lo tp T := by
  have hne : ∀ {cs' : Array Value}, w.heap[tp]? = some (.cells cs' 126) → tp ≠ g := fun hc e => by
    subst e; rw [hg] at hc; injection hc with hc; injection hc with _ hc _; exact ht hc
  obtain ⟨h1, h2, h | ⟨b, h, h3, h4⟩⟩ := h
  · exact ⟨h1, h2, .inl ⟨(Below.heap_setCell w ⟨g, j, none⟩ u tp (hne h.1)).trans h.1, h.2⟩⟩
  · refine ⟨h1, h2, .inr ⟨b, (Below.heap_setCell w ⟨g, j, none⟩ u tp (hne h)).trans h, h3, h4.set (fun e => ?_) u⟩⟩
    dsimp only at e
    subst e
    obtain ⟨es, clock, hb, _⟩ := h4
    rw [hb] at hg; cases hg
theorem row_set {w : World} {g : Nat} {cs : Array Value} {t : TypeId} {m : Nat × Nat} (h : w.heap[g]? = some (.cells cs t m)) (i : Nat) (u : Value) : (w.setCell ⟨g, i, none⟩ u).heap[g]? = some (.cells (cs.setIfInBounds i u) t m) := by
  simp [World.setCell, Array.getElem?_modify, h]
set_option maxHeartbeats 1000000 in
theorem wr_add (lo g lo' : Nat) (B x : List UInt8) (T : Tab) (D : Option Addr) (d : Nat) (w : World) (h : WrAt w lo g B T) (hx : Rd w lo' 1 D x.length (x.map U8)) (hB : B.length ≤ 65535) :
    Calls Tryd.prog 37 #[.pointer (some ⟨g, 0, none⟩), .slice D x.length d] w (WrPost lo g (B ++ x, T) w) := by
  obtain ⟨A, c, tp, hh, hlo, ho, ht⟩ := h
  have c0 : w.cell? ⟨g, 0, none⟩ = some (.slice A B.length c) := by simp [World.cell?, hh]
  have hz := (Array.getElem?_eq_some_iff.1 hh).1
  obtain ⟨i0, hi0, hz0, hz1, hz2⟩ := info_parts info_u8
  by_cases hlen : 65535 < B.length + x.length
  · have h1 : (65535 : Int) - (B.length : Int) < (x.length : Int) := by omega
    have HM := Lib.hid (wire_must 5 (by omega) w)
    go_enter Tryd.func37, Tryd.ntmps37
    go_wp2_with fail
    refine HM.out.mono ?_; rintro e w1 ⟨rfl, rfl⟩
    go_wp2_with fail
    exact ⟨rfl, .inr ⟨by rw [List.length_append]; exact hlen, rfl⟩, Below.refl _ _⟩
  · have h1 : ¬ ((65535 : Int) - (B.length : Int) < (x.length : Int)) := by omega
    go_enter Tryd.func37, Tryd.ntmps37
    go_wp2_with (first
      | (at_builtin
         refine wpList_appZ rfl (.tmp 18) (.tmp 19) _ rfl lo i0 Tryd.underlying63 hi0 hz0 hz1 hz2 A B.length c (B.map U8) rfl ho lo' D x.length d (x.map U8) rfl hx (u8_one _) (by omega) (by omega) ?_
         intro A1 c1 w1 ho1 hg1 hb1
         have hh1 := (hg1.block g hz (fun e => own_wr ho hh (by decide) e.symm)).trans hh
         have k1 : w1.cell? ⟨g, 0, none⟩ = some (.slice A B.length c) := by simp [World.cell?, hh1]
         have f1 : w1.frozen? ⟨g, 0, none⟩ = false := by simp [World.frozen?, hh1])
      | fail)
    go_end0
    refine ⟨.inl ⟨by rw [List.length_append]; omega, rfl, ⟨A1, c1, tp, by rw [List.length_append]; exact row_set hh1 0 _, hlo, ?_, (ht.keptZ ho hg1).set hh1 (by decide) 0 _⟩, (KeptY.grown ho hg1).trans (KeptY.set hh1 0 _)⟩, hb1.setCell hlo _⟩
    rw [List.length_append, List.map_append]
    exact ho1.set_ne (own_wr ho1 hh1 (by decide)) _
theorem Rd.take {w : World} {lo n m : Nat} {A : Option Addr} {xs : List Value} (h : Rd w lo 1 A n xs) (hm : m ≤ n) : Rd w lo 1 A m (xs.take m) := by
  refine ⟨by rw [List.length_take, h.1]; omega, fun hp => ?_⟩
  obtain ⟨b, off, e, h1, h2, h3⟩ := h.2 (by omega)
  refine ⟨b, off, e, h1, h2, fun j u hu => h3 j u ?_⟩
  rw [List.getElem?_take] at hu
  split at hu
  · exact hu
  · cases hu
set_option maxHeartbeats 1000000 in
/-- The bytes on which offsets hang. -/
theorem wr_base (lo g : Nat) (B : List UInt8) (T : Tab) (w : World) (h : WrAt w lo g B T) (hB : B.length ≤ 65535) :
    Calls Tryd.prog 49 #[.pointer (some ⟨g, 0, none⟩)] w fun e w' => ∃ A c, e = .returned (.slice A (min B.length 16384) c) ∧ Rd w' lo 1 A (min B.length 16384) ((B.take (min B.length 16384)).map U8) ∧ Ext w w' := by
  obtain ⟨A, c, tp, hh, hlo, ho, ht⟩ := h
  have c0 : w.cell? ⟨g, 0, none⟩ = some (.slice A B.length c) := by simp [World.cell?, hh]
  have hcap := ho.cap
  have hr := ho.rd.take (m := min B.length 16384) (by omega)
  rw [← List.map_take] at hr
  have hmn : ((min B.length 16384 : Nat) : Int) = min (B.length : Int) 16384 := by omega
  go_enter Tryd.func49, Tryd.ntmps49
  go_wp2_with fail
  go_region
  go_wp2_with fail
  go_ret
  have e : (min (B.length : Int) 16384).toNat = min B.length 16384 := by omega
  refine ⟨A, c, ?_, hr.ext (Ext.refl w).drew, (Ext.refl w).drew⟩
  show Ending.returned (Value.slice A (min (B.length : Int) 16384).toNat c) = _
  rw [e]
theorem rd_drop {w : World} {lo m k : Nat} {A : Option Addr} {xs ys : List Value} (h : Rd w lo 1 A (m + k) (xs ++ ys)) (hx : xs.length = m) : Rd w lo 1 (A.map fun x => x.add m) k ys := by
  have hl : ys.length = k := by have := h.1; rw [List.length_append] at this; omega
  refine ⟨by omega, fun hk => ?_⟩
  obtain ⟨b, off, rfl, h1, h2, h3⟩ := h.2 (by omega)
  refine ⟨b, off + m, by rw [Option.map_some, add_none], h1, h2, fun j u hu => ?_⟩
  have := h3 (m + j) u (by rw [List.getElem?_append_right (by omega), show m + j - xs.length = j by omega]; exact hu)
  rw [← Nat.add_assoc] at this
  exact this
theorem putN_pos (cmp known : Bool) (pos : Nat) {n : List UInt8} (t : Tab) (h : may n = true) : 0 < (putN cmp known pos n t).1.length := by
  rcases n with _ | ⟨b, r⟩
  · rw [may_nil] at h; cases h
  · unfold putN
    simp only [putF]
    split
    · simp
    · split
      · simp [ptrB_len]
      · simp
/-- The writer stays where its table alone has turned. -/
theorem WrAt.tab {w w1 w2 : World} {lo g tp : Nat} {B : List UInt8} {T' : Tab} {A : Option Addr} {c : Nat} (hh : w.heap[g]? = some (.cells #[.slice A B.length c, .pointer (some ⟨tp, 0, none⟩)] 102)) (hlo : lo ≤ g) (ho : OwnZ w lo A B.length c (B.map U8))
    {T : Tab} (ht : TabAt w lo tp T) (hE : Ext w w1) (ht2 : TabAt w2 lo tp T') (hK : KeptC tp w1 w2) : WrAt w2 lo g B T' := by
  have hz := (Array.getElem?_eq_some_iff.1 hh).1
  have hh1 := (hE.block g hz).trans hh
  refine ⟨A, c, tp, hK.2 g _ _ _ (fun e => ?_) hh1, hlo, (ho.ext hE).keptC hK (ownZ_tab ho ht), ht2⟩
  subst e
  obtain ⟨_, _, ⟨h4, _⟩ | ⟨b, h4, _⟩⟩ := ht
  · rw [h4] at hh; cases hh
  · rw [h4] at hh; cases hh
set_option maxHeartbeats 1000000 in
theorem wr_name (lo g : Nat) (B n : List UInt8) (T : Tab) (w : World) (h : WrAt w lo g B T) (hB : B.length ≤ 65535) (hn : may n = true) :
    Calls Tryd.prog 36 #[.pointer (some ⟨g, 0, none⟩), S n] w (WrPost lo g (B ++ (putN true true B.length n T).1, (putN true true B.length n T).2) w) := by
  have HB := Lib.hid (wr_base lo g B T w h hB)
  go_enter Tryd.func36, Tryd.ntmps36
  go_wp2_with fail
  refine HB.out.mono ?_; rintro e w1 ⟨A1, c1, rfl, hr1, hE1⟩
  obtain ⟨A, c, tp, hh, hlo, ho, ht⟩ := h
  have hz := (Array.getElem?_eq_some_iff.1 hh).1
  have hh1 := (hE1.block g hz).trans hh
  have k1 : w1.cell? ⟨g, 1, none⟩ = some (.pointer (some ⟨tp, 0, none⟩)) := by simp [World.cell?, hh1]
  have hq := putN_base true true B.length n T
  have hbl : (B.take (min B.length 16384)).length = min B.length 16384 := by rw [List.length_take]; omega
  have hr1' : Rd w1 lo 1 A1 (B.take (min B.length 16384)).length ((B.take (min B.length 16384)).map U8) := by rw [hbl]; exact hr1
  have HP := Lib.hid (tab_put lo tp lo T A1 c1 (B.take (min B.length 16384)) n true true w1 (ht.ext hE1) hr1' (by rw [hbl]; omega) hn)
  rw [hbl, hq] at HP
  have hpl := putN_len true true B.length T hn
  have hpp := putN_pos true true B.length T hn
  clear hq hr1' hr1
  generalize putN true true B.length n T = Q at *
  obtain ⟨m, hm⟩ : ∃ m, m = min B.length 16384 := ⟨_, rfl⟩
  rw [← hm] at HP hbl
  have hmB : m ≤ B.length := by omega
  have hm1 : m ≤ 16384 := by omega
  rw [← hm]
  generalize hbt : B.take m = Bm at *
  clear hm hbt
  go_wp2_with fail
  refine HP.out.mono ?_; rintro e w2 ⟨A2, c2, rfl, ho2, ht2, hB2, hK2⟩
  dsimp only at ho2
  have hrl : (Bm ++ Q.1).length = m + Q.1.length := by rw [List.length_append, hbl]
  have hr2 : Rd w2 w1.heap.size 1 (A2.map fun x => x.add m) Q.1.length (Q.1.map U8) := by
    have := ho2.rd
    rw [hrl, List.map_append] at this
    exact rd_drop this (by rw [List.length_map, hbl])
  have hcm : ¬ c2 = m := by have := ho2.cap.1; omega
  have HM := Lib.hid (wire_must0 w2)
  have HA := Lib.hid (wr_add lo g w1.heap.size B Q.1 Q.2 (A2.map fun x => x.add m) (c2 - m) w2 (WrAt.tab hh hlo ho ht hE1 ht2 hK2) hr2 hB)
  have hlw : lo ≤ w.heap.size := by omega
  have hBw : Below lo w w2 := (hE1.mono hlw).trans hB2
  have hKw : KeptY w w2 := (KeptY.ext hE1).trans (KeptY.keptC hK2 (ht.ext hE1))
  clear ho2 hr2
  dsimp only
  rw [hrl]
  clear hrl
  go_wp2_with fail
  refine HM.out.mono ?_; rintro e w3 ⟨rfl, rfl⟩
  go_wp2_with fail
  refine HA.out.mono ?_; rintro e w4 ⟨⟨h1, rfl, h2, h3⟩ | ⟨h1, rfl⟩, hB4⟩
  · go_wp2_with fail
    go_end0
    exact ⟨.inl ⟨h1, rfl, h2, hKw.trans h3⟩, hBw.trans hB4⟩
  · go_wp2_with fail
    exact ⟨rfl, .inr ⟨h1, rfl⟩, hBw.trans hB4⟩
end Go.Proofs.YtjmfpillnbnofaaDoor
namespace Go.Proofs.YtjmfpillnbnofaaDoor
set_option linter.unusedSimpArgs false
set_option linter.unusedVariables false
open Go.RowKit
set_option maxRecDepth 100000

theorem WrAt.ext {w w' : World} {lo g : Nat} {B : List UInt8} {T : Tab} (h : WrAt w lo g B T) (hE : Ext w w') : WrAt w' lo g B T := by
  obtain ⟨A, c, tp, hh, hlo, ho, ht⟩ := h
  exact ⟨A, c, tp, (hE.block g (Array.getElem?_eq_some_iff.1 hh).1).trans hh, hlo, ho.ext hE, ht.ext hE⟩
theorem WrAt.lo {w : World} {lo g : Nat} {B : List UInt8} {T : Tab} (h : WrAt w lo g B T) : lo ≤ g ∧ g < w.heap.size := by
  obtain ⟨A, c, tp, hh, hlo, ho, ht⟩ := h
  exact ⟨hlo, (Array.getElem?_eq_some_iff.1 hh).1⟩
/-- Behind a call that makes memory alone. -/
theorem WrPost.after {lo g : Nat} {R : List UInt8 × Tab} {w w1 : World} {e : Ending} {w' : World} (h : WrPost lo g R w1 e w') (hE : Ext w w1) (hlo : lo ≤ w.heap.size) : WrPost lo g R w e w' := by
  obtain ⟨h1, h2⟩ := h
  refine ⟨?_, (hE.mono hlo).trans h2⟩
  rcases h1 with ⟨a, b, c, d⟩ | h
  · exact .inl ⟨a, b, c, (KeptY.ext hE).trans d⟩
  · exact .inr h
set_option maxHeartbeats 1000000 in
theorem wr_fixed (lo g : Nat) (B : List UInt8) (T : Tab) (kind cls ttl : Int) (w : World) (h : WrAt w lo g B T) (hB : B.length ≤ 65535) (hk : 0 ≤ kind ∧ kind ≤ 65535) (hc : 0 ≤ cls ∧ cls ≤ 65535) (ht : 0 ≤ ttl ∧ ttl ≤ 4294967295) :
    Calls Tryd.prog 41 #[.pointer (some ⟨g, 0, none⟩), .int .u16 kind, .int .u16 cls, .int .u32 ttl] w (WrPost lo g (B ++ (two kind.toNat ++ two cls.toNat ++ four ttl.toNat), T) w) := by
  have hlo := h.lo
  have H1 := Lib.hid (cur_put2 0 none 0 [] kind w (Rd.nil _ _ _ _) (by simp) hk)
  go_enter Tryd.func41, Tryd.ntmps41
  go_wp2_with fail
  refine H1.out.mono ?_; rintro e w1 ⟨A1, c1, rfl, ho1, hE1⟩
  have H2 := Lib.hid (cur_put2 w.heap.size A1 c1 ([] ++ two kind.toNat) cls w1 ho1.rd (by simp [two_len]) hc)
  go_wp2_with fail
  refine H2.out.mono ?_; rintro e w2 ⟨A2, c2, rfl, ho2, hE2⟩
  have H3 := Lib.hid (cur_put4 w1.heap.size A2 c2 ([] ++ two kind.toNat ++ two cls.toNat) ttl w2 ho2.rd (by simp [two_len]) ht)
  go_wp2_with fail
  refine H3.out.mono ?_; rintro e w3 ⟨A3, c3, rfl, ho3, hE3⟩
  rw [List.nil_append] at ho3
  have hE : Ext w w3 := (hE1.trans hE2).trans hE3
  have H4 := Lib.hid (wr_add lo g w2.heap.size B (two kind.toNat ++ two cls.toNat ++ four ttl.toNat) T A3 c3 w3 (h.ext hE) ho3.rd hB)
  rw [List.nil_append]
  go_wp2_with fail
  refine H4.out.mono ?_; rintro e w4 h4
  have h5 := h4.after hE (by omega)
  obtain ⟨⟨h1, rfl, h2, h3⟩ | ⟨h1, rfl⟩, hB4⟩ := h5
  · go_wp2_with fail
    go_end0
    exact ⟨.inl ⟨h1, rfl, h2, h3⟩, hB4⟩
  · go_wp2_with fail
    exact ⟨rfl, .inr ⟨h1, rfl⟩, hB4⟩
section
variable {P : Program}
theorem step_copy {ops : Array Oper} {o : Oper} {a : Act} {w : World} {K : Act → World → Prop} {Q : Exit → Act → World → Prop} {E : Prop} (hgd : o.guard = none) (d s : Operand) (t : TypeId)
    (ho : o.op = .call { callee := .builtin .copy, args := #[d, s], argTypes := #[t, t] }) (e : TypeId) (ht : P.underlying t = some (.slice e)) (hsz : (P.info? e).map (·.size) = some 1)
    (g off dl dc : Nat) (hd : a.eval d = .slice (some ⟨g, off, none⟩) dl dc) (sa : Addr) (sl sc : Nat) (hsv : a.eval s = .slice (some sa) sl sc) (cur : Array Value) (T : TypeId) (fz : Nat × Nat) (cs : List Value)
    (hg : w.heap[g]? = some (.cells cur T fz)) (hzz : Harm fz cur.size) (hn : cs.length = Nat.min sl dl) (hsrc : ∀ j v, cs[j]? = some v → w.cell? (sa.add j) = some v) (hfit : off + cs.length ≤ cur.size) (h1 : ∀ v ∈ cs, v.oneCell' = true)
    (h : K (a.put o.dst (goInt cs.length)) (w.setRow g (cur.toList.take off ++ cs ++ cur.toList.drop (off + cs.length)).toArray)) :
    if Region.wanted o (yielded ops a.tmps) = true then Oper.wp P o a w K Q else E := by
  have hw : Region.wanted o (yielded ops a.tmps) = true := by simp [Region.wanted, hgd]
  rw [if_pos hw]
  have hrun := run_copyZ (P := P) w t o.type e g off dl dc sa sl sc cur T fz cs ht hsz hg hzz hn hsrc hfit h1
  unfold Oper.wp execOp
  simp only [ho, resolve, invoke, builtin, Sem.run_bind, Sem.run_pure, Result.andThen_ok, List.map_toArray, List.map_cons, List.map_nil, hd, hsv, hrun]
  exact h
end
theorem grown_row (w : World) (g : Nat) (cs : Array Value) : w.grownBy (w.setRow g cs) (some g) := by
  refine ⟨rfl, rfl, rfl, by simp [World.setRow], fun k hk hne => ?_⟩
  show (w.heap.modify g _)[k]? = _
  rw [Array.getElem?_modify, if_neg (fun e => hne (by rw [e]))]
theorem take_mid {α : Type} (cur : List α) (o n : Nat) (cs : List α) (h : o + cs.length ≤ n) (hn : n ≤ cur.length) : (cur.take o ++ cs ++ cur.drop (o + cs.length)).take n = (cur.take n).take o ++ cs ++ (cur.take n).drop (o + cs.length) := by
  rw [List.take_take, Nat.min_eq_left (by omega), List.drop_take]
  rw [List.take_append, List.take_of_length_le (by simp only [List.length_append, List.length_take]; omega)]
  congr 1
  simp only [List.length_append, List.length_take]
  rw [Nat.min_eq_left (by omega)]
/-- Bytes of its own, two of them written over. -/
theorem own_row {w : World} {lo n c : Nat} {A : Option Addr} {xs cs : List Value} {o : Nat} (h : OwnZ w lo A n c xs) (hc : 0 < cs.length) (ho : o + cs.length ≤ n) :
    ∃ g cur fz, A = some ⟨g, 0, none⟩ ∧ w.heap[g]? = some (.cells cur 5 fz) ∧ Harm fz cur.size ∧ o + cs.length ≤ cur.size ∧ OwnZ (w.setRow g (cur.toList.take o ++ cs ++ cur.toList.drop (o + cs.length)).toArray) lo A n c (xs.take o ++ cs ++ xs.drop (o + cs.length)) ∧
      w.grownBy (w.setRow g (cur.toList.take o ++ cs ++ cur.toList.drop (o + cs.length)).toArray) (Value.slice A n c).ownBlock := by
  rcases h.2 with ⟨_, h2, _⟩ | ⟨g, cur, fz, rfl, hg, hh, hz, h4, h5, h6, h7⟩
  · omega
  · have hx := h.1
    refine ⟨g, cur, fz, rfl, hh, hz, by omega, ⟨?_, .inr ⟨g, _, fz, rfl, hg, setRow_heap w g cur _ _ _ hh, ?_, h4, h5, ?_, ?_⟩⟩, grown_row w g _⟩
    · simp only [List.length_append, List.length_take, List.length_drop]; omega
    · intro j hj
      refine hz j ?_
      simp only [List.size_toArray, List.length_append, List.length_take, List.length_drop, Array.length_toList] at hj
      omega
    · simp only [List.size_toArray, List.length_append, List.length_take, List.length_drop, Array.length_toList]; omega
    · rw [take_mid _ _ _ _ ho (by rw [Array.length_toList]; omega), h7]
def fixW (r : RecD) : List UInt8 := two r.typ.toNat ++ two r.cls.toNat ++ four r.ttl.toNat
theorem rec_round {B : List UInt8} {T : Tab} {r : RecD} {l : List RecD} {R : List UInt8 × Tab} (h : (B ++ (seqW recW B.length (r :: l) T).1, (seqW recW B.length (r :: l) T).2) = R) :
    ∃ N D : List UInt8 × Tab, N = putN true true B.length r.name T ∧ D = dataW ((B ++ N.1 ++ fixW r).length + 2) r.typ r.data N.2 ∧
      (B ++ N.1 ++ fixW r ++ two D.1.length ++ D.1 ++ (seqW recW (B ++ N.1 ++ fixW r ++ two D.1.length ++ D.1).length l D.2).1, (seqW recW (B ++ N.1 ++ fixW r ++ two D.1.length ++ D.1).length l D.2).2) = R := by
  refine ⟨_, _, rfl, rfl, ?_⟩
  have hp : (B ++ (putN true true B.length r.name T).1 ++ fixW r).length + 2 = B.length + (putN true true B.length r.name T).1.length + 10 := by
    simp only [fixW, List.length_append, two_len, four_len]
  rw [hp]
  have e : recW B.length r T = ((putN true true B.length r.name T).1 ++ fixW r ++ two (dataW (B.length + (putN true true B.length r.name T).1.length + 10) r.typ r.data (putN true true B.length r.name T).2).1.length ++ (dataW (B.length + (putN true true B.length r.name T).1.length + 10) r.typ r.data (putN true true B.length r.name T).2).1,
      (dataW (B.length + (putN true true B.length r.name T).1.length + 10) r.typ r.data (putN true true B.length r.name T).2).2) := rfl
  rw [← h]
  simp only [seqW]
  rw [e]
  dsimp only
  have hl : ∀ x y z u : List UInt8, (B ++ x ++ y ++ z ++ u).length = B.length + (x ++ y ++ z ++ u).length := fun x y z u => by simp only [List.length_append]; omega
  rw [hl]
  simp only [List.append_assoc]
/-- What holds at a round's head. -/
structure WsInv (w : World) (lo g : Nat) (l : List RecD) (R : List UInt8 × Tab) (k : Nat) (B : List UInt8) (T : Tab) (wr : World) : Prop where
  kl : k ≤ l.length
  wat : WrAt wr lo g B T
  bl : B.length ≤ 65535
  eq : (B ++ (seqW recW B.length (l.drop k) T).1, (seqW recW B.length (l.drop k) T).2) = R
  blw : Below lo w wr
  ky : KeptY w wr
theorem ws_round {w wo W w8 w9 w' : World} {lo g : Nat} {l : List RecD} {R N D : List UInt8 × Tab} {k Tl gA c8 : Nat} {B B3 S4 : List UInt8} {T : Tab} {tp8 : Nat} {r : RecD}
    (hRe : (B ++ N.1 ++ fixW r ++ two D.1.length ++ D.1 ++ (seqW recW (B ++ N.1 ++ fixW r ++ two D.1.length ++ D.1).length (l.drop (k + 1)) D.2).1, (seqW recW (B ++ N.1 ++ fixW r ++ two D.1.length ++ D.1).length (l.drop (k + 1)) D.2).2) = R ∨ (B3 ++ two D.1.length ++ D.1 ++ (seqW recW (B3 ++ two D.1.length ++ D.1).length (l.drop (k + 1)) D.2).1, (seqW recW (B3 ++ two D.1.length ++ D.1).length (l.drop (k + 1)) D.2).2) = R)
    (hI : WsInv w lo g l R k B T wo) (hEW : Ext wo W) (hKW8 : KeptY W w8) (hBl8 : Below lo w w8) (h89 : Ext w8 w9) (hl8 : Tl ≤ 65535) (hTl : Tl = S4.length + D.1.length) (hTle : Tl = (S4 ++ D.1).length) (hS4 : S4 = B3 ++ [0, 0]) (hlt : k < l.length) (hlo8 : lo ≤ g)
    (hh9 : w'.heap[g]? = some (.cells #[.slice (some ⟨gA, 0, none⟩) Tl c8, .pointer (some ⟨tp8, 0, none⟩)] 102)) (ho8 : OwnZ w9 lo (some ⟨gA, 0, none⟩) Tl c8 ((S4 ++ D.1).map U8))
    (hown : OwnZ w' lo (some ⟨gA, 0, none⟩) Tl c8 (((S4 ++ D.1).map U8).take B3.length ++ (two D.1.length).map U8 ++ ((S4 ++ D.1).map U8).drop (B3.length + ((two D.1.length).map U8).length)))
    (hgr : w9.grownBy w' (Value.slice (some ⟨gA, 0, none⟩) Tl c8).ownBlock) (ht : TabAt w' lo tp8 D.2) (hB3 : B3 = B ++ N.1 ++ fixW r) :
    WsInv w lo g l R (k + 1) (B3 ++ two D.1.length ++ D.1) D.2 w' := by
  have hR : (B3 ++ two D.1.length ++ D.1 ++ (seqW recW (B3 ++ two D.1.length ++ D.1).length (l.drop (k + 1)) D.2).1, (seqW recW (B3 ++ two D.1.length ++ D.1).length (l.drop (k + 1)) D.2).2) = R := by
    rcases hRe with h | h
    · rw [hB3]; exact h
    · exact h
  have hx : ((S4 ++ D.1).map U8).take B3.length ++ (two D.1.length).map U8 ++ ((S4 ++ D.1).map U8).drop (B3.length + ((two D.1.length).map U8).length) = (B3 ++ two D.1.length ++ D.1).map U8 := by
    rw [hS4, List.length_map, two_len, List.map_append, List.map_append, List.map_append, List.map_append]
    have e1 : (List.map U8 B3 ++ List.map U8 [0, 0] ++ List.map U8 D.1).take B3.length = List.map U8 B3 := by
      rw [List.append_assoc, List.take_left' (by rw [List.length_map])]
    have e2 : (List.map U8 B3 ++ List.map U8 [0, 0] ++ List.map U8 D.1).drop (B3.length + 2) = List.map U8 D.1 := by
      rw [List.drop_left' (by rw [List.length_append, List.length_map]; rfl)]
    rw [e1, e2]
  have hlen : (B3 ++ two D.1.length ++ D.1).length = Tl := by
    rw [hTl, hS4]; simp only [List.length_append, two_len, List.length_cons, List.length_nil]
  have hlw : lo ≤ w8.heap.size := by
    have := hBl8.size
    have h1 := (Array.getElem?_eq_some_iff.1 hh9).1
    obtain ⟨_, _, _, h2, _⟩ := hI.wat
    have := hI.wat.lo
    have := hI.ky.1
    have := hKW8.1
    have := hEW.size
    omega
  refine ⟨by omega, ⟨some ⟨gA, 0, none⟩, c8, tp8, by rw [hlen]; exact hh9, hlo8, by rw [hlen, ← hx]; exact hown, ht⟩, by omega, hR, (hBl8.trans (h89.mono hlw)).grown hgr (Nat.le_trans hlw h89.size) (fun j hj => (ho8.blk j hj).1), (((hI.ky.trans (KeptY.ext hEW)).trans hKW8).trans (KeptY.ext h89)).trans (KeptY.grown ho8 hgr)⟩
set_option maxHeartbeats 4000000 in
theorem wr_records (w0 : World) (lo g : Nat) (B : List UInt8) (T : Tab) (v : Value) (l : List RecD) (w : World) (hg : Laid w0) (h : WrAt w lo g B T) (hB : B.length ≤ 65535) (hv : Recs w0 0 v l) (hE0 : Ext w0 w) (h0 : w0.heap.size ≤ lo)
    (hok : ∀ r ∈ l, recOk7 r = true ∧ r.wf ∧ r.data.length ≤ 1048576) :
    Calls Tryd.prog 39 #[.pointer (some ⟨g, 0, none⟩), v] w (WrPost lo g (B ++ (seqW recW B.length l T).1, (seqW recW B.length l T).2) w) := by
  obtain ⟨A, c, rfl, hlc, hcm, hrd⟩ := hv
  have hloG := h.lo
  unfold maxLen at hcm
  obtain ⟨i0, hi0, hz0, hz1, hz2⟩ := info_parts info_u8
  obtain ⟨R, hR⟩ : ∃ R, R = (B ++ (seqW recW B.length l T).1, (seqW recW B.length l T).2) := ⟨_, rfl⟩
  rw [← hR]
  have HR := Lib.hid hR
  clear hR
  go_enter Tryd.func39, Tryd.ntmps39
  go_wp2_with fail
  go_loopw [5, 6, 7, 8, 9, 12] (fun _ _ _ _ _ i wr => ∃ (k : Nat) (B : List UInt8) (T : Tab), i = .int .i64 k ∧ WsInv w lo g l R k B T wr) (fun _ _ _ _ _ i _ => l.length - (intOf i).toNat)
  case atStart => exact ⟨0, B, T, rfl, Nat.zero_le _, h, hB, by rw [HR.out, List.drop_zero], Below.refl _ _, KeptY.refl _⟩
  case round =>
    clear HR
    obtain ⟨k, B, T, rfl, hI⟩ := hrel
    obtain ⟨wo, rfl⟩ : ∃ wo : World, wo = wr := ⟨_, rfl⟩
    have hE0o : Ext w0 wo := hE0.then hI.blw h0
    have hB := hI.bl
    have hW := hI.wat
    by_cases hlt : k < l.length
    · obtain ⟨b, off, rfl, _, hbz, hc⟩ := (hrd.ext hE0o).2 (by omega)
      obtain ⟨x0, x1, x2, x3, x4⟩ := recs_cells hc k l[k] (List.getElem?_eq_getElem hlt)
      obtain ⟨ho7, hwf, hdl⟩ := hok l[k] (List.getElem_mem hlt)
      have hR1 := hI.eq
      rw [List.drop_eq_getElem_cons hlt] at hR1
      generalize l[k] = r at *
      obtain ⟨nm, ty, cl, tt, da⟩ := r
      unfold recOk7 at ho7
      simp only [Bool.and_eq_true, decide_eq_true_eq] at ho7
      obtain ⟨⟨ht41, hmay⟩, hrm⟩ := ho7
      obtain ⟨hwt, hwc, hwl⟩ := hwf
      dsimp only at *
      have HR1 := Lib.hid hR1
      clear hR1 hc
      have hki : (k : Int) < (l.length : Int) := by omega
      have hk0 : (0 : Int) ≤ (k : Int) := by omega
      obtain ⟨N, D, hN, hD, hRe⟩ := rec_round HR1.out
      have HRe := Lib.hid hRe
      have HD := Lib.hid hD
      have hF8 : (fixW ⟨nm, ty, cl, tt, da⟩).length = 8 := by simp [fixW, two_len, four_len]
      have Hln := Lib.hid (show (B ++ N.1).length ≤ R.1.length ∧ (B ++ N.1 ++ fixW ⟨nm, ty, cl, tt, da⟩).length + 2 ≤ R.1.length ∧ (B ++ N.1 ++ fixW ⟨nm, ty, cl, tt, da⟩).length + 2 + D.1.length ≤ R.1.length by
        rw [← hRe]; simp only [List.length_append, two_len]; omega)
      have hNl : N.1.length ≤ 255 := by rw [hN]; exact putN_len true true _ _ hmay
      clear hRe hD hF8
      go_upto_region 3 with fail
      obtain ⟨W, hWe⟩ : ∃ W, W = wo.alloc (.cells #[S nm, .int .u16 ty, .int .u16 cl, .int .u32 tt, S da] 75) := ⟨_, rfl⟩
      have hEW : Ext wo W := by rw [hWe]; exact (Ext.refl _).alloc _
      have hrow : W.heap[wo.heap.size]? = some (.cells #[S nm, .int .u16 ty, .int .u16 cl, .int .u32 tt, S da] 75) := by rw [hWe]; exact heap_alloc_new _ _
      rw [← hWe]
      clear hWe x0 x1 x2 x3 x4
      have HRow := Lib.hid (fun V (hV : KeptY W V) => hV.2 _ _ _ _ (by decide) (by decide) (by decide) hrow)
      have k0 : W.cell? ⟨wo.heap.size, 0, none⟩ = some (S nm) := by simp [World.cell?, hrow]
      have HN := Lib.hid (wr_name lo g B nm T W (hW.ext hEW) hB hmay)
      rw [← hN] at HN
      have hloo : lo ≤ wo.heap.size := Nat.le_trans (by have := hI.blw.size; omega) (Nat.le_refl _)
      clear hrow hN
      go_wp2_with fail
      refine HN.out.mono ?_; rintro e w2 ⟨⟨l2, rfl, hW2, hK2⟩ | ⟨l2, rfl⟩, hB2⟩
      rotate_left
      · go_wp2_with fail
        exact ⟨rfl, .inr ⟨by have := Hln.out.1; omega, rfl⟩, (hI.blw.trans (hEW.mono hloo)).trans hB2⟩
      have hKW2 : KeptY W w2 := hK2
      have hrow2 := HRow.out _ hKW2
      have k1 : w2.cell? ⟨wo.heap.size, 1, none⟩ = some (.int .u16 ty) := by simp [World.cell?, hrow2]
      have k2 : w2.cell? ⟨wo.heap.size, 2, none⟩ = some (.int .u16 cl) := by simp [World.cell?, hrow2]
      have k3 : w2.cell? ⟨wo.heap.size, 3, none⟩ = some (.int .u32 tt) := by simp [World.cell?, hrow2]
      have HF := Lib.hid (wr_fixed lo g (B ++ N.1) N.2 ty cl tt w2 hW2 l2 hwt hwc hwl)
      clear hrow2
      go_wp2_with fail
      refine HF.out.mono ?_; rintro e w3 ⟨⟨l3, rfl, hW3, hK3⟩ | ⟨l3, rfl⟩, hB3⟩
      rotate_left
      · go_wp2_with fail
        exact ⟨rfl, .inr ⟨by have := Hln.out.2.1; unfold fixW at this; dsimp only at this; omega, rfl⟩, ((hI.blw.trans (hEW.mono hloo)).trans hB2).trans hB3⟩
      have hKW3 : KeptY W w3 := hKW2.trans hK3
      have HA2 := Lib.hid (fun (X : World) (hX : WrAt X lo g (B ++ N.1 ++ fixW ⟨nm, ty, cl, tt, da⟩) N.2) (u : Nat) (hr : Rd X 0 1 (some ⟨u, 0, none⟩) 2 ([(0 : UInt8), 0].map U8)) => wr_add lo g 0 _ [0, 0] N.2 (some ⟨u, 0, none⟩) 2 X hX hr (by exact l3))
      have hr3 : Rd (w3.alloc (.cells #[.int .u8 0, .int .u8 0] 5)) 0 1 (some ⟨w3.heap.size, 0, none⟩) 2 ([(0 : UInt8), 0].map U8) := rd_new w3 w3.heap.size rfl _ _ 2 1 rfl
      have HW3 : WrAt w3 lo g (B ++ N.1 ++ fixW ⟨nm, ty, cl, tt, da⟩) N.2 := hW3
      clear hW3
      go_wp2_with fail
      refine (HA2.out _ (HW3.ext ((Ext.refl _).alloc _)) _ hr3).mono ?_; rintro e w4 h4
      have h5 := h4.after ((Ext.refl w3).alloc _) (by have := HW3.lo; omega)
      obtain ⟨⟨l4, rfl, hW4, hK4⟩ | ⟨l4, rfl⟩, hB4⟩ := h5
      rotate_left
      · go_wp2_with fail
        exact ⟨rfl, .inr ⟨by have := Hln.out.2.1; rw [List.length_append] at l4; simp only [List.length_cons, List.length_nil] at l4; omega, rfl⟩, (((hI.blw.trans (hEW.mono hloo)).trans hB2).trans hB3).trans hB4⟩
      have hKW4 : KeptY W w4 := hKW3.trans hK4
      have hBl4 : Below lo w w4 := (((hI.blw.trans (hEW.mono hloo)).trans hB2).trans hB3).trans hB4
      dsimp only at l4 hW4
      have Hz := Lib.hid (show B ++ N.1 ++ fixW ⟨nm, ty, cl, tt, da⟩ ++ [0, 0] = (B ++ N.1 ++ fixW ⟨nm, ty, cl, tt, da⟩) ++ [0, 0] from rfl)
      have HD4 := Lib.hid (show D = dataW (B ++ N.1 ++ fixW ⟨nm, ty, cl, tt, da⟩ ++ [0, 0]).length ty da N.2 by rw [HD.out, List.length_append (bs := [0, 0])]; rfl)
      have Hln4 := Lib.hid (show (B ++ N.1 ++ fixW ⟨nm, ty, cl, tt, da⟩ ++ [0, 0]).length + D.1.length ≤ R.1.length by have := Hln.out.2.2; rw [List.length_append (bs := [0, 0])]; exact this)
      obtain ⟨B3, hB3e⟩ : ∃ B3, B3 = B ++ N.1 ++ fixW ⟨nm, ty, cl, tt, da⟩ := ⟨_, rfl⟩
      have HB3 := Lib.hid hB3e
      rw [← hB3e] at HD4 Hln4 l4 hW4
      obtain ⟨S4, hS4⟩ : ∃ S4, S4 = B3 ++ [0, 0] := ⟨_, rfl⟩
      rw [← hS4] at HD4 Hln4 l4 hW4
      have HS4 := Lib.hid hS4
      have hSl : S4.length = B3.length + 2 := by rw [hS4, List.length_append]; rfl
      have HSl := Lib.hid hSl
      clear Hln HD HN HF HA2 hr3 HW3 hW2 l2 l3 hB3e hS4 hSl Hz k0 k1 k2 k3 HR1
      have hBase := Lib.hid (fun V (hV : Ext w4 V) => wr_base lo g S4 N.2 V (hW4.ext hV) l4)
      obtain ⟨A4, c4, tp, hh4, hlo4, ho4, ht4⟩ := hW4
      have hz4 := (Array.getElem?_eq_some_iff.1 hh4).1
      have HS6 := Lib.hid (show ∀ V, Ext w4 V → V.cell? ⟨g, 0, none⟩ = some (.slice A4 S4.length c4) from fun V hV => (hV.cell (p := ⟨g, 0, none⟩) hz4).trans (by simp [World.cell?, hh4]))
      go_upto_region 6 with fail
      go_cut [6, 7] (fun s6 s7 wx => ∃ (A5 : Option Addr) (c5 : Nat), s6 = .int .i64 S4.length ∧ s7 = .slice A5 (min S4.length 16384) c5 ∧ Rd wx lo 1 A5 (min S4.length 16384) ((S4.take (min S4.length 16384)).map U8) ∧ Ext w4 wx)
      case first =>
        as_aux_lemma =>
          refine wp_region_noPanic ?_
          refine wp_region_tree (S := (fun V => V.cell? ⟨g, 0, none⟩ = some (.slice A4 S4.length c4))) (.take 0 (.take 1 (.take 2 (.take 3 (.take 4 (.take 5 (.run 6 (.take 7 (.take 8 (.done)))))))))) (by kernel_rfl) (by kernel_rfl) (fun _ _ _ _ _ h => h) (HS6.out _ ((Ext.refl w4).drew)) ?_
          repeat ((with_reducible refine treeIs ?_); first
            | (refine treeTake (v := ?_) (by rfl) (by rfl) ?_ ?_; rotate_left; (focus (intro V hV; (try dsimp only at hV); (go_simp <;> with_reducible rfl))); (try simp only [Act.put, List.setIfInBounds_toArray, List.set_cons_zero, List.set_cons_succ]))
            | (refine treeSkip (by rfl) (by rfl) ?_; (try simp only [Act.put, List.setIfInBounds_toArray, List.set_cons_zero, List.set_cons_succ])))
          refine treeRun (by rfl) (fun K hK => ?_)
          go_simp
          refine (hBase.out _ ((Ext.refl w4).drew)).mono ?_; rintro e w5 ⟨A5, c5, rfl, hr5, hE5⟩
          have h45 : Ext w4 w5 := Ext.trans ((Ext.refl w4).drew) hE5
          refine hK.out _ _ ?_ ?_
          · exact HS6.out _ h45
          clear hK K
          (try simp only [Act.put, List.setIfInBounds_toArray, List.set_cons_zero, List.set_cons_succ])
          repeat ((with_reducible refine treeIs ?_); first
            | (refine treeTake (v := ?_) (by rfl) (by rfl) ?_ ?_; rotate_left; (focus (intro V hV; (try dsimp only at hV); (go_simp <;> with_reducible rfl))); (try simp only [Act.put, List.setIfInBounds_toArray, List.set_cons_zero, List.set_cons_succ]))
            | (refine treeSkip (by rfl) (by rfl) ?_; (try simp only [Act.put, List.setIfInBounds_toArray, List.set_cons_zero, List.set_cons_succ])))
          refine treeDone ?_
          refine NoPanic.normal ?_
          go_wp2_with fail
          go_meet
          exact ⟨A5, c5, rfl, rfl, hr5, h45⟩
      case rest =>
      obtain ⟨A5, c5, rfl, rfl, hr5, hE5⟩ := hcut
      obtain ⟨w5, rfl⟩ : ∃ w5 : World, w5 = wc := ⟨_, rfl⟩
      have hrow4 := HRow.out _ hKW4
      have hgtp : g ≠ tp := fun e => by
        subst e
        obtain ⟨_, _, ⟨h4, _⟩ | ⟨b, h4, _⟩⟩ := ht4
        · rw [h4] at hh4; cases hh4
        · rw [h4] at hh4; cases hh4
      have hotp : wo.heap.size ≠ tp := fun e => by
        rw [e] at hrow4
        obtain ⟨_, _, ⟨h4, _⟩ | ⟨b, h4, _⟩⟩ := ht4
        · rw [h4] at hrow4; cases hrow4
        · rw [h4] at hrow4; cases hrow4
      have hzo := (Array.getElem?_eq_some_iff.1 hrow4).1
      have HS7k := Lib.hid (show ∀ V V', Ext w4 V → KeptC tp V V' → V'.cell? ⟨g, 1, none⟩ = some (.pointer (some ⟨tp, 0, none⟩)) ∧ V'.cell? ⟨wo.heap.size, 1, none⟩ = some (.int .u16 ty) ∧ V'.cell? ⟨wo.heap.size, 4, none⟩ = some (S da) from fun V V' hV hK => by
        have h1 := hK.2 g _ _ _ hgtp ((hV.block g hz4).trans hh4)
        have h2 := hK.2 wo.heap.size _ _ _ hotp ((hV.block _ hzo).trans hrow4)
        exact ⟨by simp [World.cell?, h1], by simp [World.cell?, h2], by simp [World.cell?, h2]⟩)
      have hbl : (S4.take (min S4.length 16384)).length = min S4.length 16384 := by rw [List.length_take]; omega
      have hlow : lo ≤ w.heap.size := by omega
      have hE05 : Ext w0 w5 := (hE0.then hBl4 h0).trans hE5
      have HRW := Lib.hid (fun V (hV : Ext w5 V) => rdata_write lo tp lo N.2 A5 c5 (S4.take (min S4.length 16384)) da ty V (hg.ext (hE05.trans hV)) ((ht4.ext hE5).ext hV) (by rw [hbl]; exact hr5.ext hV) (by rw [hbl]; omega) hdl hrm)
      rw [hbl, show dataW (min S4.length 16384) ty da N.2 = D by rw [HD4.out]; exact partsW_base _ _ _ _] at HRW
      obtain ⟨m, hm⟩ : ∃ m, m = min S4.length 16384 := ⟨_, rfl⟩
      rw [← hm] at HRW hr5 hbl
      rw [← hm]
      generalize S4.take m = Sm at *
      have hmS : m ≤ 16384 := by omega
      have hDl : D.1.length ≤ R.1.length := by have := Hln4.out; omega
      clear hrow4 hr5 hm
      go_upto_region 7 with fail
      go_cut [8, 9] (fun s8 s9 wx => ∃ (A6 : Option Addr) (c6 : Nat), s8 = .slice A6 (m + D.1.length) c6 ∧ s9 = .int .i64 0 ∧ Own wx w5.heap.size 5 1 A6 (Sm ++ D.1).length c6 ((Sm ++ D.1).map U8) ∧ TabAt wx lo tp D.2 ∧ Below lo w5 wx ∧ KeptC tp w5 wx)
      case first =>
        as_aux_lemma =>
          refine wp_region_noPanic ?_
          refine wp_region_tree (S := (fun V => V.cell? ⟨g, 1, none⟩ = some (.pointer (some ⟨tp, 0, none⟩)) ∧ V.cell? ⟨wo.heap.size, 1, none⟩ = some (.int .u16 ty) ∧ V.cell? ⟨wo.heap.size, 4, none⟩ = some (S da))) (.take 0 (.take 1 (.take 2 (.take 3 (.take 4 (.take 5 (.take 6 (.take 7 (.take 8 (.run 9 (.take 10 (.take 11 (.take 12 (.take 13 (.take 14 (.done)))))))))))))))) (by kernel_rfl) (by kernel_rfl) (fun _ _ _ _ _ h => h) (HS7k.out _ _ (hE5.trans ((Ext.refl w5).drew)) (KeptC.refl _ _)) ?_
          repeat ((with_reducible refine treeIs ?_); first
            | (refine treeTake (v := ?_) (by rfl) (by rfl) ?_ ?_; rotate_left; (focus (intro V hV; (try dsimp only at hV); (go_simp <;> with_reducible rfl))); (try simp only [Act.put, List.setIfInBounds_toArray, List.set_cons_zero, List.set_cons_succ]))
            | (refine treeSkip (by rfl) (by rfl) ?_; (try simp only [Act.put, List.setIfInBounds_toArray, List.set_cons_zero, List.set_cons_succ])))
          refine treeRun (by rfl) (fun K hK => ?_)
          go_simp
          refine (HRW.out _ ((Ext.refl w5).drew)).mono ?_; rintro e w6 ⟨A6, c6, rfl, ho6, ht6, hB6, hK6⟩
          refine hK.out _ _ ?_ ?_
          · exact HS7k.out _ _ (hE5.trans ((Ext.refl w5).drew)) hK6
          clear hK K
          (try simp only [Act.put, List.setIfInBounds_toArray, List.set_cons_zero, List.set_cons_succ])
          repeat ((with_reducible refine treeIs ?_); first
            | (refine treeTake (v := ?_) (by rfl) (by rfl) ?_ ?_; rotate_left; (focus (intro V hV; (try dsimp only at hV); (go_simp <;> with_reducible rfl))); (try simp only [Act.put, List.setIfInBounds_toArray, List.set_cons_zero, List.set_cons_succ]))
            | (refine treeSkip (by rfl) (by rfl) ?_; (try simp only [Act.put, List.setIfInBounds_toArray, List.set_cons_zero, List.set_cons_succ])))
          refine treeDone ?_
          refine NoPanic.normal ?_
          go_wp2_with fail
          go_meet
          exact ⟨A6, c6, rfl, rfl, ho6, ht6, (((Ext.refl w5).drew).mono (by have := hE5.size; have := hBl4.size; omega)).trans hB6, (KeptC.ext ((Ext.refl w5).drew)).trans hK6⟩
      case rest =>
      obtain ⟨A6, c6, rfl, rfl, ho6, ht6, hB6, hK6⟩ := hcut
      obtain ⟨w6, rfl⟩ : ∃ w6 : World, w6 = wc := ⟨_, rfl⟩
      have hrl : (Sm ++ D.1).length = m + D.1.length := by rw [List.length_append, hbl]
      have hW6 : WrAt w6 lo g S4 D.2 := WrAt.tab hh4 hlo4 ho4 ht4 hE5 ht6 hK6
      have hKW6 : KeptY W w6 := (hKW4.trans (KeptY.ext hE5)).trans (KeptY.keptC hK6 (ht4.ext hE5))
      have hBl6 : Below lo w w6 := (hBl4.trans (hE5.mono (by omega))).trans hB6
      have HM := Lib.hid (wire_must0 w6)
      have hcap := ho6.cap.1
      rw [hrl] at hcap
      have hr6 : Rd w6 w5.heap.size 1 (A6.map fun x => x.add m) D.1.length (D.1.map U8) := by
        have := ho6.rd
        rw [hrl, List.map_append] at this
        exact rd_drop this (by rw [List.length_map, hbl])
      have hr6' : c6 = m → Rd w6 w5.heap.size 1 A6 D.1.length (D.1.map U8) := fun e => by
        have : D.1 = [] := List.eq_nil_of_length_eq_zero (by omega)
        rw [this]; exact Rd.nil _ _ _ _
      clear ho6 hrl
      go_upto_region 9 with (first | (go_at_call 33; refine HM.out.mono ?_; rintro e w' ⟨rfl, rfl⟩) | fail)
      have HA9 := Lib.hid (fun (A7 : Option Addr) (c7 : Nat) (hr : Rd w6 w5.heap.size 1 A7 D.1.length (D.1.map U8)) => wr_add lo g w5.heap.size S4 D.1 D.2 A7 c7 w6 hW6 hr l4)
      go_cut [] (fun wx => WrAt wx lo g (S4 ++ D.1) D.2 ∧ KeptY W wx ∧ Below lo w wx ∧ (S4 ++ D.1).length ≤ 65535)
      case first =>
        as_aux_lemma =>
          by_cases hcm : c6 = m
          · have hr7 := hr6' hcm
            clear hcap hr6 hr6'
            subst hcm
            go_wp2_with fail
            refine (HA9.out _ _ hr7).mono ?_; rintro e w7 ⟨⟨l7, rfl, hW7, hK7⟩ | ⟨l7, rfl⟩, hB7⟩
            · go_wp2_with fail
              go_meet
              exact ⟨hW7, hKW6.trans hK7, hBl6.trans hB7, l7⟩
            · go_wp2_with fail
              exact ⟨rfl, .inr ⟨by rw [List.length_append] at l7; have := Hln4.out; omega, rfl⟩, hBl6.trans hB7⟩
          · go_wp2_with fail
            refine (HA9.out _ _ hr6).mono ?_; rintro e w7 ⟨⟨l7, rfl, hW7, hK7⟩ | ⟨l7, rfl⟩, hB7⟩
            · go_wp2_with fail
              go_meet
              exact ⟨hW7, hKW6.trans hK7, hBl6.trans hB7, l7⟩
            · go_wp2_with fail
              exact ⟨rfl, .inr ⟨by rw [List.length_append] at l7; have := Hln4.out; omega, rfl⟩, hBl6.trans hB7⟩
      case rest =>
      obtain ⟨hW8, hKW8, hBl8, l8⟩ := hcut
      obtain ⟨w8, rfl⟩ : ∃ w8 : World, w8 = wc := ⟨_, rfl⟩
      clear HA9 hr6 hr6' hW6 ht6 hK6 hB6 HM hcap
      obtain ⟨A8, c8, tp8, hh8, hlo8, ho8, ht8⟩ := hW8
      have hS4 := HS4.out
      have hSl := HSl.out
      have hz8 := (Array.getElem?_eq_some_iff.1 hh8).1
      have hcap8 := ho8.cap
      have hTl : (S4 ++ D.1).length = S4.length + D.1.length := List.length_append
      have hD16 : 0 ≤ (D.1.length : Int) ∧ (D.1.length : Int) ≤ 65535 := by rw [hTl] at l8; omega
      obtain ⟨Tl, hTle⟩ : ∃ Tl, Tl = (S4 ++ D.1).length := ⟨_, rfl⟩
      rw [← hTle] at hh8 ho8 hcap8 hTl l8
      have HS10 := Lib.hid (show ∀ V, Ext w8 V → V.cell? ⟨g, 0, none⟩ = some (.slice A8 Tl c8) from fun V hV => (hV.cell (p := ⟨g, 0, none⟩) hz8).trans (by simp [World.cell?, hh8]))
      obtain ⟨gA, rfl, hgA, _⟩ := ho8.addr (by omega)
      have HP2 := Lib.hid (fun V => cur_put2 0 none 0 [] (D.1.length : Int) V (Rd.nil _ _ _ _) (by simp) hD16)
      have hs1 : IntKind.i64.wrap ((S4.length : Int) - 2) = (B3.length : Int) := by rw [IntKind.wrap_i64]; omega
      have hs2 : IntKind.i64.wrap ((Tl : Int) - (S4.length : Int)) = (D.1.length : Int) := by rw [IntKind.wrap_i64]; omega
      have hs3 : IntKind.u16.wrap (D.1.length : Int) = (D.1.length : Int) := by show (D.1.length : Int) % 65536 = _; omega
      have hs4 : (0 : Int) ≤ (B3.length : Int) := by omega
      have hs5 : (B3.length : Int) ≤ (S4.length : Int) := by omega
      have hs6 : (S4.length : Int) ≤ (c8 : Int) := by omega
      have hs7 : ¬ c8 = B3.length := by omega
      have Hl8 := Lib.hid l8
      have HTl := Lib.hid hTl
      have HTle := Lib.hid hTle
      have HSl := Lib.hid hSl
      have HS4 := Lib.hid hS4
      clear hTl hTle hSl hS4 l8
      go_upto_region 10 with fail
      refine wp_region_noPanic ?_
      refine wp_region_tree (S := (fun V => V.cell? ⟨g, 0, none⟩ = some (.slice (some ⟨gA, 0, none⟩) Tl c8))) (.take 0 (.take 1 (.take 2 (.take 3 (.take 4 (.take 5 (.take 6 (.take 7 (.take 8 (.take 9 (.take 10 (.take 11 (.take 12 (.take 13 (.take 14 (.take 15 (.run 16 (.run 17 (.done))))))))))))))))))) (by kernel_rfl) (by kernel_rfl) (fun _ _ _ _ _ h => h) (HS10.out _ ((Ext.refl w8).drew)) ?_
      repeat ((with_reducible refine treeIs ?_); first
        | (refine treeTake (v := ?_) (by rfl) (by rfl) ?_ ?_; rotate_left; (focus (intro V hV; (try dsimp only at hV); (go_simp <;> with_reducible rfl))); (try simp only [Act.put, List.setIfInBounds_toArray, List.set_cons_zero, List.set_cons_succ]))
        | (refine treeSkip (by rfl) (by rfl) ?_; (try simp only [Act.put, List.setIfInBounds_toArray, List.set_cons_zero, List.set_cons_succ])))
      refine treeRun (by rfl) (fun K hK => ?_)
      go_simp
      refine (HP2.out _).mono ?_; rintro e w9 ⟨A9, c9, rfl, ho9, hE9⟩
      have h89 : Ext w8 w9 := Ext.trans ((Ext.refl w8).drew) hE9
      simp only [List.nil_append, Int.toNat_natCast, two_len] at ho9 ⊢
      refine hK.out _ _ ?_ ?_
      · exact HS10.out _ h89
      clear hK K
      (try simp only [Act.put, List.setIfInBounds_toArray, List.set_cons_zero, List.set_cons_succ])
      refine treeRun (by rfl) (fun K hK => ?_)
      obtain ⟨g9, rfl, _, _⟩ := ho9.addr (by omega)
      have h2l : ((two D.1.length).map U8).length = 2 := by rw [List.length_map, two_len]
      obtain ⟨gB, cur, fzB, eA, hgB, hzB, hfit, hown9, hgr⟩ := own_row (o := B3.length) (cs := (two D.1.length).map U8) (ho8.ext h89) (by rw [h2l]; omega) (by rw [h2l]; have := HTl.out; have := HSl.out; omega)
      obtain rfl : gA = gB := by injection eA with eA; injection eA
      have hsrc : ∀ j v, ((two D.1.length).map U8)[j]? = some v → w9.cell? ((⟨g9, 0, none⟩ : Addr).add j) = some v := fun j v hj => by
        obtain ⟨b', off', e', _, _, h3⟩ := ho9.rd.2 (by omega)
        injection e' with e'
        injection e' with e1 e2
        subst e1 e2
        rw [add_none]
        exact h3 j v hj
      obtain ⟨wX, hwX⟩ : ∃ wX, wX = w9.setRow gA (cur.toList.take B3.length ++ (two D.1.length).map U8 ++ cur.toList.drop (B3.length + ((two D.1.length).map U8).length)).toArray := ⟨_, rfl⟩
      rw [← hwX] at hown9 hgr
      have hgg : g ≠ gA := fun e => own_wr (ho8.ext h89) ((h89.block g hz8).trans hh8) (by decide) (by rw [e]; rfl)
      have hh9 := (hgr.block g (Nat.lt_of_lt_of_le hz8 h89.size) (fun e => hgg (by injection e))).trans ((h89.block g hz8).trans hh8)
      have Hrel := Lib.hid (ws_round (.inl HRe.out) hI hEW hKW8 hBl8 h89 Hl8.out HTl.out HTle.out HS4.out hlt hlo8 hh9 (ho8.ext h89) hown9 hgr ((ht8.ext h89).keptZ (ho8.ext h89) hgr) HB3.out)
      refine step_copy rfl (.tmp 66) (.tmp 75) _ rfl 5 Tryd.underlying63 (by kernel_rfl) gA B3.length (S4.length - B3.length) (c8 - B3.length) rfl ⟨g9, 0, none⟩ 2 c9 rfl cur 5 fzB ((two D.1.length).map U8) hgB hzB (by rw [h2l]; have := HSl.out; show 2 = min 2 (S4.length - B3.length); omega) hsrc hfit (u8_one _) ?_
      rw [← hwX]
      clear hwX
      refine hK.out _ _ ?_ ?_
      · exact (cell_of_row _ g 0 _ _ _ hh9)
      clear hK K
      (try simp only [Act.put, List.setIfInBounds_toArray, List.set_cons_zero, List.set_cons_succ])
      refine treeDone ?_
      refine NoPanic.normal ?_
      go_wp2_with fail
      go_roundw
      case rel => exact ⟨k + 1, _, _, by go_num, Hrel.out⟩
      case measure => simp [intOf]; omega
    · have e1 : l.drop k = [] := List.drop_of_length_le (by omega)
      have hR1 := hI.eq
      rw [e1] at hR1
      have HX := Lib.hid (show (B, T) = R by rw [← hR1]; simp [seqW])
      clear hR1 e1
      have hge : ¬ ((k : Int) < (l.length : Int)) := by omega
      go_wp2_with fail
      go_end0
      rw [← HX.out]
      exact ⟨.inl ⟨hB, rfl, hW, hI.ky⟩, hI.blw⟩
end Go.Proofs.YtjmfpillnbnofaaDoor
