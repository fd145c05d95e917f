/- Contracts of functions and plain lemmas that the proofs of this seat share (joined texts). No condition. -/
import Derived.Test.YtdnpmapelmjfpaaGreatDoorRf
import Derived.Maps.Keyed
import Derived.DeepKeys4
import Derived.Maps.Own
import Derived.Test.YtdnpmapelmjfpaaGreatDoorRh0
import Derived.Sort.Statements
import Derived.Test.YtdnpmapelmjfpaaGreatDoorShelf
import Derived.Shelf.SlSortCmp.WholeK
import Derived.Shelf.SlSortCmp.NoneTotal
namespace Go.Proofs.YtdnpmapelmjfpaaGreatDoor
set_option linter.unusedSimpArgs false
set_option linter.unusedVariables false
open Go.RowKit
set_option maxRecDepth 100000
theorem laidOutZ : laidOutB Tryz.prog = true := by kernel_rfl
theorem keyLaw : WideMaps.KeyLaw Tryz.prog 154 :=
  deep_law_laid laidOutZ (m := 3) (by omega) (of_decide_eq_true (by kernel_rfl)) (by kernel_rfl) (by kernel_rfl)
abbrev keyV (n : List UInt8) (t c : Int) : Value := .agg #[S n, .int .u16 t, .int .u16 c]
theorem wf16 {n : Int} (h0 : 0 ≤ n) (h1 : n ≤ 65535) : (Lit.int .u16 n).wf = true := by
  have e1 : IntKind.u16.min = 0 := rfl
  have e2 : IntKind.u16.max = 65535 := rfl
  simp [Lit.wf]; omega
theorem keyOf_key (n : List UInt8) (t c : Int) (hn : n.length ≤ maxLen) (ht : 0 ≤ t ∧ t ≤ 65535) (hc : 0 ≤ c ∧ c ≤ 65535) : ∃ kl, keyOf Tryz.prog 154 (keyV n t c) = some kl := by
  have hk : Tryz.prog.keyType 154 = true := by kernel_rfl
  have hz : Tryz.prog.types.size = (Tryz.prog.types.size - 1) + 1 := by
    have : Tryz.prog.types.size ≠ 0 := by
      have : decide (Tryz.prog.types.size ≠ 0) = true := by kernel_rfl
      exact of_decide_eq_true this
    omega
  have c9 : Tryz.prog.cellsOf 9 = 1 := by kernel_rfl
  have c23 : Tryz.prog.cellsOf 26 = 1 := by kernel_rfl
  have c66 : Tryz.prog.cellsOf 154 = 3 := by kernel_rfl
  have hl : Tryz.prog.keyLits (Tryz.prog.types.size + 1) 154 [S n, .int .u16 t, .int .u16 c] = some [.string n, .int .u16 t, .int .u16 c] := by
    rw [hz]
    generalize Tryz.prog.types.size - 1 = m
    have h9 : Tryz.prog.keyLits (m + 1) 9 [S n] = some [.string n] := by
      unfold Program.keyLits
      simp only [Tryz.underlying9]
      rw [if_pos (by rw [size_mk]; exact hn)]
    have h23 : ∀ x, 0 ≤ x → x ≤ 65535 → Tryz.prog.keyLits (m + 1) 26 [.int .u16 x] = some [.int .u16 x] := fun x h0 h1 => by
      unfold Program.keyLits
      simp only [Tryz.underlying26]
      rw [if_pos ⟨trivial, wf16 h0 h1⟩]
    unfold Program.keyLits
    simp [Tryz.underlying154, c66, c9, c23, h9, h23 t ht.1 ht.2, h23 c hc.1 hc.2]
  unfold keyOf
  simp only [Tryz.underlying154, hk, Bool.true_and]
  rw [if_pos (by simp [Value.formed, Tryz.underlying154, c66])]
  exact ⟨_, by
    show Option.map _ (Tryz.prog.keyLits (Tryz.prog.types.size + 1) 154 [S n, .int .u16 t, .int .u16 c]) = _
    rw [hl]; rfl⟩

def keyS (s : SetD) : Value := keyV s.name s.typ s.cls
def SetKey (s : SetD) : Prop := s.name.length ≤ maxLen ∧ (0 ≤ s.typ ∧ s.typ ≤ 65535) ∧ (0 ≤ s.cls ∧ s.cls ≤ 65535)
def KMap (w : World) (b : Nat) (sets : List SetD) : Prop :=
  ∃ es clock, w.heap[b]? = some (.map es clock) ∧ es.toList.map (fun e => (e.key, e.val)) = sets.zipIdx.map (fun p => (keyS p.1, Value.int .i64 (p.2 : Int))) ∧ ∀ s ∈ sets, SetKey s
theorem KMap.made (w : World) : KMap (w.alloc (.map #[] 0)) w.heap.size [] := ⟨#[], 0, heap_alloc_new w _, rfl, by simp⟩
theorem KMap.lt {w : World} {b : Nat} {sets : List SetD} (h : KMap w b sets) : b < w.heap.size := by
  obtain ⟨es, clock, hb, _⟩ := h
  exact (Array.getElem?_eq_some_iff.1 hb).1
theorem KMap.ext {w w' : World} {b : Nat} {sets : List SetD} (h : KMap w b sets) (hE : Ext w w') : KMap w' b sets := by
  have hlt := h.lt
  obtain ⟨es, clock, hb, h1⟩ := h
  exact ⟨es, clock, (hE.block b hlt).trans hb, h1⟩
theorem KMap.kept {w w' : World} {b : Nat} {sets : List SetD} {row : Option Nat} (h : KMap w b sets) (hg : w.grownBy w' row) (hne : some b ≠ row) : KMap w' b sets := by
  have hlt := h.lt
  obtain ⟨es, clock, hb, h1⟩ := h
  exact ⟨es, clock, (hg.block b hlt hne).trans hb, h1⟩
theorem KMap.set {w : World} {b : Nat} {sets : List SetD} (h : KMap w b sets) {p : Addr} (hp : b ≠ p.block) (u : Value) : KMap (w.setCell p u) b sets := by
  obtain ⟨es, clock, hb, h1⟩ := h
  exact ⟨es, clock, (Below.heap_setCell w p u b hp).trans hb, h1⟩
theorem KMap.congr {w : World} {b : Nat} {s s' : List SetD} (h : KMap w b s) (he : s'.map (fun x => (x.name, x.typ, x.cls)) = s.map (fun x => (x.name, x.typ, x.cls))) : KMap w b s' := by
  obtain ⟨es, clock, hb, h1, h2⟩ := h
  have hlen : s'.length = s.length := by simpa using congrArg List.length he
  have hget : ∀ i (h : i < s'.length) (h' : i < s.length), (s'[i].name, s'[i].typ, s'[i].cls) = (s[i].name, s[i].typ, s[i].cls) := fun i h h' => by
    have := congrArg (fun l => l[i]?) he
    simpa [h, h'] using this
  refine ⟨es, clock, hb, ?_, fun x hx => ?_⟩
  · rw [h1]
    apply List.ext_getElem (by simp [hlen])
    intro i h3 h4
    simp only [List.length_map, List.length_zipIdx] at h3 h4
    have := hget i h4 h3
    simp only [Prod.mk.injEq] at this
    simp [keyS, this.1, this.2.1, this.2.2]
  · obtain ⟨i, hi, rfl⟩ := List.getElem_of_mem hx
    have := hget i hi (by omega)
    simp only [Prod.mk.injEq] at this
    have h5 := h2 s[i] (List.getElem_mem (by omega))
    unfold SetKey at *
    rw [this.1, this.2.1, this.2.2]; exact h5

theorem keyV_inj {n n' : List UInt8} {t t' c c' : Int} (h : keyV n t c = keyV n' t' c') : n = n' ∧ t = t' ∧ c = c' := by
  simp only [keyV, Value.agg.injEq, Array.mk.injEq, List.cons.injEq, Value.string.injEq, Value.int.injEq, true_and, and_true, ByteArray.mk.injEq] at h
  exact ⟨h.1, h.2.1, h.2.2⟩
theorem KMap.keys {es : Array MapEntry} {sets : List SetD} (h : es.toList.map (fun e => (e.key, e.val)) = sets.zipIdx.map (fun p => (keyS p.1, Value.int .i64 (p.2 : Int)))) (hk : ∀ s ∈ sets, SetKey s) :
    (∀ e ∈ es.toList, ∃ l, keyOf Tryz.prog 154 e.key = some l) ∧ (∀ (j : Nat) (e : MapEntry), es.toList[j]? = some e → ∃ s, sets[j]? = some s ∧ e.key = keyS s ∧ e.val = .int .i64 j) ∧ es.toList.length = sets.length := by
  have hlen : es.toList.length = sets.length := by simpa using congrArg List.length h
  have h2 : ∀ (j : Nat) (e : MapEntry), es.toList[j]? = some e → ∃ s, sets[j]? = some s ∧ e.key = keyS s ∧ e.val = .int .i64 j := by
    intro j e he
    have hj : j < sets.length := by rw [← hlen]; exact (List.getElem?_eq_some_iff.1 he).1
    have := congrArg (fun l => l[j]?) h
    simp only [List.getElem?_map, he, Option.map_some, List.getElem?_zipIdx, Nat.zero_add] at this
    rw [List.getElem?_eq_getElem hj] at this
    simp only [Option.map_some, Option.some.injEq, Prod.mk.injEq] at this
    exact ⟨sets[j], List.getElem?_eq_getElem hj, this.1, by rw [this.2]⟩
  refine ⟨fun e he => ?_, h2, hlen⟩
  obtain ⟨j, hj, rfl⟩ := List.getElem_of_mem he
  obtain ⟨s, hs, hk1, _⟩ := h2 j _ (List.getElem?_eq_getElem hj)
  have := hk s (List.mem_of_getElem? hs)
  rw [hk1]
  exact keyOf_key _ _ _ this.1 this.2.1 this.2.2

theorem KMap.look {w : World} {b : Nat} {sets : List SetD} (h : KMap w b sets) (n : List UInt8) (t c : Int) (hn : n.length ≤ maxLen) (ht : 0 ≤ t ∧ t ≤ 65535) (hc : 0 ≤ c ∧ c ≤ 65535) :
    ((Instr.lookup 152 (.map (some b)) (keyV n t c) true).run Tryz.prog w = .ok (.tuple #[.int .i64 0, .bool false]) w ∧ ∀ s ∈ sets, keyM n t c s = false) ∨
    ∃ j s, (Instr.lookup 152 (.map (some b)) (keyV n t c) true).run Tryz.prog w = .ok (.tuple #[.int .i64 (j : Nat), .bool true]) w ∧ sets[j]? = some s ∧ keyM n t c s = true := by
  obtain ⟨es, clock, hb, h1, h2⟩ := h
  obtain ⟨hks, hat, hlen⟩ := KMap.keys h1 h2
  obtain ⟨kl, hkl⟩ := keyOf_key n t c hn ht hc
  rcases keyLaw.find w hkl es.toList hks with ⟨f1, f2⟩ | ⟨j, e0, f1, f2, f3⟩
  · left
    refine ⟨by simp [Instr.lookup, run_underlying Tryz.underlying152, MapKept.run_getObj_map hb, keyLaw.check w _ hkl, f1, Tryz.zeroValue3, Result.andThen], fun s hs => ?_⟩
    obtain ⟨i, hi, rfl⟩ := List.getElem_of_mem hs
    have hi' : i < es.toList.length := by omega
    obtain ⟨s', hs', hk', _⟩ := hat i _ (List.getElem?_eq_getElem hi')
    rw [List.getElem?_eq_getElem hi] at hs'
    injection hs' with hs'
    rcases hkm : keyM n t c sets[i] with _ | _
    · rfl
    · exfalso
      apply f2 _ (List.getElem_mem hi')
      rw [hk', ← hs']
      simp only [keyM, Bool.and_eq_true, beq_iff_eq] at hkm
      simp [keyS, keyV, hkm.1, hkm.2.1, hkm.2.2]
  · right
    obtain ⟨s, hs, hk', hv⟩ := hat j e0 f2
    refine ⟨j, s, by simp [Instr.lookup, run_underlying Tryz.underlying152, MapKept.run_getObj_map hb, keyLaw.check w _ hkl, f1, Result.andThen, hv], hs, ?_⟩
    have := keyV_inj (hk'.symm.trans f3)
    simp [keyM, this.1, this.2.1, this.2.2]

theorem KMap.store {w : World} {b : Nat} {sets : List SetD} (h : KMap w b sets) (s : SetD) (hs : SetKey s) (hno : ∀ x ∈ sets, keyM s.name s.typ s.cls x = false) :
    ∃ w', (Instr.mapUpdate 152 (.map (some b)) (keyS s) (.int .i64 sets.length)).run Tryz.prog w = .ok () w' ∧ KMap w' b (sets ++ [s]) ∧ w.grownBy w' (some b) := by
  obtain ⟨es, clock, hb, h1, h2⟩ := h
  obtain ⟨hks, hat, hlen⟩ := KMap.keys h1 h2
  obtain ⟨kl, hkl⟩ := keyOf_key s.name s.typ s.cls hs.1 hs.2.1 hs.2.2
  have hbl : b < w.heap.size := (Array.getElem?_eq_some_iff.1 hb).1
  rcases keyLaw.find w hkl es.toList hks with ⟨f1, f2⟩ | ⟨j, e0, f1, f2, f3⟩
  · have hkl' : keyOf Tryz.prog 154 (keyS s) = some kl := hkl
    have f1' : (Instr.findKey 154 (keyS s) es.toList).run Tryz.prog w = .ok none w := f1
    refine ⟨_, by simp [Instr.mapUpdate, run_underlying Tryz.underlying152, MapKept.run_getObj_map hb, keyLaw.check w false hkl', f1', MapKept.run_setObj_map _ hb, Result.andThen]; rfl, ⟨es.push ⟨keyS s, .int .i64 sets.length, clock⟩, clock + 1, ?_, ?_, ?_⟩, ?_⟩
    · exact Array.getElem?_setIfInBounds_self_of_lt hbl
    · rw [Array.toList_push, List.map_append, h1, List.zipIdx_append, List.map_append]; simp
    · intro x hx
      rcases List.mem_append.1 hx with h | h
      · exact h2 x h
      · rw [List.mem_singleton] at h; subst h; exact hs
    · refine ⟨rfl, rfl, rfl, by simp, fun k hk hne => ?_⟩
      exact Array.getElem?_setIfInBounds_ne (fun e => hne (by rw [e]))
  · exfalso
    obtain ⟨s', hs', hk', hv⟩ := hat j e0 f2
    have h3 := hno s' (List.mem_of_getElem? hs')
    have h4 := keyV_inj (hk'.symm.trans f3)
    simp [keyM, h4.1, h4.2.1, h4.2.2] at h3
def cmpS (a b : SetD) : Int := if cmpN a.name b.name = 0 then (if cmpI a.typ b.typ = 0 then cmpI a.cls b.cls else cmpI a.typ b.typ) else cmpN a.name b.name

set_option maxHeartbeats 1000000 in
theorem rrset_compare (a b : SetD) (d e' : Value) (w : World) (hd : ∃ A n c, d = .slice A n c) (he : ∃ A n c, e' = .slice A n c) (ha : a.name.length ≤ maxLen) (hb : b.name.length ≤ maxLen) :
    Calls Tryz.prog 84 #[setVal a d, setVal b e'] w fun e w' => e = .returned (.int .i64 (cmpS a b)) ∧ ExtD w w' := by
  obtain ⟨an, at_, ac, atl, ad⟩ := a
  obtain ⟨bn, bt, bc, btl, bd⟩ := b
  obtain ⟨A, n, c, rfl⟩ := hd
  obtain ⟨B, m, f, rfl⟩ := he
  dsimp only at *
  have HC := Lib.hid (fun W => name_compare an bn W ha hb)
  have HT := Lib.hid (fun W => cmp_u16 at_ bt W)
  have HU := Lib.hid (fun W => cmp_u16 ac bc W)
  obtain ⟨R, hR⟩ : ∃ R, R = cmpS ⟨an, at_, ac, atl, ad⟩ ⟨bn, bt, bc, btl, bd⟩ := ⟨_, rfl⟩
  rw [← hR]
  unfold cmpS at hR
  dsimp only at hR
  generalize cmpN an bn = cn at *
  generalize cmpI at_ bt = ct at *
  generalize cmpI ac bc = cc at *
  by_cases h0 : cn = 0
  · rw [if_pos h0] at hR
    obtain ⟨f1, f2⟩ := eq_ints h0
    by_cases h1 : ct = 0
    · rw [if_pos h1] at hR
      obtain ⟨f3, f4⟩ := eq_ints h1
      have HR := Lib.hid hR
      clear hR h0 h1
      go_enter Tryz.func84, Tryz.ntmps84
      go_wp2_with fail
      refine (HC.out _).mono ?_; rintro e w1 ⟨rfl, hE1⟩
      have hx := ext_new_at (w.heap.size + 1) (by simp) hE1.1
      obtain ⟨hq, hqf, hqz⟩ := hx
      obtain ⟨hp, hpf, hpz⟩ := ext_new_at w.heap.size rfl (((Ext.refl _).alloc _).trans hE1.1)
      go_wp2_with fail
      refine (HT.out _).mono ?_; rintro e w' ⟨rfl, rfl⟩
      go_wp2_with fail
      refine (HU.out _).mono ?_; rintro e w' ⟨rfl, rfl⟩
      go_wp2_with fail
      go_ret
      exact ⟨by rw [HR.out]; rfl, (((ExtD.refl _).alloc _).alloc _).trans hE1⟩
    · rw [if_neg h1] at hR
      obtain ⟨f3, f4⟩ := ne_ints h1
      have HR := Lib.hid hR
      clear hR h0 h1
      go_enter Tryz.func84, Tryz.ntmps84
      go_wp2_with fail
      refine (HC.out _).mono ?_; rintro e w1 ⟨rfl, hE1⟩
      obtain ⟨hq, hqf, hqz⟩ := ext_new_at (w.heap.size + 1) (by simp) hE1.1
      obtain ⟨hp, hpf, hpz⟩ := ext_new_at w.heap.size rfl (((Ext.refl _).alloc _).trans hE1.1)
      go_wp2_with fail
      refine (HT.out _).mono ?_; rintro e w' ⟨rfl, rfl⟩
      go_wp2_with fail
      go_ret
      exact ⟨by rw [HR.out]; rfl, (((ExtD.refl _).alloc _).alloc _).trans hE1⟩
  · rw [if_neg h0] at hR
    obtain ⟨f1, f2⟩ := ne_ints h0
    have HR := Lib.hid hR
    clear hR h0
    go_enter Tryz.func84, Tryz.ntmps84
    go_wp2_with fail
    refine (HC.out _).mono ?_; rintro e w1 ⟨rfl, hE1⟩
    go_wp2_with fail
    go_ret
    exact ⟨by rw [HR.out]; rfl, (((ExtD.refl _).alloc _).alloc _).trans hE1⟩
structure Good {α : Type} (c : α → α → Int) : Prop where
  anti : ∀ x y, c y x = - c x y
  tr : ∀ x y z, c x y ≤ 0 → c y z ≤ 0 → c x z ≤ 0
theorem Good.zero {α : Type} {c : α → α → Int} (h : Good c) (x : α) : c x x = 0 := by have := h.anti x x; omega
theorem Good.trlt {α : Type} {c : α → α → Int} (h : Good c) {x y z : α} (h1 : c x y < 0) (h2 : c y z ≤ 0) : c x z < 0 := by
  have h3 := h.tr x y z (by omega) h2
  rcases Int.lt_or_eq_of_le h3 with h4 | h4
  · exact h4
  · have h5 := h.anti x z
    have h6 := h.tr y z x h2 (by omega)
    have h7 := h.anti x y
    omega
theorem Good.ltr {α : Type} {c : α → α → Int} (h : Good c) {x y z : α} (h1 : c x y ≤ 0) (h2 : c y z < 0) : c x z < 0 := by
  have h3 := h.tr x y z h1 (by omega)
  rcases Int.lt_or_eq_of_le h3 with h4 | h4
  · exact h4
  · have h5 := h.anti x z
    have h6 := h.tr z x y (by omega) h1
    have h7 := h.anti y z
    omega
theorem Good.eqtr {α : Type} {c : α → α → Int} (h : Good c) {x y z : α} (h1 : c x y ≤ 0) (h2 : c y z ≤ 0) (h3 : c x z = 0) : c x y = 0 ∧ c y z = 0 := by
  constructor
  · rcases Int.lt_or_eq_of_le h1 with h | h4
    · have := Good.trlt ‹Good c› h h2; omega
    · exact h4
  · rcases Int.lt_or_eq_of_le h2 with h | h4
    · have := Good.ltr ‹Good c› h1 h; omega
    · exact h4
theorem Good.swo {α : Type} {c : α → α → Int} (h : Good c) : Go.Sort.SWO (fun x y => decide (c x y < 0)) where
  irrefl x := by simp [h.zero x]
  trans x y z h1 h2 := by simp only [decide_eq_true_eq] at *; exact h.trlt h1 (by omega)
  ntrans x y z h1 h2 := by
    simp only [decide_eq_false_iff_not] at *
    have a1 := h.anti x y
    have a2 := h.anti y z
    have a3 := h.anti x z
    have := h.tr z y x (by omega) (by omega)
    omega
theorem Good.lex {α : Type} {c d : α → α → Int} (h : Good c) (k : Good d) : Good (fun x y => if c x y = 0 then d x y else c x y) where
  anti x y := by
    have a1 := h.anti x y
    have a2 := k.anti x y
    by_cases e : c x y = 0
    · rw [if_pos e, if_pos (by omega)]; exact a2
    · rw [if_neg e, if_neg (by omega)]; exact a1
  tr x y z h1 h2 := by
    have g1 : c x y ≤ 0 := by
      by_cases e : c x y = 0
      · omega
      · rwa [if_neg e] at h1
    have g2 : c y z ≤ 0 := by
      by_cases e : c y z = 0
      · omega
      · rwa [if_neg e] at h2
    have g3 := h.tr x y z g1 g2
    by_cases e : c x z = 0
    · obtain ⟨e1, e2⟩ := h.eqtr g1 g2 e
      rw [if_pos e]
      rw [if_pos e1] at h1
      rw [if_pos e2] at h2
      exact k.tr x y z h1 h2
    · rw [if_neg e]; exact g3
theorem Good.pull {α β : Type} {c : β → β → Int} (h : Good c) (f : α → β) : Good (fun x y => c (f x) (f y)) := ⟨fun x y => h.anti _ _, fun x y z => h.tr _ _ _⟩
theorem good_cmpI : Good cmpI where
  anti x y := by unfold cmpI; split <;> split <;> (try split) <;> (try split) <;> omega
  tr x y z h1 h2 := by
    unfold cmpI at *
    by_cases a : x < y
    · by_cases b : y < z
      · rw [if_pos (by omega)]; omega
      · rw [if_neg b] at h2
        by_cases b' : z < y
        · rw [if_pos b'] at h2; omega
        · rw [if_pos (by omega)]; omega
    · rw [if_neg a] at h1
      by_cases a' : y < x
      · rw [if_pos a'] at h1; omega
      · have : x = y := by omega
        subst this; exact h2

theorem bl_trans : ∀ (a b c : List UInt8), bl a b = true → bl b c = true → bl a c = true
  | [], [], _, h, _ => by simp [bl, Op.bytesLess] at h
  | [], _ :: _, [], _, h => by simp [bl, Op.bytesLess] at h
  | [], _ :: _, _ :: _, _, _ => by simp [bl, Op.bytesLess]
  | _ :: _, [], _, h, _ => by simp [bl, Op.bytesLess] at h
  | _ :: _, _ :: _, [], _, h => by simp [bl, Op.bytesLess] at h
  | x :: a, y :: b, z :: c, h1, h2 => by
    simp only [bl, Op.bytesLess, Bool.or_eq_true, decide_eq_true_eq, Bool.and_eq_true, beq_iff_eq] at *
    rcases h1 with h1 | ⟨rfl, h1⟩
    · rcases h2 with h2 | ⟨rfl, h2⟩
      · exact .inl (UInt8.lt_trans h1 h2)
      · exact .inl h1
    · rcases h2 with h2 | ⟨rfl, h2⟩
      · exact .inl h2
      · exact .inr ⟨rfl, bl_trans a b c h1 h2⟩
def cmpT (a b : List UInt8) : Int := if bl a b then -1 else if bl b a then 1 else 0
theorem cmpT_zero {a b : List UInt8} (h : cmpT a b = 0) : a = b := by
  unfold cmpT at h
  split at h
  · omega
  · split at h
    · omega
    · exact bl_total a b (by simpa using ‹¬ bl a b = true›) (by simpa using ‹¬ bl b a = true›)
theorem good_cmpT : Good cmpT where
  anti x y := by
    unfold cmpT
    by_cases a : bl x y = true
    · rw [if_pos a, if_neg (by simp [(bl_asym x y a).1]), if_pos a]; rfl
    · by_cases b : bl y x = true
      · rw [if_pos b, if_neg a, if_pos b]
      · rw [if_neg b, if_neg a, if_neg a, if_neg b]; rfl
  tr x y z h1 h2 := by
    unfold cmpT at *
    by_cases a : bl x y = true
    · by_cases b : bl y z = true
      · rw [if_pos (bl_trans x y z a b)]; omega
      · rw [if_neg b] at h2
        by_cases b' : bl z y = true
        · rw [if_pos b'] at h2; omega
        · have : y = z := bl_total y z (by simpa using b) (by simpa using b')
          subst this
          rw [if_pos a]; omega
    · rw [if_neg a] at h1
      by_cases a' : bl y x = true
      · rw [if_pos a'] at h1; omega
      · have : x = y := bl_total x y (by simpa using a) (by simpa using a')
        subst this; exact h2
theorem cmpRev_eq (a b : List UInt8) (x y : List (List UInt8)) : cmpRev (a :: x) (b :: y) = if cmpT a b = 0 then cmpRev x y else cmpT a b := by
  rw [cmpRev_cons]
  unfold cmpT
  by_cases h1 : bl a b = true
  · simp [h1]
  · by_cases h2 : bl b a = true
    · simp [h1, h2]
    · simp [h1, h2]
theorem cmpRev_anti : ∀ x y, cmpRev y x = - cmpRev x y
  | [], [] => rfl
  | [], _ :: _ => rfl
  | _ :: _, [] => rfl
  | a :: x, b :: y => by
    rw [cmpRev_eq, cmpRev_eq, good_cmpT.anti a b, cmpRev_anti x y]
    by_cases e : cmpT a b = 0
    · simp [e]
    · rw [if_neg (by omega), if_neg e]
theorem cmpRev_tr : ∀ x y z, cmpRev x y ≤ 0 → cmpRev y z ≤ 0 → cmpRev x z ≤ 0
  | [], _, [], _, _ => by simp [cmpRev]
  | [], _, _ :: _, _, _ => by simp [cmpRev]
  | _ :: _, [], _, h, _ => by simp [cmpRev] at h
  | _ :: _, _ :: _, [], _, h => by simp [cmpRev] at h
  | a :: x, b :: y, c :: z, h1, h2 => by
    rw [cmpRev_eq] at *
    have g1 : cmpT a b ≤ 0 := by
      by_cases e : cmpT a b = 0
      · omega
      · rwa [if_neg e] at h1
    have g2 : cmpT b c ≤ 0 := by
      by_cases e : cmpT b c = 0
      · omega
      · rwa [if_neg e] at h2
    have g3 := good_cmpT.tr a b c g1 g2
    by_cases e : cmpT a c = 0
    · obtain ⟨e1, e2⟩ := good_cmpT.eqtr g1 g2 e
      rw [if_pos e]
      rw [if_pos e1] at h1
      rw [if_pos e2] at h2
      exact cmpRev_tr x y z h1 h2
    · rw [if_neg e]; exact g3
theorem good_cmpRev : Good cmpRev := ⟨cmpRev_anti, cmpRev_tr⟩
theorem cmpRev_zero : ∀ x y, cmpRev x y = 0 → x = y
  | [], [], _ => rfl
  | [], _ :: _, h => by simp [cmpRev] at h
  | _ :: _, [], h => by simp [cmpRev] at h
  | a :: x, b :: y, h => by
    rw [cmpRev_eq] at h
    by_cases e : cmpT a b = 0
    · rw [if_pos e] at h
      rw [cmpT_zero e, cmpRev_zero x y h]
    · rw [if_neg e] at h; exact absurd h e

def keyL (n : List UInt8) : List (List UInt8) := (((labelsOf n).getD []).map low).reverse
theorem cmpN_key {a b : List UInt8} (ha : may a = true) (hb : may b = true) : cmpN a b = cmpRev (keyL a) (keyL b) := by
  unfold may at ha hb
  unfold cmpN keyL
  cases h1 : labelsOf a with
  | none => rw [h1] at ha; simp at ha
  | some x =>
    cases h2 : labelsOf b with
    | none => rw [h2] at hb; simp at hb
    | some y => rfl
def cmpK (a b : SetD) : Int := if cmpRev (keyL a.name) (keyL b.name) = 0 then (if cmpI a.typ b.typ = 0 then cmpI a.cls b.cls else cmpI a.typ b.typ) else cmpRev (keyL a.name) (keyL b.name)
theorem cmpS_key {a b : SetD} (ha : may a.name = true) (hb : may b.name = true) : cmpS a b = cmpK a b := by unfold cmpS cmpK; rw [cmpN_key ha hb]
theorem good_cmpK : Good cmpK := (good_cmpRev.pull (fun s : SetD => keyL s.name)).lex ((good_cmpI.pull (fun s : SetD => s.typ)).lex (good_cmpI.pull (fun s : SetD => s.cls)))
theorem cmpI_zero {x y : Int} (h : cmpI x y = 0) : x = y := by unfold cmpI at h; split at h <;> (try split at h) <;> omega
theorem cmpI_neg {x y : Int} : cmpI x y < 0 ↔ x < y := by unfold cmpI; split <;> (try split) <;> omega
theorem beforeS_key {a b : SetD} (ha : may a.name = true) (hb : may b.name = true) : beforeS a b = decide (cmpK a b < 0) := by
  unfold beforeS cmpK
  rw [cmpN_key ha hb]
  by_cases h1 : cmpRev (keyL a.name) (keyL b.name) = 0
  · rw [if_pos h1, if_pos h1]
    by_cases h2 : a.typ = b.typ
    · rw [if_pos h2, if_pos (by rw [h2]; exact good_cmpI.zero _)]
      rw [decide_eq_decide]; exact cmpI_neg.symm
    · rw [if_neg h2, if_neg (fun e => h2 (cmpI_zero e))]
      rw [decide_eq_decide]; exact cmpI_neg.symm
  · rw [if_neg h1, if_neg h1]
end Go.Proofs.YtdnpmapelmjfpaaGreatDoor
namespace Go.Proofs.YtdnpmapelmjfpaaGreatDoor
set_option linter.unusedSimpArgs false
set_option linter.unusedVariables false
open Go.RowKit Go.Sort Go.Lib
set_option maxRecDepth 100000
theorem map_block {w : World} {g q : Nat} {os : Array Obj} {F : Array Value → Array Value} {cur : Array Value} {e : TypeId} {fr : Nat × Nat} (hg : w.heap[g]? = some (.cells cur e fr)) :
    (Sort.grow (Sort.mapBlock (Sort.ahead w q) g F) os).heap[g]? = some (.cells (F cur) e fr) := by
  have hlt : g < w.heap.size := (Array.getElem?_eq_some_iff.1 hg).1
  simp only [Sort.grow, Sort.mapBlock, Sort.ahead]
  rw [Array.getElem?_append_left (by simpa using hlt), Array.getElem?_modify, if_pos rfl, hg]
  rfl
theorem map_grown (w : World) (g q : Nat) (os : Array Obj) (F : Array Value → Array Value) : w.grownBy (Sort.grow (Sort.mapBlock (Sort.ahead w q) g F) os) (some g) := by
  refine ⟨rfl, rfl, rfl, by simp [Sort.grow, Sort.mapBlock, Sort.ahead], fun k hk hne => ?_⟩
  simp only [Sort.grow, Sort.mapBlock, Sort.ahead]
  rw [Array.getElem?_append_left (by simpa using hk), Array.getElem?_modify, if_neg (fun e => hne (by rw [e]))]
theorem put_own {w : World} {lo : Nat} {e : TypeId} {sz n c g : Nat} {xs : List Value} (h : Own w lo e sz (some ⟨g, 0, none⟩) n c xs) (q : Nat) (os : Array Obj) (m : Nat) (f : Nat → Value) (n' : Nat) (ys : List Value)
    (hn' : n' ≤ c) (hl : ys.length = n' * sz) (hm : n' * sz ≤ m) (hf : ∀ j u, ys[j]? = some u → f j = u) :
    Own (Sort.grow (Sort.mapBlock (Sort.ahead w q) g (fun cs => cs.mapIdx fun k x => if 0 ≤ k ∧ k < 0 + m then f (k - 0) else x)) os) lo e sz (some ⟨g, 0, none⟩) n' c ys := by
  refine ⟨hl, ?_⟩
  rcases h.2 with ⟨h1, _⟩ | ⟨g', cap, cur, h1, hg, hh, h4, h5, h6, h7⟩
  · injection h1 with h1; cases h1
  · injection h1 with h1 _ h3
    injection h1 with h1
    injection h1 with h1 _ _
    subst h1 h3
    refine .inr ⟨g, c, _, rfl, hg, map_block hh, hn', h5, by simpa using h6, ?_⟩
    have hcap : n' * sz ≤ c * sz := Nat.mul_le_mul_right _ hn'
    apply List.ext_getElem?
    intro j
    rcases Nat.lt_or_ge j (n' * sz) with hj | hj
    · have hy : ys[j]? = some (ys[j]'(by omega)) := List.getElem?_eq_getElem (by omega)
      rw [List.getElem?_take_of_lt hj, hy, Array.getElem?_toList, Array.getElem?_mapIdx]
      have hc : j < cur.size := by omega
      rw [Array.getElem?_eq_getElem hc]
      simp only [Option.map_some]
      rw [if_pos ⟨Nat.zero_le _, by omega⟩, Nat.sub_zero, hf j _ hy]
    · rw [List.getElem?_eq_none (by rw [List.length_take]; omega), List.getElem?_eq_none (by omega)]

def sortB (l : List (List UInt8)) : List (List UInt8) := l.mergeSort fun x y => decide (x ≤ y)
def SortPost (lo : Nat) (v : Value) (l : List (List UInt8)) (w : World) (e : Ending) (w' : World) : Prop := e = .returned (.tuple #[]) ∧ OStrs w' lo v l ∧ w.grownBy w' v.ownBlock
def CompPost (lo : Nat) (v : Value) (l : List (List UInt8)) (w : World) (e : Ending) (w' : World) : Prop := ∃ v', e = .returned v' ∧ OStrs w' lo v' l ∧ w.grownBy w' v.ownBlock ∧ v'.ownBlock = v.ownBlock
theorem sortB_len (l : List (List UInt8)) : (sortB l).length = l.length := by unfold sortB; simp

theorem holds_of {w : World} {lo g c : Nat} {l : List (List UInt8)} (h : Own w lo 9 1 (some ⟨g, 0, none⟩) l.length c (l.map S)) (h0 : 0 < l.length) : Sort.Holds encStr w g 0 l.toArray := by
  obtain ⟨g', e1, _, _, hf, hc⟩ := h.addr h0
  injection e1 with e1
  injection e1 with e1 _ _
  subst e1
  intro j hj
  have hj' : j < l.length := by simpa using hj
  rw [Nat.zero_add]
  refine ⟨?_, hf j⟩
  rw [hc j (S l[j]) (by simp [hj'])]
  simp [hj', encStr]

theorem put_strs {w : World} {lo g c : Nat} {l : List (List UInt8)} (ho : Own w lo 9 1 (some ⟨g, 0, none⟩) l.length c (l.map S)) (n : Nat) (os : Array Obj) (T : List (List UInt8)) (hT : T.length = l.length) :
    OStrs (Sort.grow (Sort.putRow encStr (Sort.ahead w n) g 0 T.toArray) os) lo (.slice (some ⟨g, 0, none⟩) l.length c) T := by
  refine ⟨_, c, by rw [hT], ?_⟩
  exact put_own ho n os T.toArray.size (fun k => encStr T.toArray[k]!) T.length (T.map S) (by rw [hT]; exact ho.cap.1) (by simp) (by simp) (fun j u hu => by
    have hj : j < T.length := by simpa using (List.getElem?_eq_some_iff.1 hu).1
    simp only [List.getElem?_map, List.getElem?_eq_getElem hj, Option.map_some, Option.some.injEq] at hu
    rw [← hu]
    simp [hj, encStr])

theorem sl_sort (lo : Nat) (v : Value) (l : List (List UInt8)) (w : World) (h : OStrs w lo v l) (hb : l.length < 4611686018427387904) : Calls Tryz.prog 81 #[v] w (SortPost lo v (sortB l) w) := by
  obtain ⟨A, c, rfl, ho⟩ := h
  by_cases h0 : l.length = 0
  · have : l = [] := List.eq_nil_of_length_eq_zero h0
    subst this
    refine (Tryz.slices_Sort_string_none A c w).mono ?_
    rintro e w' ⟨rfl, rfl⟩
    have e0 : sortB [] = [] := by simp [sortB]
    rw [e0]
    exact ⟨rfl, ⟨A, c, rfl, ho⟩, World.grownBy.refl _ _⟩
  · obtain ⟨g, rfl, _, hgz, _, _⟩ := ho.addr (by omega)
    have hcap := ho.cap
    have hc := Tryz.slices_Sort_string g 0 c l w (holds_of ho (by omega)) hgz hb
    rw [show (l.mergeSort fun x y => decide (x ≤ y)) = sortB l from rfl] at hc
    have hlen := sortB_len l
    generalize sortB l = T at *
    refine hc.mono ?_
    rintro e w' ⟨rfl, n, os, rfl⟩
    exact ⟨rfl, put_strs ho n os T (by omega), map_grown w g n os _⟩

theorem sl_compact (lo : Nat) (v : Value) (l : List (List UInt8)) (w : World) (h : OStrs w lo v l) : Calls Tryz.prog 82 #[v] w (CompPost lo v (Lib.compact l) w) := by
  obtain ⟨A, c, rfl, ho⟩ := h
  by_cases h0 : l.length = 0
  · have : l = [] := List.eq_nil_of_length_eq_zero h0
    subst this
    refine (Tryz.slices_Compact_string_empty A c w).mono ?_
    rintro e w' ⟨rfl, rfl⟩
    exact ⟨_, rfl, ⟨A, c, rfl, ho⟩, World.grownBy.refl _ _, rfl⟩
  · obtain ⟨g, rfl, _, hgz, _, _⟩ := ho.addr (by omega)
    have hcap := ho.cap
    have hc := Tryz.slices_Compact_string g 0 c l w (holds_of ho (by omega)) (by have := hcap.1; have := hcap.2; unfold maxLen at this; omega) hcap.1
    have hlen : (Lib.compact l).length ≤ l.length := by
      unfold Lib.compact Lib.compactUpTo
      rw [List.length_map]
      exact Nat.le_trans (List.length_filter_le _ _) (by simp)
    generalize Lib.compact l = T at *
    refine hc.mono ?_
    rintro e w' ⟨rfl, n, rfl⟩
    refine ⟨_, rfl, ?_, ?_, rfl⟩
    · have := put_own ho n #[] (T ++ List.replicate (l.length - T.length) []).toArray.size (fun k => encStr (T ++ List.replicate (l.length - T.length) []).toArray[k]!) T.length (T.map S) (by omega) (by simp) (by simp) (fun j u hu => by
        have hj : j < T.length := by simpa using (List.getElem?_eq_some_iff.1 hu).1
        simp only [List.getElem?_map, List.getElem?_eq_getElem hj, Option.map_some, Option.some.injEq] at hu
        rw [← hu]
        simp [hj, encStr, List.getElem?_append_left hj])
      rw [Sort.grow_empty] at this
      exact ⟨_, c, rfl, this⟩
    · have := map_grown w g n #[] (Sort.putCells encStr 0 (T ++ List.replicate (l.length - T.length) []).toArray)
      rw [Sort.grow_empty] at this
      exact this
def SetOk (p : SetD × Value) : Prop := may p.1.name = true ∧ ∃ A n c, p.2 = .slice A n c
abbrev SetX := { p : SetD × Value // SetOk p }
instance : Inhabited SetX := ⟨⟨(⟨[0], 0, 0, 0, []⟩, .slice none 0 0), by decide, none, 0, 0, rfl⟩⟩
def encX (x : SetX) : List Value := setCells x.1
def cfX (x y : SetX) : Int := cmpS x.1.1 y.1.1
theorem ltX : (ltOf cfX) = fun x y : SetX => decide (cmpK x.1.1 y.1.1 < 0) := by
  funext x y
  unfold ltOf cfX
  rw [cmpS_key x.2.1 y.2.1]
theorem swoX : SWO (ltOf cfX) := by
  rw [ltX]
  exact (good_cmpK.pull (fun x : SetX => x.1.1)).swo
theorem cmpX (blk off size : Nat) (w : World) : CmpLays Tryz.prog 84 #[] encX 5 cfX blk off size w := by
  intro m os dk _ x y
  refine (rrset_compare x.1.1 y.1.1 x.1.2 y.1.2 _ x.2.2 y.2.2 ?_ ?_).mono ?_
  · have := may_le x.2.1; unfold maxLen; omega
  · have := may_le y.2.1; unfold maxLen; omega
  · rintro e w' ⟨rfl, hE⟩
    exact ⟨rfl, hE.grow⟩

theorem list_sub (ps : List (SetD × Value)) (h : ∀ p ∈ ps, SetOk p) : ∃ xs : List SetX, xs.map Subtype.val = ps :=
  ⟨ps.pmap (fun p hp => ⟨p, hp⟩) h, by simp [List.map_pmap]⟩
theorem flat_getK (xs : List SetX) (t : Nat) (h : t < xs.length * 5) : (flatK encX 5 xs.toArray)[t]! = ((xs.map Subtype.val).flatMap setCells)[t]?.getD default := by
  rw [get_flatK _ _ _ t (by simpa using h)]
  have hi : t / 5 < xs.length := by omega
  have hm5 : t / 5 * 5 + t % 5 = t := by omega
  have hm6 : t % 5 < 5 := by omega
  generalize t % 5 = m at *
  have hg := flat_get setCells 5 (fun _ => rfl) (xs.map Subtype.val) (t / 5) m xs[t / 5].1 (by simp [hi]) hm6
  rw [hm5] at hg
  rw [hg]
  have : (setCells xs[t / 5].1)[m]? = some ((setCells xs[t / 5].1)[m]'(by show _ < 5; omega)) := List.getElem?_eq_getElem _
  rw [this]
  simp [encX, hi, getElem!_def, this]

def RisesW (l : List SetD) : Prop := l.Pairwise fun a b => ¬ cmpK b a < 0
def SortFPost (w : World) (lo c : Nat) (A : Option Addr) (ps : List (SetD × Value)) (e : Ending) (w' : World) : Prop :=
  e = .returned (.tuple #[]) ∧ ∃ ps' : List (SetD × Value), ps'.Perm ps ∧ RisesW (ps'.map Prod.fst) ∧ Own w' lo 79 5 A ps.length c (ps'.flatMap setCells) ∧ w.grownBy w' (Value.slice A ps.length c).ownBlock

theorem sl_sortFunc (lo : Nat) (A : Option Addr) (c : Nat) (ps : List (SetD × Value)) (w : World) (ho : Own w lo 79 5 A ps.length c (ps.flatMap setCells)) (hok : ∀ p ∈ ps, SetOk p) (h0 : 0 < ps.length) (hb : ps.length < 4611686018427387904) :
    Calls Tryz.prog 83 #[.slice A ps.length c, .func (.func 84) #[] #[]] w (SortFPost w lo c A ps) := by
  obtain ⟨g, rfl, _, hgz, hf, hc⟩ := ho.addr h0
  obtain ⟨xs, rfl⟩ := list_sub ps hok
  simp only [List.length_map] at *
  have hH : HoldsK encX 5 w g 0 xs.toArray := by
    intro j hj
    have hj' : j < xs.length * 5 := by simpa using hj
    rw [Nat.zero_add]
    refine ⟨?_, hf j⟩
    have hfl : ((xs.map Subtype.val).flatMap setCells).length = xs.length * 5 := by have := ho.1; simpa using this
    have hg : ((xs.map Subtype.val).flatMap setCells)[j]? = some (((xs.map Subtype.val).flatMap setCells)[j]'(by omega)) := List.getElem?_eq_getElem (by omega)
    rw [hc j _ hg, flat_getK xs j hj', hg]
    rfl
  have hcon := AnyQ.slices_SortFunc Tryz.sortSet 5 Tryz.isAgg79 Tryz.sizeOf79 encX (fun _ => rfl) (fun x v hv => by
      obtain ⟨p, hp⟩ := x
      obtain ⟨⟨pn, pt, pc, pl, pd⟩, pv⟩ := p
      obtain ⟨_, A, n, c, e⟩ := hp
      dsimp only at e
      subst e
      simp only [encX, setCells, List.mem_cons, List.not_mem_nil, or_false] at hv
      rcases hv with rfl | rfl | rfl | rfl | rfl <;> rfl) cfX swoX 84 #[] g 0 c xs.toArray w (enters_of Tryz.func84 (by kernel_rfl) rfl) (cmpX _ _ _ _) hH hgz (by simpa using hb)
  have hcon' : Calls Tryz.prog 83 #[.slice (some ⟨g, 0, none⟩) xs.length c, .func (.func 84) #[] #[]] w _ := hcon
  refine hcon'.mono ?_
  rintro e w' ⟨rfl, d', n, os, hp, hs, rfl⟩
  obtain ⟨hsz, _, hperm⟩ := hp
  have hsz' : d'.size = xs.length := by simpa using hsz
  have hd : d'.toList.Perm xs := by
    have h1 : d'.extract 0 xs.toArray.size = d' := by rw [show xs.toArray.size = d'.size by rw [hsz]]; exact Array.extract_size
    have h2 : xs.toArray.extract 0 xs.toArray.size = xs.toArray := Array.extract_size
    rw [h1, h2] at hperm
    simpa using hperm
  refine ⟨rfl, d'.toList.map Subtype.val, by simpa using hd.map Subtype.val, ?_, ?_, ?_⟩
  · rw [RisesW, List.map_map, List.pairwise_map, List.pairwise_iff_getElem]
    intro i j hi hj hij
    have hi' : i < d'.size := by simpa using hi
    have hj' : j < d'.size := by simpa using hj
    have := hs i j (Nat.zero_le _) hij (by rw [← hsz]; exact hj')
    rw [ltX] at this
    simp only [decide_eq_false_iff_not] at this
    rw [getElem!_pos d' i hi', getElem!_pos d' j hj'] at this
    simpa using this
  · have hl : (d'.toList.map Subtype.val).length = xs.length := by simp [hsz']
    have := put_own ho n os (flatK encX 5 d').size (fun k => id (flatK encX 5 d')[k]!) xs.length ((d'.toList.map Subtype.val).flatMap setCells) ho.cap.1 (by
      have : ∀ l : List (SetD × Value), (l.flatMap setCells).length = l.length * 5 := fun l => by
        induction l with
        | nil => rfl
        | cons a l ih => rw [List.flatMap_cons, List.length_append, ih, List.length_cons]; show 5 + _ = _; omega
      rw [this, hl]) (by simp [hsz']) (fun j u hu => by
        have hj : j < d'.toList.length * 5 := by
          have := (List.getElem?_eq_some_iff.1 hu).1
          have h3 : ∀ l : List (SetD × Value), (l.flatMap setCells).length = l.length * 5 := fun l => by
            induction l with
            | nil => rfl
            | cons a l ih => rw [List.flatMap_cons, List.length_append, ih, List.length_cons]; show 5 + _ = _; omega
          rw [h3] at this
          simpa using this
        have h4 := flat_getK d'.toList j hj
        rw [Array.toArray_toList, hu] at h4
        exact h4)
    rw [List.length_map]
    exact this
  · exact map_grown w g n os _

theorem sl_sortFunc0 (A : Option Addr) (c : Nat) (w : World) :
    Calls Tryz.prog 83 #[.slice A 0 c, .func (.func 84) #[] #[]] w fun e w' => e = .returned (.tuple #[]) ∧ w' = w :=
  AnyF.slices_SortFunc_none Tryz.sortSet A c _ w
end Go.Proofs.YtdnpmapelmjfpaaGreatDoor
