/- Contracts of functions and plain lemmas that the proofs of this seat share (joined texts). No condition. -/
import Derived.Test.YtjmfpillnbnofaaDoorBc
import Derived.Test.YtjmfpillnbnofaaDoorBa
namespace Go.Proofs.YtjmfpillnbnofaaDoor
set_option linter.unusedSimpArgs false
set_option linter.unusedVariables false
open Go.RowKit
set_option maxRecDepth 100000

/-- A set (api.Set). -/
structure SetD where
  name : List UInt8
  typ : Int
  cls : Int
  ttl : Int
  data : List (List UInt8)
  deriving DecidableEq
def SetD.zero : SetD := ⟨[], 0, 0, 0, []⟩
/-- A set's cells; the last is the slice of its data. -/
def setCells (p : SetD × Value) : List Value := [S p.1.name, .int .u16 p.1.typ, .int .u16 p.1.cls, .int .u32 p.1.ttl, p.2]
abbrev setVal (s : SetD) (d : Value) : Value := .agg #[S s.name, .int .u16 s.typ, .int .u16 s.cls, .int .u32 s.ttl, d]
/-- A []api.Set. -/
def Sets (w : World) (lo : Nat) (v : Value) (l : List SetD) : Prop :=
  ∃ (ps : List (SetD × Value)) (A : Option Addr) (c : Nat), ps.map Prod.fst = l ∧ v = .slice A ps.length c ∧ ps.length ≤ c ∧ c ≤ maxLen ∧ Rd w lo 5 A ps.length (ps.flatMap setCells) ∧ ∀ p ∈ ps, Strs w lo p.2 p.1.data
/-- One of the call's own. -/
def OSets (w : World) (lo : Nat) (v : Value) (l : List SetD) : Prop :=
  ∃ (ps : List (SetD × Value)) (A : Option Addr) (c : Nat), ps.map Prod.fst = l ∧ v = .slice A ps.length c ∧ Own w lo 39 5 A ps.length c (ps.flatMap setCells) ∧ ∀ p ∈ ps, OStrs w lo p.2 p.1.data
theorem Sets.ext {w w' : World} {lo : Nat} {v : Value} {l : List SetD} (h : Sets w lo v l) (hE : Ext w w') : Sets w' lo v l := by
  obtain ⟨ps, A, c, h1, h2, h3, h4, h5, h6⟩ := h
  exact ⟨ps, A, c, h1, h2, h3, h4, h5.ext hE, fun p hp => (h6 p hp).ext hE⟩
theorem OSets.ext {w w' : World} {lo : Nat} {v : Value} {l : List SetD} (h : OSets w lo v l) (hE : Ext w w') : OSets w' lo v l := by
  obtain ⟨ps, A, c, h1, h2, h3, h4⟩ := h
  exact ⟨ps, A, c, h1, h2, h3.ext hE, fun p hp => (h4 p hp).ext hE⟩
theorem OSets.sets {w : World} {lo : Nat} {v : Value} {l : List SetD} (h : OSets w lo v l) : Sets w lo v l := by
  obtain ⟨ps, A, c, h1, h2, h3, h4⟩ := h
  exact ⟨ps, A, c, h1, h2, h3.cap.1, h3.cap.2, h3.rd, fun p hp => (h4 p hp).strs⟩
theorem OSets.lower {w : World} {lo lo' : Nat} {v : Value} {l : List SetD} (h : OSets w lo v l) (hl : lo' ≤ lo) : OSets w lo' v l := by
  obtain ⟨ps, A, c, h1, h2, h3, h4⟩ := h
  exact ⟨ps, A, c, h1, h2, h3.lower hl, fun p hp => (h4 p hp).lower hl⟩
theorem Strs.lower {w : World} {lo lo' : Nat} {v : Value} {l : List (List UInt8)} (h : Strs w lo v l) (hl : lo' ≤ lo) : Strs w lo' v l := by
  obtain ⟨A, c, e, h1, h2, h3⟩ := h
  exact ⟨A, c, e, h1, h2, h3.lower hl⟩
theorem Sets.lower {w : World} {lo lo' : Nat} {v : Value} {l : List SetD} (h : Sets w lo v l) (hl : lo' ≤ lo) : Sets w lo' v l := by
  obtain ⟨ps, A, c, h1, h2, h3, h4, h5, h6⟩ := h
  exact ⟨ps, A, c, h1, h2, h3, h4, h5.lower hl, fun p hp => (h6 p hp).lower hl⟩

/-! ### slices.Index, Contains -/
def IdxPost (l : List (List UInt8)) (s : List UInt8) (w : World) (e : Ending) (w' : World) : Prop := (∃ n : Int, e = .returned (.int .i64 n) ∧ decide (0 ≤ n) = l.contains s) ∧ w = w'

theorem own_zero (w : World) (e : TypeId) (sz : Nat) : Own (w.alloc (.cells #[] e)) w.heap.size e sz (some ⟨w.heap.size, 0, none⟩) 0 0 [] := World.ownsRow_made w #[] 0 (Nat.le_refl _) (by unfold maxLen; omega) (by simp)
def ClonePost (l : List (List UInt8)) (w : World) (e : Ending) (w' : World) : Prop := ∃ v, e = .returned v ∧ OStrs w' w.heap.size v l ∧ Ext w w'

end Go.Proofs.YtjmfpillnbnofaaDoor
namespace Go.Proofs.YtjmfpillnbnofaaDoor
set_option linter.unusedSimpArgs false
set_option linter.unusedVariables false
open Go.RowKit
set_option maxRecDepth 100000

theorem rdata_may (kind : Int) (data : List UInt8) (w : World) (hg : Laid w) (hl : data.length ≤ 1048576) :
    Calls Tryd.prog 32 #[.int .u16 kind, S data] w fun e w' => e = .returned (.bool (rmay kind data)) ∧ Ext w w' := by
  have Hs := Lib.hid (rdata_whole kind data w hg hl)
  unfold WholePost at Hs
  have hm : rmay kind data = (wholeOf kind data).isSome := rfl
  rw [hm]
  clear hm
  generalize (wholeOf kind data).isSome = ok at *
  generalize partsOf kind data = l at *
  go_enter Tryd.func32, Tryd.ntmps32
  go_wp2_with fail
  refine Hs.out.mono ?_; rintro e w1 ⟨v, rfl, ⟨A, c, rfl, hown⟩, hE1⟩
  go_wp2_with fail
  go_ret
  exact ⟨rfl, hE1⟩

def foldPc (p : Pc) : List UInt8 := if p.nm then fold p.text else p.text
def foldTo (l : List Pc) (k : Nat) : List UInt8 := (l.take k).flatMap foldPc
theorem foldTo_step (l : List Pc) (k : Nat) (h : k < l.length) : foldTo l (k + 1) = foldTo l k ++ foldPc l[k] := by
  unfold foldTo; rw [take_snoc l k h, List.flatMap_append]; simp
theorem foldPc_len (p : Pc) : (foldPc p).length ≤ p.text.length := by
  unfold foldPc
  split
  · unfold fold
    split
    · rw [length_low]; omega
    · simp
  · omega
theorem foldTo_len (l : List Pc) (B : Nat) (hB : ∀ p ∈ l, p.text.length ≤ B) : ∀ k, k ≤ l.length → (foldTo l k).length ≤ k * B
  | 0, _ => by simp [foldTo]
  | k + 1, h => by
    rw [foldTo_step l k (by omega), List.length_append, Nat.add_mul]
    have := foldTo_len l B hB k (by omega)
    have := foldPc_len l[k]
    have := hB l[k] (List.getElem_mem (by omega))
    omega

end Go.Proofs.YtjmfpillnbnofaaDoor
namespace Go.Proofs.YtjmfpillnbnofaaDoor
set_option linter.unusedSimpArgs false
set_option linter.unusedVariables false
open Go.RowKit
set_option maxRecDepth 100000

def hitS (n : List UInt8) (kind cls : Int) (s : SetD) : Bool := s.typ == kind && s.cls == cls && sameN s.name n
/-- The first set of a list by name, type and class. -/
def findS (l : List SetD) (n : List UInt8) (kind cls : Int) : Option SetD := l.find? (hitS n kind cls)

def FindPost (r : Option SetD) (w : World) (e : Ending) (w' : World) : Prop :=
  ∃ d, e = .returned (.tuple #[setVal (r.getD SetD.zero) d, .bool r.isSome]) ∧ OStrs w' w.heap.size d (r.getD SetD.zero).data ∧ Ext w w'

/-- The cells of set k. -/
theorem sets_cells {w : World} {b off : Nat} {ps : List (SetD × Value)} (hc : ∀ j u, (ps.flatMap setCells)[j]? = some u → w.cell? ⟨b, off + j, none⟩ = some u) (k : Nat) (p : SetD × Value) (hp : ps[k]? = some p) :
    w.cell? ⟨b, off + k * 5, none⟩ = some (S p.1.name) ∧ w.cell? ⟨b, off + k * 5 + 1, none⟩ = some (.int .u16 p.1.typ) ∧ w.cell? ⟨b, off + k * 5 + 2, none⟩ = some (.int .u16 p.1.cls) ∧ w.cell? ⟨b, off + k * 5 + 3, none⟩ = some (.int .u32 p.1.ttl) ∧ w.cell? ⟨b, off + k * 5 + 4, none⟩ = some p.2 := by
  refine ⟨?_, ?_, ?_, ?_, ?_⟩
  · exact hc (k * 5 + 0) _ (flat_get setCells 5 (fun _ => rfl) ps k 0 p hp (by omega))
  · rw [Nat.add_assoc]; exact hc (k * 5 + 1) _ (flat_get setCells 5 (fun _ => rfl) ps k 1 p hp (by omega))
  · rw [Nat.add_assoc]; exact hc (k * 5 + 2) _ (flat_get setCells 5 (fun _ => rfl) ps k 2 p hp (by omega))
  · rw [Nat.add_assoc]; exact hc (k * 5 + 3) _ (flat_get setCells 5 (fun _ => rfl) ps k 3 p hp (by omega))
  · rw [Nat.add_assoc]; exact hc (k * 5 + 4) _ (flat_get setCells 5 (fun _ => rfl) ps k 4 p hp (by omega))

theorem Strs.shape {w : World} {lo : Nat} {v : Value} {l : List (List UInt8)} (h : Strs w lo v l) : ∃ A c, v = .slice A l.length c := by
  obtain ⟨A, c, e, _⟩ := h; exact ⟨A, c, e⟩
theorem find_step {α : Type} (f : α → Bool) (l : List α) (k : Nat) (h : k < l.length) (hn : (l.take k).find? f = none) : (f l[k] = true → l.find? f = some l[k]) ∧ (f l[k] = false → (l.take (k + 1)).find? f = none) := by
  constructor
  · intro ht
    conv => lhs; rw [← List.take_append_drop k l]
    rw [List.find?_append, hn, List.drop_eq_getElem_cons h, List.find?_cons_of_pos ht]; rfl
  · intro hf
    rw [take_snoc l k h, List.find?_append, hn]
    simp [hf]

/-- What bounds a list of sets. -/
def SetsBd (l : List SetD) : Prop := ∀ s ∈ l, s.name.length ≤ 1048576 ∧ s.data.length ≤ 65536 ∧ ∀ d ∈ s.data, d.length ≤ 1048576

end Go.Proofs.YtjmfpillnbnofaaDoor
namespace Go.Proofs.YtjmfpillnbnofaaDoor
set_option linter.unusedSimpArgs false
set_option linter.unusedVariables false
open Go.RowKit
set_option maxRecDepth 100000

/-! ### Plain -/
/-- The name to which a CNAME set leads. -/
def targetS (s : SetD) : Option (List UInt8) :=
  match s.data with
  | [d] => match rnames 5 d with
    | [n] => some (fold n)
    | _ => none
  | _ => none
/-- The chain, where it ends, its end, the error's number. -/
structure FolR where
  path : List SetD
  here : List UInt8
  fin : List SetD
  err : Nat
def FolR.bad (e : Nat) : FolR := ⟨[], [], [], e⟩
def followF (l : List SetD) (ty cls : Int) : Nat → List UInt8 → List (List UInt8) → List SetD → FolR
  | 0, _, _, _ => FolR.bad 0
  | n + 1, here, seen, path =>
    if ty = 5 then ⟨path, here, (findS l here ty cls).toList, 0⟩
    else match findS l here 5 cls with
      | none => ⟨path, here, (findS l here ty cls).toList, 0⟩
      | some a =>
        if path.length = 8 then FolR.bad 5
        else match targetS a with
          | none => FolR.bad 3
          | some next =>
            if (findS l here ty cls).isSome then FolR.bad 3
            else if seen.contains next then FolR.bad 8
            else followF l ty cls n next (seen ++ [next]) (path ++ [a])
def followOf (n : List UInt8) (ty cls : Int) (l : List SetD) : FolR :=
  if may n then followF l ty cls 9 (fold n) [fold n] [] else FolR.bad 1

theorem fold_le (n : List UInt8) : (fold n).length ≤ 255 := by
  unfold fold
  split
  · rename_i h; rw [length_low]; exact may_le h
  · simp
theorem targetS_le (s : SetD) (n : List UInt8) (h : targetS s = some n) : n.length ≤ 255 := by
  unfold targetS at h
  split at h
  · split at h
    · injection h with h; rw [← h]; exact fold_le _
    · cases h
  · cases h
theorem rnames_bd (kind : Int) (d : List UInt8) : (rnames kind d).length ≤ 3 ∧ ∀ n ∈ rnames kind d, n.length ≤ d.length + 255 := by
  have h := partsOf_bd kind d
  unfold rnames
  refine ⟨?_, fun n hn => ?_⟩
  · rw [List.length_map]; exact Nat.le_trans (List.length_filter_le _ _) h.1
  · obtain ⟨p, hp, rfl⟩ := List.mem_map.1 hn
    exact h.2 p (List.mem_filter.1 hp).1

def TargetPost (r : Option (List UInt8)) (w : World) (e : Ending) (w' : World) : Prop := e = .returned (.tuple #[S (r.getD []), .bool r.isSome]) ∧ Ext w w'
theorem ne_one {n : Nat} (h : n ≠ 1) : ((n : Int) == 1) = false ∧ ((n : Int) != 1) = true := by
  have : ((n : Int) == 1) = false := by rw [beq_eq_false_iff_ne]; omega
  exact ⟨this, by rw [bne, this]; rfl⟩

/-! ### Follow -/
theorem own_ne {w : World} {lo lo' : Nat} {e e' : TypeId} {sz sz' n m c d : Nat} {A B : Option Addr} {xs ys : List Value} (h : Own w lo e sz A n c xs) (k : Own w lo' e' sz' B m d ys) (hne : e ≠ e') :
    (Value.slice A n c).ownBlock = none ∨ (Value.slice A n c).ownBlock ≠ (Value.slice B m d).ownBlock := by
  rcases h.2 with ⟨h1, _⟩ | ⟨g, cap, cur, h1, _, hh, _⟩
  · injection h1 with h1; subst h1; exact .inl rfl
  · rcases k.2 with ⟨k1, _⟩ | ⟨g', cap', cur', k1, _, kk, _⟩
    · injection h1 with h1; injection k1 with k1; subst h1 k1; exact .inr (by simp [Value.ownBlock])
    · injection h1 with h1; injection k1 with k1; subst h1 k1
      refine .inr (fun e0 => hne ?_)
      have : g = g' := by simpa [Value.ownBlock] using e0
      subst this
      rw [hh] at kk
      injection kk with kk
      injection kk
theorem OStrs.kept {w w' : World} {lo : Nat} {v : Value} {l : List (List UInt8)} (h : OStrs w lo v l) {row : Option Nat} (hg : w.grownBy w' row) (hne : v.ownBlock = none ∨ v.ownBlock ≠ row) : OStrs w' lo v l := by
  obtain ⟨A, c, rfl, ho⟩ := h
  exact ⟨A, c, rfl, ho.kept hg hne⟩
theorem OStrs.blk {w : World} {lo : Nat} {v : Value} {l : List (List UInt8)} (h : OStrs w lo v l) : ∀ k, v.ownBlock = some k → lo ≤ k ∧ k < w.heap.size := by
  obtain ⟨A, c, rfl, ho⟩ := h
  exact ho.blk
theorem info_set : (Tryd.prog.info? 39).map (fun i => (i.zero, i.size, i.bytes)) = some (some (.agg #[.string ⟨#[]⟩, .int .u16 0, .int .u16 0, .int .u32 0, .slice none 0 0]), 5, 48) := by kernel_rfl
theorem set_one (p : SetD × Value) {w : World} {lo : Nat} (h : OStrs w lo p.2 p.1.data) : ∀ u ∈ setCells p, u.oneCell' = true := by
  intro u hu
  obtain ⟨A, c, e, _⟩ := h
  simp only [setCells, List.mem_cons, List.not_mem_nil, or_false] at hu
  rcases hu with rfl | rfl | rfl | rfl | rfl <;> first | rfl | (rw [e]; rfl)

theorem own_lit (w : World) (g lo : Nat) (hg : g = w.heap.size) (hlo : lo ≤ w.heap.size) (e : TypeId) (cs : List Value) (n sz : Nat) (hl : cs.length = n * sz) (hn : n ≤ maxLen) : Own (w.alloc (.cells cs.toArray e)) lo e sz (some ⟨g, 0, none⟩) n n cs := by
  subst hg
  have := World.ownsRow_lit (size := sz) (e := e) w cs.toArray n hlo hn (by simpa using hl)
  simpa [Own] using this
theorem findS_mem {l : List SetD} {n : List UInt8} {k c : Int} {s : SetD} (h : findS l n k c = some s) : s ∈ l := List.mem_of_find?_eq_some h

theorem ostrs_ne {w : World} {lo lo' : Nat} {v : Value} {l : List (List UInt8)} {sz m d : Nat} {B : Option Addr} {ys : List Value} (h : OStrs w lo v l) (k : Own w lo' 39 sz B m d ys) :
    v.ownBlock = none ∨ v.ownBlock ≠ (Value.slice B m d).ownBlock := by
  obtain ⟨A, c, rfl, ho⟩ := h
  exact own_ne ho k (by decide)
theorem apart_step {v : Value} {old new : Option Nat} {size : Nat} (h : v.ownBlock = none ∨ v.ownBlock ≠ old) (hlt : ∀ k, v.ownBlock = some k → k < size) (hat : new = old ∨ new = some size) : v.ownBlock = none ∨ v.ownBlock ≠ new := by
  rcases h with h | h
  · exact .inl h
  · rcases hat with e | e
    · rw [e]; exact .inr h
    · refine .inr (fun e' => ?_)
      have := hlt size (e'.trans e)
      omega

/-- What holds at a round's head of chain.Follow: here, seen, the path. -/
structure FoInv (w1 : World) (l : List SetD) (ty cls : Int) (R : FolR) (here : List UInt8) (seen : List (List UInt8)) (ps : List (SetD × Value)) (sA : Option Addr) (sc : Nat) (pA : Option Addr) (pc : Nat) (wr : World) : Prop where
  h8 : ps.length ≤ 8
  hs : seen.length = ps.length + 1
  hh : here.length ≤ 255
  oseen : Own wr w1.heap.size 9 1 sA seen.length sc (seen.map S)
  opath : Own wr w1.heap.size 39 5 pA ps.length pc (ps.flatMap setCells)
  datas : ∀ p ∈ ps, OStrs wr w1.heap.size p.2 p.1.data
  apart : ∀ p ∈ ps, p.2.ownBlock = none ∨ p.2.ownBlock ≠ (Value.slice sA seen.length sc).ownBlock
  ext : Ext w1 wr
  eq : R = followF l ty cls (9 - ps.length) here seen (ps.map Prod.fst)

def FollowPost (R : FolR) (w : World) (e : Ending) (w' : World) : Prop :=
  ∃ v u wm, e = .returned (.tuple #[v, S R.here, u, .int .i64 R.err]) ∧ OSets wm w.heap.size v R.path ∧ Ext w wm ∧ OSets w' wm.heap.size u R.fin ∧ Ext wm w'
theorem OSets.nil (w : World) (lo : Nat) : OSets w lo (.slice none 0 0) [] := ⟨[], none, 0, rfl, rfl, Own.nil _ _ _ _, by simp⟩
theorem results4 {fn : Func} {t u v x : Tmp} (h : fn.results = #[.tmp t, .tmp u, .tmp v, .tmp x]) (tmps : Array Value) (P : Program) (w : World) :
    (results fn tmps).run P w = .ok (.tuple #[tmps.getD t undef, tmps.getD u undef, tmps.getD v undef, tmps.getD x undef]) w := by simp [results, h]

end Go.Proofs.YtjmfpillnbnofaaDoor
