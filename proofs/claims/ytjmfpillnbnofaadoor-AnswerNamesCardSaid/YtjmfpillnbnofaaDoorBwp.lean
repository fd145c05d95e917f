/- Contracts of functions and plain lemmas that the proofs of this seat share (joined texts). No condition. -/
import Derived.Test.YtjmfpillnbnofaaDoorBa
import Derived.Test.YtjmfpillnbnofaaDoorBf
namespace Go.Proofs.YtjmfpillnbnofaaDoor
set_option linter.unusedSimpArgs false
set_option linter.unusedVariables false

/-- A table: endings of names, with their places. -/
abbrev Tab := List (List UInt8 × Nat)
def tabAt (t : Tab) (n : List UInt8) : Option Nat := (t.find? fun e => e.1 == n).map Prod.snd
def two (k : Nat) : List UInt8 := [UInt8.ofNat (k / 256), UInt8.ofNat k]
def four (k : Nat) : List UInt8 := [UInt8.ofNat (k / 16777216), UInt8.ofNat (k / 65536), UInt8.ofNat (k / 256), UInt8.ofNat k]
def ptrB (k : Nat) : List UInt8 := [UInt8.ofNat (192 + k / 256), UInt8.ofNat k]
theorem two_len (k : Nat) : (two k).length = 2 := rfl
theorem four_len (k : Nat) : (four k).length = 4 := rfl
theorem ptrB_len (k : Nat) : (ptrB k).length = 2 := rfl
/-- The entry that a place adds. -/
def tabPut (known : Bool) (n : List UInt8) (pos : Nat) (t : Tab) : Tab := if known = true ∧ tabAt t n = none ∧ pos ≤ 16383 then t ++ [(n, pos)] else t
/-- A name behind pos bytes: what is appended, the table then. -/
def putF (cmp known : Bool) : Nat → Nat → List UInt8 → Tab → List UInt8 × Tab
  | 0, _, n, t => (n, t)
  | _ + 1, _, [], t => ([], t)
  | f + 1, pos, b :: r, t =>
    if b = 0 then (b :: r, t)
    else if (tabAt t (b :: r)).isSome = true ∧ cmp = true then (ptrB ((tabAt t (b :: r)).getD 0), t)
    else (b :: r.take b.toNat ++ (putF cmp known f (pos + (1 + b.toNat)) (r.drop b.toNat) (tabPut known (b :: r) pos t)).1,
      (putF cmp known f (pos + (1 + b.toNat)) (r.drop b.toNat) (tabPut known (b :: r) pos t)).2)
def putN (cmp known : Bool) (pos : Nat) (n : List UInt8) (t : Tab) : List UInt8 × Tab := putF cmp known (n.length + 1) pos n t
theorem putF_fuel (cmp known : Bool) : ∀ (f g pos : Nat) (n : List UInt8) (t : Tab), n.length < f → n.length < g → putF cmp known f pos n t = putF cmp known g pos n t
  | 0, _, _, _, _, h, _ => absurd h (by omega)
  | f + 1, 0, _, _, _, _, h => absurd h (by omega)
  | f + 1, g + 1, pos, [], t, _, _ => rfl
  | f + 1, g + 1, pos, b :: r, t, h1, h2 => by
    simp only [List.length_cons] at h1 h2
    simp only [putF]
    rw [putF_fuel cmp known f g (pos + (1 + b.toNat)) (r.drop b.toNat) _ (by simp; omega) (by simp; omega)]
theorem putN_zero (cmp known : Bool) (pos : Nat) (r : List UInt8) (t : Tab) : putN cmp known pos (0 :: r) t = (0 :: r, t) := rfl
theorem putN_hit {cmp known : Bool} {pos : Nat} {b : UInt8} {r : List UInt8} {t : Tab} {k : Nat} (h0 : b ≠ 0) (ht : tabAt t (b :: r) = some k) (hc : cmp = true) : putN cmp known pos (b :: r) t = (ptrB k, t) := by
  unfold putN
  simp only [putF]
  rw [if_neg h0, if_pos ⟨by rw [ht]; rfl, hc⟩, ht]; rfl
theorem putN_step {cmp known : Bool} {pos : Nat} {b : UInt8} {r : List UInt8} {t : Tab} (h0 : b ≠ 0) (h : ¬ ((tabAt t (b :: r)).isSome = true ∧ cmp = true)) :
    putN cmp known pos (b :: r) t = (b :: r.take b.toNat ++ (putN cmp known (pos + (1 + b.toNat)) (r.drop b.toNat) (tabPut known (b :: r) pos t)).1,
      (putN cmp known (pos + (1 + b.toNat)) (r.drop b.toNat) (tabPut known (b :: r) pos t)).2) := by
  unfold putN
  conv => lhs; unfold putF
  rw [if_neg h0, if_neg h, putF_fuel cmp known _ ((r.drop b.toNat).length + 1) _ _ _ (by simp; omega) (by omega)]
/-- Behind so many bytes nothing is kept: it does not matter how many there are. -/
theorem tabPut_far {known : Bool} {n : List UInt8} {pos : Nat} {t : Tab} (h : 16384 ≤ pos) : tabPut known n pos t = t := by
  unfold tabPut; rw [if_neg (by omega)]
theorem putF_far (cmp known : Bool) : ∀ (f p q : Nat) (n : List UInt8) (t : Tab), 16384 ≤ p → 16384 ≤ q → putF cmp known f p n t = putF cmp known f q n t
  | 0, _, _, _, _, _, _ => rfl
  | _ + 1, _, _, [], _, _, _ => rfl
  | f + 1, p, q, b :: r, t, h1, h2 => by
    simp only [putF]
    rw [tabPut_far h1, tabPut_far h2, putF_far cmp known f (p + (1 + b.toNat)) (q + (1 + b.toNat)) _ _ (by omega) (by omega)]
theorem putN_base (cmp known : Bool) (p : Nat) (n : List UInt8) (t : Tab) : putN cmp known (min p 16384) n t = putN cmp known p n t := by
  by_cases h : p ≤ 16384
  · rw [Nat.min_eq_left h]
  · exact putF_far _ _ _ _ _ _ _ (by omega) (by omega)
/-- Data by its parts, behind pos bytes. -/
def partsW (cmp : Bool) : Nat → List (List UInt8 × Bool) → Tab → List UInt8 × Tab
  | _, [], t => ([], t)
  | pos, (x, nm) :: l, t =>
    if nm = true then ((putN cmp cmp pos x t).1 ++ (partsW cmp (pos + (putN cmp cmp pos x t).1.length) l (putN cmp cmp pos x t).2).1, (partsW cmp (pos + (putN cmp cmp pos x t).1.length) l (putN cmp cmp pos x t).2).2)
    else (x ++ (partsW cmp (pos + x.length) l t).1, (partsW cmp (pos + x.length) l t).2)
theorem partsW_far (cmp : Bool) : ∀ (p q : Nat) (l : List (List UInt8 × Bool)) (t : Tab), 16384 ≤ p → 16384 ≤ q → partsW cmp p l t = partsW cmp q l t
  | _, _, [], _, _, _ => rfl
  | p, q, (x, nm) :: l, t, h1, h2 => by
    have e : putN cmp cmp p x t = putN cmp cmp q x t := putF_far _ _ _ _ _ _ _ h1 h2
    simp only [partsW]
    rw [e, partsW_far cmp (p + (putN cmp cmp q x t).1.length) (q + (putN cmp cmp q x t).1.length) l _ (by omega) (by omega), partsW_far cmp (p + x.length) (q + x.length) l t (by omega) (by omega)]
theorem partsW_base (cmp : Bool) (p : Nat) (l : List (List UInt8 × Bool)) (t : Tab) : partsW cmp (min p 16384) l t = partsW cmp p l t := by
  by_cases h : p ≤ 16384
  · rw [Nat.min_eq_left h]
  · exact partsW_far _ _ _ _ _ (by omega) (by omega)
def cmpOf (kind : Int) : Bool := decide (kind = 2 ∨ kind = 5 ∨ kind = 6 ∨ kind = 12 ∨ kind = 15)
def dataW (pos : Nat) (kind : Int) (d : List UInt8) (t : Tab) : List UInt8 × Tab := partsW (cmpOf kind) pos ((partsOf kind d).map fun p => (p.text, p.nm)) t
end Go.Proofs.YtjmfpillnbnofaaDoor
namespace Go.Proofs.YtjmfpillnbnofaaDoor
set_option linter.unusedSimpArgs false
set_option linter.unusedVariables false

structure QD where
  name : List UInt8
  typ : Int
  cls : Int
structure HdD where
  id : Int
  qr : Bool
  op : Int
  aa : Bool
  tc : Bool
  rd : Bool
  ra : Bool
  z : Bool
  ad : Bool
  cd : Bool
  code : Int
structure OpD where
  code : Int
  data : List UInt8
structure EdD where
  size : Int
  ext : Int
  ver : Int
  flags : Int
  opts : List OpD
structure MsgD where
  hd : HdD
  qs : List QD
  ans : List RecD
  auth : List RecD
  extra : List RecD
  he : Bool
  ed : EdD
def bitN (b : Bool) (n : Nat) : Nat := if b then n else 0
def flagsOf (h : HdD) : Nat := bitN h.qr 32768 + h.op.toNat * 2048 + bitN h.aa 1024 + bitN h.tc 512 + bitN h.rd 256 + bitN h.ra 128 + bitN h.z 64 + bitN h.ad 32 + bitN h.cd 16 + h.code.toNat
def hdOk (h : HdD) : Bool := decide (h.op ≤ 15 ∧ h.code ≤ 15)
def edZero (e : EdD) : Bool := decide (e.size = 0 ∧ e.ext = 0 ∧ e.ver = 0 ∧ e.flags = 0) && e.opts.isEmpty
def recOk7 (r : RecD) : Bool := decide (r.typ ≠ 41) && may r.name && rmay r.typ r.data
def mayM (m : MsgD) : Bool :=
  hdOk m.hd && (m.he || edZero m.ed) && decide (m.qs.length ≤ 65535 ∧ m.ans.length ≤ 65535 ∧ m.auth.length ≤ 65535 ∧ m.extra.length + (if m.he then 1 else 0) ≤ 65535) &&
  m.qs.all (fun q => may q.name) && m.ans.all recOk7 && m.auth.all recOk7 && m.extra.all recOk7
def headW (m : MsgD) : List UInt8 := two m.hd.id.toNat ++ two (flagsOf m.hd) ++ two m.qs.length ++ two m.ans.length ++ two m.auth.length ++ two (m.extra.length + if m.he then 1 else 0)
/-- A question behind pos bytes. -/
def quW (pos : Nat) (q : QD) (t : Tab) : List UInt8 × Tab := ((putN true true pos q.name t).1 ++ (two q.typ.toNat ++ two q.cls.toNat), (putN true true pos q.name t).2)
def recW (pos : Nat) (r : RecD) (t : Tab) : List UInt8 × Tab :=
  let a := putN true true pos r.name t
  let f := two r.typ.toNat ++ two r.cls.toNat ++ four r.ttl.toNat
  let d := dataW (pos + a.1.length + 10) r.typ r.data a.2
  (a.1 ++ f ++ two d.1.length ++ d.1, d.2)
def seqW {α : Type} (f : Nat → α → Tab → List UInt8 × Tab) : Nat → List α → Tab → List UInt8 × Tab
  | _, [], t => ([], t)
  | pos, x :: l, t => ((f pos x t).1 ++ (seqW f (pos + (f pos x t).1.length) l (f pos x t).2).1, (seqW f (pos + (f pos x t).1.length) l (f pos x t).2).2)
theorem seqW_append {α : Type} (f : Nat → α → Tab → List UInt8 × Tab) : ∀ (pos : Nat) (a b : List α) (t : Tab),
    seqW f pos (a ++ b) t = ((seqW f pos a t).1 ++ (seqW f (pos + (seqW f pos a t).1.length) b (seqW f pos a t).2).1, (seqW f (pos + (seqW f pos a t).1.length) b (seqW f pos a t).2).2)
  | pos, [], b, t => by simp [seqW]
  | pos, x :: a, b, t => by
    simp only [List.cons_append, seqW]
    rw [seqW_append f _ a b _]
    simp [Nat.add_assoc]
def optW (e : EdD) : List UInt8 := e.opts.flatMap fun o => two o.code.toNat ++ two o.data.length ++ o.data
def optTtl (e : EdD) : Nat := e.ext.toNat * 16777216 + e.ver.toNat * 65536 + e.flags.toNat
def ednsW (e : EdD) : List UInt8 := [0] ++ two 41 ++ two e.size.toNat ++ four (optTtl e) ++ two (optW e).length ++ optW e
/-- A message's bytes, were there no limit. -/
def bodyW (m : MsgD) : List UInt8 × Tab :=
  let q := seqW quW 12 m.qs []
  let r := seqW recW (12 + q.1.length) (m.ans ++ m.auth ++ m.extra) q.2
  (headW m ++ q.1 ++ r.1 ++ (if m.he then ednsW m.ed else []), r.2)
def encErr (m : MsgD) : Nat := if mayM m = true then (if 65535 < (bodyW m).1.length then 5 else 0) else 3
def encOf (m : MsgD) : List UInt8 := if encErr m = 0 then (bodyW m).1 else []
end Go.Proofs.YtjmfpillnbnofaaDoor
namespace Go.Proofs.YtjmfpillnbnofaaDoor
set_option linter.unusedSimpArgs false
set_option linter.unusedVariables false

/-- A table's keys are distinct, and are short; its places may be pointed to. -/
def TabNd (t : Tab) : Prop := (t.map Prod.fst).Nodup ∧ ∀ e ∈ t, e.1.length ≤ 255 ∧ e.2 ≤ 16383
theorem tabNd_nil : TabNd [] := ⟨List.nodup_nil, by simp⟩
theorem tabAt_not {t : Tab} {n : List UInt8} (h : tabAt t n = none) : n ∉ t.map Prod.fst := by
  unfold tabAt at h
  rw [Option.map_eq_none_iff, List.find?_eq_none] at h
  intro hm
  obtain ⟨e, he, rfl⟩ := List.mem_map.1 hm
  exact h e he (by simp)
theorem tabNd_put {known : Bool} {n : List UInt8} {pos : Nat} {t : Tab} (h : TabNd t) (hn : n.length ≤ 255) : TabNd (tabPut known n pos t) := by
  unfold tabPut
  split
  · rename_i hc
    refine ⟨?_, fun e he => ?_⟩
    · rw [List.map_append, List.nodup_append]
      exact ⟨h.1, by simp, fun a ha b hb => by
        simp at hb; subst hb
        intro e; subst e
        exact tabAt_not hc.2.1 ha⟩
    · rcases List.mem_append.1 he with hx | hx
      · exact h.2 e hx
      · rw [List.mem_singleton] at hx; subst hx; exact ⟨hn, hc.2.2⟩
  · exact h
theorem tabNd_putF {cmp known : Bool} : ∀ (f pos : Nat) (n : List UInt8) (t : Tab), TabNd t → n.length ≤ 255 → TabNd (putF cmp known f pos n t).2
  | 0, _, _, _, h, _ => h
  | _ + 1, _, [], _, h, _ => h
  | f + 1, pos, b :: r, t, h, hn => by
    simp only [putF]
    split
    · exact h
    · split
      · exact h
      · exact tabNd_putF f _ _ _ (tabNd_put h hn) (by rw [List.length_drop]; simp at hn; omega)
theorem tabNd_putN {cmp known : Bool} {pos : Nat} {n : List UInt8} {t : Tab} (h : TabNd t) (hn : n.length ≤ 255) : TabNd (putN cmp known pos n t).2 := tabNd_putF _ _ _ _ h hn
theorem tabAt_le {t : Tab} (h : TabNd t) {n : List UInt8} : (tabAt t n).getD 0 ≤ 16383 := by
  rcases hf : tabAt t n with _ | k
  · exact Nat.zero_le _
  · unfold tabAt at hf
    rw [Option.map_eq_some_iff] at hf
    obtain ⟨e, h1, rfl⟩ := hf
    exact (h.2 e (List.mem_of_find?_eq_some h1)).2
end Go.Proofs.YtjmfpillnbnofaaDoor
namespace Go.Proofs.YtjmfpillnbnofaaDoor
set_option linter.unusedSimpArgs false
set_option linter.unusedVariables false

/-- At an entry's place the ending is read, whatever stands behind. -/
def EntryOk (pre s : List UInt8) (p : Nat) : Prop :=
  p ≤ 16383 ∧ p < pre.length ∧ ∀ (ext : List UInt8) (lim k : Nat) (out : List UInt8), p ≤ lim → out.length + s.length ≤ 255 → readS (pre ++ ext) ⟨p, lim, some k, out⟩ = (out ++ s, k, 0)
def TabOk (pre : List UInt8) (t : Tab) : Prop := ∀ e ∈ t, EntryOk pre e.1 e.2
theorem EntryOk.more {pre s : List UInt8} {p : Nat} (h : EntryOk pre s p) (x : List UInt8) : EntryOk (pre ++ x) s p :=
  ⟨h.1, by have := h.2.1; simp; omega, fun ext lim k out hl ho => by rw [List.append_assoc]; exact h.2.2 (x ++ ext) lim k out hl ho⟩
theorem tabOk_nil (pre : List UInt8) : TabOk pre [] := fun e he => by cases he
theorem parseZ0 {r : List UInt8} (h : (parse (0 :: r)).isSome = true) : r = [] := by
  rw [parse_cons, if_pos rfl] at h
  by_cases e : r = []
  · exact e
  · rw [if_neg e] at h; simp at h
theorem parseS0 {b : UInt8} {r : List UInt8} (h0 : b ≠ 0) (h : (parse (b :: r)).isSome = true) : b.toNat < 64 ∧ b.toNat < r.length ∧ (parse (r.drop b.toNat)).isSome = true := by
  rw [parse_cons, if_neg h0] at h
  by_cases h1 : 63 < b.toNat
  · rw [if_pos h1] at h; simp at h
  · rw [if_neg h1, Option.isSome_map] at h
    refine ⟨by omega, ?_, h⟩
    rcases Nat.lt_or_ge b.toNat r.length with h2 | h2
    · exact h2
    · rw [List.drop_of_length_le h2] at h; simp [parse_nil] at h
theorem tabAt_mem {t : Tab} {n : List UInt8} {k : Nat} (h : tabAt t n = some k) : (n, k) ∈ t := by
  unfold tabAt at h
  rcases hf : t.find? fun e => e.1 == n with _ | e
  · rw [hf] at h; simp at h
  · rw [hf] at h
    have h1 := List.find?_some hf
    have h2 := List.mem_of_find?_eq_some hf
    simp at h h1
    subst h1; subst h
    exact h2
theorem ptrB_get {k : Nat} (h : k ≤ 16383) : ∃ a c : UInt8, ptrB k = [a, c] ∧ a.toNat = 192 + k / 256 ∧ c.toNat = k % 256 :=
  ⟨_, _, rfl, by rw [UInt8.toNat_ofNat']; omega, by rw [UInt8.toNat_ofNat']⟩

theorem putF_read (cmp known : Bool) (N0 : Nat) : ∀ (f : Nat) (pre n : List UInt8) (t0 t1 : Tab), n.length < f → (parse n).isSome = true → n.length ≤ 255 → N0 ≤ pre.length →
    (∀ e ∈ t0, EntryOk pre e.1 e.2 ∧ e.2 < N0) → (∀ e ∈ t1, n.length < e.1.length) →
    (∀ (ext : List UInt8) (lim : Nat) (nx : Option Nat) (out : List UInt8), N0 ≤ lim → out.length + n.length ≤ 255 →
      readS (pre ++ (putF cmp known f pre.length n (t0 ++ t1)).1 ++ ext) ⟨pre.length, lim, nx, out⟩ = (out ++ n, nx.getD (pre.length + (putF cmp known f pre.length n (t0 ++ t1)).1.length), 0)) ∧
    (∃ t2, (putF cmp known f pre.length n (t0 ++ t1)).2 = t0 ++ t1 ++ t2 ∧ ∀ e ∈ t2, EntryOk (pre ++ (putF cmp known f pre.length n (t0 ++ t1)).1) e.1 e.2)
  | 0, _, _, _, _, h, _, _, _, _, _ => absurd h (by omega)
  | f + 1, pre, [], t0, t1, _, hp, _, _, _, _ => by simp [parse_nil] at hp
  | f + 1, pre, b :: r, t0, t1, hf, hp, h255, hN, ht0, ht1 => by
    have hget : ∀ (x ext : List UInt8), (pre ++ (b :: x) ++ ext)[pre.length]? = some b := fun x ext => by simp
    by_cases h0 : b = 0
    · subst h0
      have hr := parseZ0 hp
      subst hr
      have e : putF cmp known (f + 1) pre.length [0] (t0 ++ t1) = ([0], t0 ++ t1) := by simp [putF]
      rw [e]
      refine ⟨fun ext lim nx out hl ho => ?_, [], by simp, by simp⟩
      rw [readS_zero _ _ (hget [] ext)]
      rfl
    · have h0' : b.toNat ≠ 0 := fun e => h0 (UInt8.toNat_inj.1 (by simpa using e))
      obtain ⟨hb, hbl, hp'⟩ := parseS0 h0 hp
      simp only [List.length_cons] at hf h255 ht1
      by_cases hh : (tabAt (t0 ++ t1) (b :: r)).isSome = true ∧ cmp = true
      · obtain ⟨k, hk⟩ := Option.isSome_iff_exists.1 hh.1
        have e : putF cmp known (f + 1) pre.length (b :: r) (t0 ++ t1) = (ptrB k, t0 ++ t1) := by
          simp only [putF]; rw [if_neg h0, if_pos hh, hk]; rfl
        have hm : (b :: r, k) ∈ t0 := by
          rcases List.mem_append.1 (tabAt_mem hk) with h | h
          · exact h
          · have := ht1 _ h; simp at this
        obtain ⟨hok, hkN⟩ := ht0 _ hm
        dsimp only at hok hkN
        obtain ⟨a, c, e2, ha, hc⟩ := ptrB_get hok.1
        rw [e, e2]
        refine ⟨fun ext lim nx out hl ho => ?_, [], by simp, by simp⟩
        have g1 : (pre ++ [a, c] ++ ext)[pre.length]? = some a := by simp
        have g2 : (pre ++ [a, c] ++ ext)[pre.length + 1]? = some c := by simp
        have hk16 := hok.1
        have hto : (a.toNat - 192) * 256 + c.toNat = k := by omega
        rw [readS_jump _ _ a (by exact g1) (by omega) (by omega) c (by exact g2) (by dsimp only; omega)]
        dsimp only
        rw [hto, List.append_assoc, hok.2.2 ([a, c] ++ ext) k _ out (Nat.le_refl _) (by simpa using ho)]
        rfl
      · have hlk : (r.take b.toNat).length = b.toNat := by rw [List.length_take]; omega
        have e : putF cmp known (f + 1) pre.length (b :: r) (t0 ++ t1) = (b :: r.take b.toNat ++ (putF cmp known f (pre.length + (1 + b.toNat)) (r.drop b.toNat) (tabPut known (b :: r) pre.length (t0 ++ t1))).1,
            (putF cmp known f (pre.length + (1 + b.toNat)) (r.drop b.toNat) (tabPut known (b :: r) pre.length (t0 ++ t1))).2) := by
          simp only [putF]; rw [if_neg h0, if_neg hh]
        obtain ⟨t1', e1, hl1, hnew⟩ : ∃ t1', tabPut known (b :: r) pre.length (t0 ++ t1) = t0 ++ t1' ∧ (∀ e ∈ t1', (r.drop b.toNat).length < e.1.length) ∧ (t1' = t1 ∨ (t1' = t1 ++ [(b :: r, pre.length)] ∧ pre.length ≤ 16383)) := by
          unfold tabPut
          split
          · rename_i hc
            refine ⟨t1 ++ [(b :: r, pre.length)], by rw [List.append_assoc], fun e he => ?_, .inr ⟨rfl, hc.2.2⟩⟩
            rcases List.mem_append.1 he with h | h
            · have := ht1 e h; rw [List.length_drop]; omega
            · rw [List.mem_singleton] at h; subst h; simp [List.length_drop]; omega
          · exact ⟨t1, rfl, fun e he => by have := ht1 e he; rw [List.length_drop]; omega, .inl rfl⟩
        have hpl : (pre ++ b :: r.take b.toNat).length = pre.length + (1 + b.toNat) := by rw [List.length_append, List.length_cons, hlk]; omega
        obtain ⟨I1, t2, I2, I3⟩ := putF_read cmp known N0 f (pre ++ b :: r.take b.toNat) (r.drop b.toNat) t0 t1' (by rw [List.length_drop]; omega) hp' (by rw [List.length_drop]; omega) (by omega)
          (fun e he => ⟨(ht0 e he).1.more _, (ht0 e he).2⟩) hl1
        rw [hpl] at I1 I2 I3
        rw [e, e1]
        generalize putF cmp known f (pre.length + (1 + b.toNat)) (r.drop b.toNat) (t0 ++ t1') = R at *
        dsimp only
        have main : ∀ (ext : List UInt8) (lim : Nat) (nx : Option Nat) (out : List UInt8), N0 ≤ lim → out.length + (b :: r).length ≤ 255 →
            readS (pre ++ (b :: r.take b.toNat ++ R.1) ++ ext) ⟨pre.length, lim, nx, out⟩ = (out ++ b :: r, nx.getD (pre.length + (b :: r.take b.toNat ++ R.1).length), 0) := fun ext lim nx out hl ho => by
          simp only [List.length_cons] at ho
          have em : pre ++ (b :: r.take b.toNat ++ R.1) ++ ext = pre ++ b :: r.take b.toNat ++ R.1 ++ ext := by simp
          have hd : ((pre ++ b :: r.take b.toNat ++ R.1 ++ ext).drop (pre.length + 1)).take b.toNat = r.take b.toNat := by
            rw [List.append_assoc, List.append_assoc, List.drop_append, List.drop_of_length_le (by omega), List.nil_append, show pre.length + 1 - pre.length = 1 by omega]
            show ((r.take b.toNat ++ (R.1 ++ ext))).take b.toNat = _
            rw [List.take_append, List.take_of_length_le (by omega), show b.toNat - (r.take b.toNat).length = 0 by omega, List.take_zero, List.append_nil]
          rw [em, readS_label _ _ b (by show (pre ++ b :: r.take b.toNat ++ R.1 ++ ext)[pre.length]? = some b; simp) h0' hb (by dsimp only; simp only [List.length_append, List.length_cons, hlk]; omega) (by dsimp only; omega)]
          dsimp only
          rw [hd, show pre.length + 1 + b.toNat = pre.length + (1 + b.toNat) by omega, I1 ext lim nx (out ++ b :: r.take b.toNat) hl (by rw [List.length_append, List.length_cons, hlk, List.length_drop]; omega)]
          have e3 : out ++ b :: r.take b.toNat ++ r.drop b.toNat = out ++ b :: r := by rw [List.append_assoc, List.cons_append, List.take_append_drop]
          rw [e3, List.length_append, List.length_cons, hlk, show pre.length + (1 + b.toNat) + R.1.length = pre.length + (b.toNat + 1 + R.1.length) by omega]
        have eR : pre ++ (b :: r.take b.toNat ++ R.1) = pre ++ b :: r.take b.toNat ++ R.1 := by simp
        refine ⟨main, ?_⟩
        rcases hnew with rfl | ⟨rfl, h16⟩
        · exact ⟨t2, I2, fun e he => by rw [eR]; exact I3 e he⟩
        · refine ⟨(b :: r, pre.length) :: t2, by rw [I2]; simp, fun e he => ?_⟩
          rcases List.mem_cons.1 he with rfl | he
          · refine ⟨h16, by simp, fun ext lim k out hl ho => ?_⟩
            exact main ext lim (some k) out (by omega) ho
          · rw [eR]; exact I3 e he
/-- A name that is written is read, and the table stays good. -/
theorem putN_read (cmp known : Bool) {pre n : List UInt8} {t : Tab} (hn : may n = true) (ht : TabOk pre t) :
    (∀ ext, readN (pre ++ (putN cmp known pre.length n t).1 ++ ext) pre.length = (n, pre.length + (putN cmp known pre.length n t).1.length, 0)) ∧ TabOk (pre ++ (putN cmp known pre.length n t).1) (putN cmp known pre.length n t).2 := by
  have h := putF_read cmp known pre.length (n.length + 1) pre n t [] (by omega) (may_parse hn) (may_le hn) (Nat.le_refl _) (fun e he => ⟨ht e he, (ht e he).2.1⟩) (by simp)
  rw [List.append_nil] at h
  obtain ⟨h1, t2, h2, h3⟩ := h
  refine ⟨fun ext => ?_, fun e he => ?_⟩
  · exact h1 ext pre.length none [] (Nat.le_refl _) (by simpa using may_le hn)
  · unfold putN at he
    rw [h2] at he
    rcases List.mem_append.1 he with h | h
    · exact (ht e h).more _
    · exact h3 e h
end Go.Proofs.YtjmfpillnbnofaaDoor
namespace Go.Proofs.YtjmfpillnbnofaaDoor
set_option linter.unusedSimpArgs false
set_option linter.unusedVariables false

def nameR (msg : List UInt8) (pos : Nat) : Except Nat (List UInt8 × Nat) := if (readN msg pos).2.2 = 0 then .ok ((readN msg pos).1, (readN msg pos).2.1) else .error (readN msg pos).2.2
def numR (k : Nat) (msg : List UInt8) (pos : Nat) : Except Nat (Nat × Nat) := if msg.length < pos + k then .error 4 else .ok (be ((msg.drop pos).take k), pos + k)
def quR (msg : List UInt8) (pos : Nat) : Except Nat (QD × Nat) :=
  match nameR msg pos with
  | .error e => .error e
  | .ok (n, p) => match numR 2 msg p with
    | .error e => .error e
    | .ok (t, p) => match numR 2 msg p with
      | .error e => .error e
      | .ok (c, p) => .ok (⟨n, t, c⟩, p)
def qusR (msg : List UInt8) : Nat → Nat → Except Nat (List QD × Nat)
  | 0, pos => .ok ([], pos)
  | k + 1, pos => match quR msg pos with
    | .error e => .error e
    | .ok (q, p) => match qusR msg k p with
      | .error e => .error e
      | .ok (l, p) => .ok (q :: l, p)
/-- The options of an OPT record (with fuel). -/
def optF : Nat → List UInt8 → Except Nat (List OpD)
  | 0, _ => .ok []
  | n + 1, d =>
    if d = [] then .ok []
    else if d.length < 4 then .error 4
    else if d.length < 4 + be ((d.drop 2).take 2) then .error 4
    else match optF n (d.drop (4 + be ((d.drop 2).take 2))) with
      | .error e => .error e
      | .ok l => .ok (⟨be (d.take 2), (d.drop 4).take (be ((d.drop 2).take 2))⟩ :: l)
def optR (d : List UInt8) : Except Nat (List OpD) := optF (d.length + 1) d
def edR (cls ttl : Nat) (d : List UInt8) : Except Nat EdD := match optR d with
  | .error e => .error e
  | .ok l => .ok ⟨cls, (ttl / 16777216 : Nat), (ttl / 65536 % 256 : Nat), (ttl % 65536 : Nat), l⟩
/-- One record: it is none, if it is an OPT one. -/
def recR (msg : List UInt8) (more : Bool) (ed : Option EdD) (pos : Nat) : Except Nat (Option RecD × Option EdD × Nat) :=
  match nameR msg pos with
  | .error e => .error e
  | .ok (n, p) => match numR 2 msg p with
    | .error e => .error e
    | .ok (ty, p) => match numR 2 msg p with
      | .error e => .error e
      | .ok (cl, p) => match numR 4 msg p with
        | .error e => .error e
        | .ok (tt, p) => match numR 2 msg p with
          | .error e => .error e
          | .ok (sz, p) =>
            if msg.length < p + sz then .error 4
            else if ty = 41 then
              (if more = false ∨ ed.isSome = true ∨ n ≠ [0] then .error 3
               else match edR cl tt ((msg.drop p).take sz) with
                | .error e => .error e
                | .ok x => .ok (none, some x, p + sz))
            else if (splitOf (msg.take (p + sz)) p ty).2 = 0 then .ok (some ⟨n, ty, cl, tt, textOf (splitOf (msg.take (p + sz)) p ty).1⟩, ed, p + sz)
            else .error (splitOf (msg.take (p + sz)) p ty).2
def recsR (msg : List UInt8) (more : Bool) : Nat → Option EdD → Nat → Except Nat (List RecD × Option EdD × Nat)
  | 0, ed, pos => .ok ([], ed, pos)
  | k + 1, ed, pos => match recR msg more ed pos with
    | .error e => .error e
    | .ok (r, ed, p) => match recsR msg more k ed p with
      | .error e => .error e
      | .ok (l, ed, p) => .ok (r.toList ++ l, ed, p)
def fromN (id n : Nat) : HdD := ⟨id, decide (n / 32768 = 1), (n / 2048 % 16 : Nat), decide (n / 1024 % 2 = 1), decide (n / 512 % 2 = 1), decide (n / 256 % 2 = 1), decide (n / 128 % 2 = 1), decide (n / 64 % 2 = 1), decide (n / 32 % 2 = 1), decide (n / 16 % 2 = 1), (n % 16 : Nat)⟩
def edNone : EdD := ⟨0, 0, 0, 0, []⟩
def n16 (msg : List UInt8) (at_ : Nat) : Nat := be ((msg.drop at_).take 2)
/-- The message's parts behind its head. -/
def bodyR (msg : List UInt8) : Except Nat (MsgD × Nat) :=
  match qusR msg (n16 msg 4) 12 with
  | .error e => .error e
  | .ok (qs, p) => match recsR msg false (n16 msg 6) none p with
    | .error e => .error e
    | .ok (a, e1, p) => match recsR msg false (n16 msg 8) e1 p with
      | .error e => .error e
      | .ok (u, e2, p) => match recsR msg true (n16 msg 10) e2 p with
        | .error e => .error e
        | .ok (x, e3, p) => .ok (⟨fromN (n16 msg 0) (n16 msg 2), qs, a, u, x, e3.isSome, e3.getD edNone⟩, p)
def decR (msg : List UInt8) : Except Nat MsgD :=
  if 65535 < msg.length then .error 5
  else if msg.length < 12 then .error 4
  else match bodyR msg with
    | .error e => .error e
    | .ok (m, p) => if p < msg.length then .error 5 else if encErr m = 0 then .ok m else .error (encErr m)
end Go.Proofs.YtjmfpillnbnofaaDoor
namespace Go.Proofs.YtjmfpillnbnofaaDoor
set_option linter.unusedSimpArgs false
set_option linter.unusedVariables false

/-- At a place of a text stand these bytes. -/
def At (msg : List UInt8) (pos : Nat) (x : List UInt8) : Prop := pos + x.length ≤ msg.length ∧ (msg.drop pos).take x.length = x
theorem At.take {msg x : List UInt8} {pos : Nat} (h : At msg pos x) : msg.take (pos + x.length) = msg.take pos ++ x := by
  rw [List.take_add, h.2]
theorem At.all {msg x : List UInt8} {pos : Nat} (h : At msg pos x) : msg.take pos ++ x ++ msg.drop (pos + x.length) = msg := by
  rw [← h.take, List.take_append_drop]
theorem At.left {msg x y : List UInt8} {pos : Nat} (h : At msg pos (x ++ y)) : At msg pos x := by
  obtain ⟨h1, h2⟩ := h
  rw [List.length_append] at h1 h2
  refine ⟨by omega, ?_⟩
  have := congrArg (List.take x.length) h2
  rw [List.take_take, Nat.min_eq_left (by omega), List.take_left] at this
  exact this
theorem At.right {msg x y : List UInt8} {pos : Nat} (h : At msg pos (x ++ y)) : At msg (pos + x.length) y := by
  obtain ⟨h1, h2⟩ := h
  rw [List.length_append] at h1 h2
  refine ⟨by omega, ?_⟩
  have := congrArg (List.drop x.length) h2
  rw [List.drop_take, List.drop_drop, List.drop_left] at this
  rw [show x.length + y.length - x.length = y.length by omega] at this
  exact this
theorem At.nil (msg : List UInt8) {pos : Nat} (h : pos ≤ msg.length) : At msg pos [] := ⟨by simpa using h, by simp⟩
theorem be_two {k : Nat} (h : k < 65536) : be (two k) = k := by
  unfold be two
  simp only [List.foldl_cons, List.foldl_nil, UInt8.toNat_ofNat']
  omega
theorem be_four {k : Nat} (h : k < 4294967296) : be (four k) = k := by
  unfold be four
  simp only [List.foldl_cons, List.foldl_nil, UInt8.toNat_ofNat']
  omega
theorem num_at {msg x : List UInt8} {pos k : Nat} (h : At msg pos x) (hk : x.length = k) : numR k msg pos = .ok (be x, pos + k) := by
  subst hk
  unfold numR
  rw [if_neg (by have := h.1; omega), h.2]
theorem two_at {msg : List UInt8} {pos v : Nat} (h : At msg pos (two v)) (hv : v < 65536) : numR 2 msg pos = .ok (v, pos + 2) := by rw [num_at (k := 2) h rfl, be_two hv]
theorem four_at {msg : List UInt8} {pos v : Nat} (h : At msg pos (four v)) (hv : v < 4294967296) : numR 4 msg pos = .ok (v, pos + 4) := by rw [num_at (k := 4) h rfl, be_four hv]
theorem readN_at {cmp known : Bool} {msg n : List UInt8} {pos : Nat} {t : Tab} (hn : may n = true) (ht : TabOk (msg.take pos) t) (h : At msg pos (putN cmp known pos n t).1) :
    readN msg pos = (n, pos + (putN cmp known pos n t).1.length, 0) ∧ TabOk (msg.take (pos + (putN cmp known pos n t).1.length)) (putN cmp known pos n t).2 := by
  have hl : (msg.take pos).length = pos := by rw [List.length_take]; have := h.1; omega
  have h1 := putN_read cmp known hn ht
  rw [hl] at h1
  refine ⟨?_, by rw [h.take]; exact h1.2⟩
  have := h1.1 (msg.drop (pos + (putN cmp known pos n t).1.length))
  rw [h.all] at this
  exact this
theorem name_at {cmp known : Bool} {msg n : List UInt8} {pos : Nat} {t : Tab} (hn : may n = true) (ht : TabOk (msg.take pos) t) (h : At msg pos (putN cmp known pos n t).1) :
    nameR msg pos = .ok (n, pos + (putN cmp known pos n t).1.length) := by
  unfold nameR
  rw [(readN_at hn ht h).1]; rfl
theorem runChk_0 {c : Chk} (h : c.kind = 0) (msg : List UInt8) (pos : Nat) : runChk c msg pos = if msg.length - pos < c.n then (Pc.zero, 4) else (⟨(msg.drop pos).take c.n, false, pos + c.n⟩, 0) := by
  obtain ⟨k, n⟩ := c; dsimp only at h; subst h; rfl
theorem runChk_1 {c : Chk} (h : c.kind = 1) (msg : List UInt8) (pos : Nat) : runChk c msg pos = if (readN msg pos).2.2 ≠ 0 then (Pc.zero, (readN msg pos).2.2) else (⟨(readN msg pos).1, true, (readN msg pos).2.1⟩, 0) := by
  obtain ⟨k, n⟩ := c; dsimp only at h; subst h; rfl
theorem runChk_2 {c : Chk} (h : c.kind = 2) (msg : List UInt8) (pos : Nat) : runChk c msg pos = if textsOk (msg.drop pos) then (⟨msg.drop pos, false, msg.length⟩, 0) else (Pc.zero, 4) := by
  obtain ⟨k, n⟩ := c; dsimp only at h; subst h; rfl
/-- The last check alone may go to the end. -/
def lastOk : List Chk → Prop
  | [] => True
  | c :: cs => (2 ≤ c.kind → cs = []) ∧ lastOk cs
theorem checks_last (k : Int) : lastOk (checksOf k) := by
  unfold checksOf
  repeat' (first | split | (simp [lastOk]))
def pcT (p : Pc) : List UInt8 × Bool := (p.text, p.nm)
theorem pcT_def : (fun p : Pc => (p.text, p.nm)) = pcT := rfl
theorem parts_read (c : Bool) : ∀ (cs : List Chk) (d : List UInt8) (pd : Nat) (pcs : List Pc) (msg : List UInt8) (pos : Nat) (t : Tab), lastOk cs → splitL cs d pd = (pcs, 0) → TabOk (msg.take pos) t →
    At msg pos (partsW c pos (pcs.map pcT) t).1 → msg.length = pos + (partsW c pos (pcs.map pcT) t).1.length →
    (splitL cs msg pos).2 = 0 ∧ (splitL cs msg pos).1.map pcT = pcs.map pcT ∧ TabOk (msg.take (pos + (partsW c pos (pcs.map pcT) t).1.length)) (partsW c pos (pcs.map pcT) t).2
  | [], d, pd, pcs, msg, pos, t, _, hs, ht, ha, hl => by
    unfold splitL at hs
    split at hs
    · cases hs
    · injection hs with hs _
      subst hs
      simp only [List.map_nil, partsW, List.length_nil, Nat.add_zero] at hl ⊢
      unfold splitL
      rw [if_neg (by omega)]
      exact ⟨rfl, rfl, ht⟩
  | k :: cs, d, pd, pcs, msg, pos, t, hlo, hs, ht, ha, hl => by
    unfold splitL at hs
    split at hs
    · rename_i hne
      injection hs with _ hs
      exact absurd hs hne
    · rename_i h0
      split at hs
      · rename_i hne
        injection hs with _ hs
        exact absurd hs hne
      · rename_i h1
        injection hs with hs _
        have h0' := Decidable.not_not.1 h0
        have h1' := Decidable.not_not.1 h1
        have hrest : splitL cs d (runChk k d pd).1.next = ((splitL cs d (runChk k d pd).1.next).1, 0) := by rw [← h1']
        generalize hp : (runChk k d pd).1 = p at *
        generalize (splitL cs d p.next).1 = pcs' at *
        subst hs
        -- what is asked of the check in the message
        have main : ∀ (x : List UInt8) (t' : Tab), (partsW c pos ((p :: pcs').map pcT) t) = (x ++ (partsW c (pos + x.length) (pcs'.map pcT) t').1, (partsW c (pos + x.length) (pcs'.map pcT) t').2) →
            (At msg pos x → TabOk (msg.take (pos + x.length)) t' ∧ runChk k msg pos = (⟨p.text, p.nm, pos + x.length⟩, 0)) →
            (splitL (k :: cs) msg pos).2 = 0 ∧ (splitL (k :: cs) msg pos).1.map pcT = (p :: pcs').map pcT ∧ TabOk (msg.take (pos + (partsW c pos ((p :: pcs').map pcT) t).1.length)) (partsW c pos ((p :: pcs').map pcT) t).2 := fun x t' he hx => by
          rw [he] at ha hl ⊢
          dsimp only at ha hl ⊢
          obtain ⟨h3, h4⟩ := hx ha.left
          rw [List.length_append] at hl ⊢
          obtain ⟨g1, g2, g3⟩ := parts_read c cs d p.next pcs' msg (pos + x.length) t' hlo.2 hrest h3 ha.right (by omega)
          have e : splitL (k :: cs) msg pos = (⟨p.text, p.nm, pos + x.length⟩ :: (splitL cs msg (pos + x.length)).1, 0) := by
            conv => lhs; unfold splitL
            rw [h4]
            rw [if_neg (by simp), if_neg (by simp [g1])]
          rw [e]
          refine ⟨rfl, ?_, by rw [← Nat.add_assoc]; exact g3⟩
          rw [List.map_cons, List.map_cons, g2]; rfl
        have plain : p.nm = false → (partsW c pos ((p :: pcs').map pcT) t) = (p.text ++ (partsW c (pos + p.text.length) (pcs'.map pcT) t).1, (partsW c (pos + p.text.length) (pcs'.map pcT) t).2) := fun hf => by
          rw [List.map_cons]; show partsW c pos ((p.text, p.nm) :: _) t = _
          simp only [partsW]; rw [if_neg (by rw [hf]; simp)]
        have tab : ∀ x, At msg pos x → TabOk (msg.take (pos + x.length)) t := fun x hx e he => by rw [hx.take]; exact (ht e he).more _
        -- a check that goes to the end
        have toEnd : 2 ≤ k.kind → p.nm = false → (∀ y : List UInt8, At msg pos y → msg.length = pos + y.length → y = p.text → runChk k msg pos = (⟨y, false, msg.length⟩, 0)) →
            (splitL (k :: cs) msg pos).2 = 0 ∧ (splitL (k :: cs) msg pos).1.map pcT = (p :: pcs').map pcT ∧ TabOk (msg.take (pos + (partsW c pos ((p :: pcs').map pcT) t).1.length)) (partsW c pos ((p :: pcs').map pcT) t).2 := fun h2 hf hr => by
          have hcs := hlo.1 h2
          subst hcs
          have hp' : pcs' = [] := by
            unfold splitL at hrest
            split at hrest
            · cases hrest
            · injection hrest with h _; exact h.symm
          subst hp'
          have e : (partsW c pos ([p].map pcT) t) = (p.text, t) := by
            rw [plain hf]
            simp [partsW]
          rw [e] at ha hl
          have := hr p.text ha hl rfl
          refine main p.text t (plain hf) (fun hx => ⟨tab _ hx, ?_⟩)
          rw [this, hf, hl]
        by_cases k0 : k.kind = 0
        · have e0 := runChk_0 k0 d pd
          by_cases hn : d.length - pd < k.n
          · rw [e0, if_pos hn] at h0'; cases h0'
          · rw [e0, if_neg hn] at hp
            have hpt : p.text = (d.drop pd).take k.n := by rw [← hp]
            have hpn : p.nm = false := by rw [← hp]
            have hlen : p.text.length = k.n := by rw [hpt, List.length_take, List.length_drop]; omega
            refine main p.text t (plain hpn) (fun hx => ⟨tab _ hx, ?_⟩)
            rw [runChk_0 k0]
            have hx1 := hx.1
            have hx2 := hx.2
            rw [hlen] at hx1 hx2
            rw [if_neg (by omega), hx2, hpn, hlen]
        · by_cases k1 : k.kind = 1
          · have e1 := runChk_1 k1 d pd
            by_cases hn : (readN d pd).2.2 ≠ 0
            · rw [e1, if_pos hn] at h0'; exact absurd h0' hn
            · rw [e1, if_neg hn] at hp
              have hpt : p.text = (readN d pd).1 := by rw [← hp]
              have hpn : p.nm = true := by rw [← hp]
              have hm : may p.text = true := by rw [hpt]; exact readN_valid (Decidable.not_not.1 hn)
              refine main (putN c c pos p.text t).1 (putN c c pos p.text t).2 ?_ (fun hx => ?_)
              · rw [List.map_cons]; show partsW c pos ((p.text, p.nm) :: _) t = _
                simp only [partsW]; rw [if_pos hpn]
              · obtain ⟨r1, r2⟩ := readN_at hm ht hx
                refine ⟨r2, ?_⟩
                rw [runChk_1 k1, r1]
                dsimp only
                rw [if_neg (by simp), hpn]
          · by_cases k2 : k.kind = 2
            · have e2 := runChk_2 k2 d pd
              by_cases hn : textsOk (d.drop pd) = true
              · rw [e2, if_pos hn] at hp
                have hpt : p.text = d.drop pd := by rw [← hp]
                refine toEnd (by omega) (by rw [← hp]) (fun y hy hyl hye => ?_)
                rw [runChk_2 k2]
                have h2 := hy.2
                rw [List.take_of_length_le (by rw [List.length_drop]; omega)] at h2
                rw [h2, if_pos (by rw [hye, hpt]; exact hn)]
              · rw [e2, if_neg hn] at h0'; cases h0'
            · have e3 : ∀ (m : List UInt8) (q : Nat), runChk k m q = (⟨m.drop q, false, m.length⟩, 0) := fun m q => by
                unfold runChk
                split
                · rename_i h; exact absurd h k0
                · rename_i h; exact absurd h k1
                · rename_i h; exact absurd h k2
                · rfl
              rw [e3] at hp
              refine toEnd (by omega) (by rw [← hp]) (fun y hy hyl hye => ?_)
              rw [e3]
              have h2 := hy.2
              rw [List.take_of_length_le (by rw [List.length_drop]; omega)] at h2
              rw [h2]
theorem split_whole {k : Int} {d : List UInt8} (h : rmay k d = true) : k ≠ 41 ∧ splitL (checksOf k) d 0 = (partsOf k d, 0) ∧ textOf (partsOf k d) = d := by
  unfold rmay wholeOf at h
  unfold partsOf wholeOf
  split at h
  · rename_i hc
    rw [if_pos hc, Option.getD_some]
    obtain ⟨h1, h2⟩ := hc
    unfold splitOf at h1 h2 ⊢
    by_cases hk : k = 41
    · rw [if_pos hk] at h1; cases h1
    · rw [if_neg hk] at h1 h2
      rw [if_neg hk]
      exact ⟨hk, Prod.ext rfl h1, h2⟩
  · cases h
theorem textOf_map (l : List Pc) : textOf l = (l.map pcT).flatMap Prod.fst := by
  unfold textOf
  rw [List.flatMap_map]; rfl
/-- Data that are written are read. -/
theorem data_at {k : Int} {d : List UInt8} (hd : rmay k d = true) {msg : List UInt8} {pos : Nat} {t : Tab} (ht : TabOk (msg.take pos) t) (h : At msg pos (dataW pos k d t).1) :
    (splitOf (msg.take (pos + (dataW pos k d t).1.length)) pos k).2 = 0 ∧ textOf (splitOf (msg.take (pos + (dataW pos k d t).1.length)) pos k).1 = d ∧ TabOk (msg.take (pos + (dataW pos k d t).1.length)) (dataW pos k d t).2 := by
  obtain ⟨h1, h2, h3⟩ := split_whole hd
  have hl := h.1
  have e : dataW pos k d t = partsW (cmpOf k) pos ((partsOf k d).map pcT) t := rfl
  rw [e] at h hl ⊢
  generalize hW : partsW (cmpOf k) pos ((partsOf k d).map pcT) t = W at *
  have e1 : (msg.take (pos + W.1.length)).take pos = msg.take pos := by rw [List.take_take, Nat.min_eq_left (by omega)]
  have e2 : (msg.take (pos + W.1.length)).length = pos + W.1.length := by rw [List.length_take]; omega
  have e3 : At (msg.take (pos + W.1.length)) pos W.1 := by
    refine ⟨by omega, ?_⟩
    rw [List.drop_take, List.take_take, show min W.1.length (pos + W.1.length - pos) = W.1.length by omega]
    exact h.2
  obtain ⟨g1, g2, g3⟩ := parts_read (cmpOf k) (checksOf k) d 0 (partsOf k d) (msg.take (pos + W.1.length)) pos t (checks_last k) h2 (by rw [e1]; exact ht) (by rw [hW]; exact e3) (by rw [hW]; exact e2)
  rw [hW] at g3
  unfold splitOf
  rw [if_neg h1]
  refine ⟨g1, by rw [textOf_map, g2, ← textOf_map]; exact h3, ?_⟩
  rw [List.take_of_length_le (by omega)] at g3
  exact g3
/-- What may stand in a question, in a record: numbers of their kinds. -/
def QD.wf (q : QD) : Prop := (0 ≤ q.typ ∧ q.typ ≤ 65535) ∧ (0 ≤ q.cls ∧ q.cls ≤ 65535)
def RecD.wf (r : RecD) : Prop := (0 ≤ r.typ ∧ r.typ ≤ 65535) ∧ (0 ≤ r.cls ∧ r.cls ≤ 65535) ∧ (0 ≤ r.ttl ∧ r.ttl ≤ 4294967295)
theorem tab_app {msg x : List UInt8} {pos : Nat} {t : Tab} (ht : TabOk (msg.take pos) t) (hx : At msg pos x) : TabOk (msg.take (pos + x.length)) t := fun e he => by rw [hx.take]; exact (ht e he).more _
theorem qu_at {q : QD} (hw : q.wf) (hm : may q.name = true) {msg : List UInt8} {pos : Nat} {t : Tab} (ht : TabOk (msg.take pos) t) (h : At msg pos (quW pos q t).1) :
    quR msg pos = .ok (q, pos + (quW pos q t).1.length) ∧ TabOk (msg.take (pos + (quW pos q t).1.length)) (quW pos q t).2 := by
  obtain ⟨n, ty, cl⟩ := q
  obtain ⟨⟨w1, w2⟩, w3, w4⟩ := hw
  dsimp only at *
  unfold quW at h ⊢
  dsimp only at h ⊢
  have ha := h.left
  have hb := h.right.left
  have hc := h.right.right
  rw [two_len] at hc
  obtain ⟨r1, r2⟩ := readN_at hm ht ha
  have e1 := name_at hm ht ha
  have e2 := two_at hb (show ty.toNat < 65536 by omega)
  have e3 := two_at hc (show cl.toNat < 65536 by omega)
  have hl : ((putN true true pos n t).1 ++ (two ty.toNat ++ two cl.toNat)).length = (putN true true pos n t).1.length + 4 := by rw [List.length_append, List.length_append]; rfl
  rw [hl]
  refine ⟨?_, ?_⟩
  · unfold quR
    rw [e1]
    dsimp only
    rw [e2]
    dsimp only
    rw [e3]
    dsimp only
    rw [Int.toNat_of_nonneg w1, Int.toNat_of_nonneg w3, show pos + (putN true true pos n t).1.length + 2 + 2 = pos + ((putN true true pos n t).1.length + 4) by omega]
  · have := tab_app r2 h.right
    rw [show (two ty.toNat ++ two cl.toNat).length = 4 from rfl, Nat.add_assoc] at this
    exact this
theorem rec_at {r : RecD} (hw : r.wf) (hm : recOk7 r = true) {msg : List UInt8} {pos : Nat} {t : Tab} (ht : TabOk (msg.take pos) t) (h : At msg pos (recW pos r t).1) (hl : msg.length ≤ 65535) (more : Bool) (ed : Option EdD) :
    recR msg more ed pos = .ok (some r, ed, pos + (recW pos r t).1.length) ∧ TabOk (msg.take (pos + (recW pos r t).1.length)) (recW pos r t).2 := by
  obtain ⟨n, ty, cl, tt, d⟩ := r
  obtain ⟨⟨w1, w2⟩, ⟨w3, w4⟩, w5, w6⟩ := hw
  unfold recOk7 at hm
  simp only [Bool.and_eq_true, decide_eq_true_eq] at hm
  obtain ⟨⟨m1, m2⟩, m3⟩ := hm
  dsimp only at *
  unfold recW at h ⊢
  dsimp only at h ⊢
  generalize hA : putN true true pos n t = A at *
  have hD : (A.1 ++ (two ty.toNat ++ two cl.toNat ++ four tt.toNat) ++ two (dataW (pos + A.1.length + 10) ty d A.2).1.length ++ (dataW (pos + A.1.length + 10) ty d A.2).1) =
      A.1 ++ (two ty.toNat ++ (two cl.toNat ++ (four tt.toNat ++ (two (dataW (pos + A.1.length + 10) ty d A.2).1.length ++ (dataW (pos + A.1.length + 10) ty d A.2).1)))) := by simp
  rw [hD] at h ⊢
  have ha := h.left
  have h1 := h.right
  have hb := h1.left
  have h2 := h1.right
  rw [two_len] at h2
  have hc := h2.left
  have h3 := h2.right
  rw [two_len] at h3
  have hd := h3.left
  have h4 := h3.right
  rw [four_len] at h4
  have he := h4.left
  have h5 := h4.right
  rw [two_len] at h5
  have hp : pos + A.1.length + 2 + 2 + 4 + 2 = pos + A.1.length + 10 := by omega
  rw [hp] at h5
  rw [← hA] at ha
  obtain ⟨r1, r2⟩ := readN_at m2 ht ha
  have e1 := name_at m2 ht ha
  rw [hA] at r2 e1 ha
  have htD : TabOk (msg.take (pos + A.1.length + 10)) A.2 := by
    have := tab_app r2 (x := two ty.toNat ++ (two cl.toNat ++ (four tt.toNat ++ two (dataW (pos + A.1.length + 10) ty d A.2).1.length))) (At.left (y := (dataW (pos + A.1.length + 10) ty d A.2).1) (by simpa using h1))
    exact this
  obtain ⟨d1, d2, d3⟩ := data_at m3 htD h5
  have hln := h5.1
  generalize hW : dataW (pos + A.1.length + 10) ty d A.2 = W at *
  have e2 := two_at hb (show ty.toNat < 65536 by omega)
  have e3 := two_at hc (show cl.toNat < 65536 by omega)
  have e4 := four_at hd (show tt.toNat < 4294967296 by omega)
  have e5 := two_at he (show W.1.length < 65536 by omega)
  rw [hp] at e5
  have hlen : pos + (A.1 ++ (two ty.toNat ++ (two cl.toNat ++ (four tt.toNat ++ (two W.1.length ++ W.1))))).length = pos + A.1.length + 10 + W.1.length := by
    simp only [List.length_append, two_len, four_len]; omega
  rw [hlen]
  refine ⟨?_, d3⟩
  unfold recR
  rw [e1]
  dsimp only
  rw [e2]
  dsimp only
  rw [e3]
  dsimp only
  rw [e4]
  dsimp only
  rw [e5]
  dsimp only
  rw [if_neg (by omega), if_neg (by omega), Int.toNat_of_nonneg w1, if_pos d1, d2, Int.toNat_of_nonneg w3, Int.toNat_of_nonneg w5]
theorem qus_at : ∀ (l : List QD) (pos : Nat) (t : Tab) (msg : List UInt8), (∀ q ∈ l, q.wf ∧ may q.name = true) → TabOk (msg.take pos) t → At msg pos (seqW quW pos l t).1 →
    qusR msg l.length pos = .ok (l, pos + (seqW quW pos l t).1.length) ∧ TabOk (msg.take (pos + (seqW quW pos l t).1.length)) (seqW quW pos l t).2
  | [], pos, t, msg, _, ht, _ => ⟨rfl, by simpa [seqW] using ht⟩
  | q :: l, pos, t, msg, hl, ht, h => by
    simp only [seqW] at h ⊢
    obtain ⟨h1, h2⟩ := qu_at (hl q (by simp)).1 (hl q (by simp)).2 ht h.left
    obtain ⟨h3, h4⟩ := qus_at l _ _ msg (fun x hx => hl x (by simp [hx])) h2 h.right
    rw [List.length_append, ← Nat.add_assoc]
    refine ⟨?_, h4⟩
    simp only [List.length_cons, qusR]
    rw [h1]
    dsimp only
    rw [h3]
theorem recs_at (more : Bool) (ed : Option EdD) : ∀ (l : List RecD) (pos : Nat) (t : Tab) (msg : List UInt8), (∀ r ∈ l, r.wf ∧ recOk7 r = true) → msg.length ≤ 65535 → TabOk (msg.take pos) t → At msg pos (seqW recW pos l t).1 →
    recsR msg more l.length ed pos = .ok (l, ed, pos + (seqW recW pos l t).1.length) ∧ TabOk (msg.take (pos + (seqW recW pos l t).1.length)) (seqW recW pos l t).2
  | [], pos, t, msg, _, _, ht, _ => ⟨rfl, by simpa [seqW] using ht⟩
  | r :: l, pos, t, msg, hl, hm, ht, h => by
    simp only [seqW] at h ⊢
    obtain ⟨h1, h2⟩ := rec_at (hl r (by simp)).1 (hl r (by simp)).2 ht h.left hm more ed
    obtain ⟨h3, h4⟩ := recs_at more ed l _ _ msg (fun x hx => hl x (by simp [hx])) hm h2 h.right
    rw [List.length_append, ← Nat.add_assoc]
    refine ⟨?_, h4⟩
    simp only [List.length_cons, recsR]
    rw [h1]
    dsimp only
    rw [h3]
    rfl
end Go.Proofs.YtjmfpillnbnofaaDoor
namespace Go.Proofs.YtjmfpillnbnofaaDoor
set_option linter.unusedSimpArgs false
set_option linter.unusedVariables false

structure MsgD.wf (m : MsgD) : Prop where
  id : 0 ≤ m.hd.id ∧ m.hd.id ≤ 65535
  op : 0 ≤ m.hd.op
  code : 0 ≤ m.hd.code
  qs : ∀ q ∈ m.qs, q.wf
  ans : ∀ r ∈ m.ans, r.wf
  auth : ∀ r ∈ m.auth, r.wf
  extra : ∀ r ∈ m.extra, r.wf
  size : 0 ≤ m.ed.size ∧ m.ed.size ≤ 65535
  ext : 0 ≤ m.ed.ext ∧ m.ed.ext ≤ 255
  ver : 0 ≤ m.ed.ver ∧ m.ed.ver ≤ 255
  flags : 0 ≤ m.ed.flags ∧ m.ed.flags ≤ 65535
  opts : ∀ o ∈ m.ed.opts, 0 ≤ o.code ∧ o.code ≤ 65535
theorem bitN_val (b : Bool) (k : Nat) : ∃ v, v ≤ 1 ∧ bitN b k = v * k ∧ decide (v = 1) = b := by
  cases b
  · exact ⟨0, by omega, by simp [bitN], rfl⟩
  · exact ⟨1, by omega, by simp [bitN], rfl⟩
theorem flags_lt {h : HdD} (h1 : 0 ≤ h.op) (h2 : 0 ≤ h.code) (ho : hdOk h = true) : flagsOf h < 65536 := by
  unfold hdOk at ho
  rw [decide_eq_true_eq] at ho
  unfold flagsOf
  obtain ⟨a1, a2, a3, _⟩ := bitN_val h.qr 32768
  obtain ⟨b1, b2, b3, _⟩ := bitN_val h.aa 1024
  obtain ⟨c1, c2, c3, _⟩ := bitN_val h.tc 512
  obtain ⟨d1, d2, d3, _⟩ := bitN_val h.rd 256
  obtain ⟨e1, e2, e3, _⟩ := bitN_val h.ra 128
  obtain ⟨f1, f2, f3, _⟩ := bitN_val h.z 64
  obtain ⟨g1, g2, g3, _⟩ := bitN_val h.ad 32
  obtain ⟨i1, i2, i3, _⟩ := bitN_val h.cd 16
  rw [a3, b3, c3, d3, e3, f3, g3, i3]
  omega
theorem bits_of {n a o b c d e f g i k : Nat} (hn : n = a * 32768 + o * 2048 + b * 1024 + c * 512 + d * 256 + e * 128 + f * 64 + g * 32 + i * 16 + k) (ha : a ≤ 1) (ho : o ≤ 15) (hb : b ≤ 1) (hc : c ≤ 1) (hd : d ≤ 1) (he : e ≤ 1) (hf : f ≤ 1) (hg : g ≤ 1) (hi : i ≤ 1) (hk : k ≤ 15) :
    n / 32768 = a ∧ n / 2048 % 16 = o ∧ n / 1024 % 2 = b ∧ n / 512 % 2 = c ∧ n / 256 % 2 = d ∧ n / 128 % 2 = e ∧ n / 64 % 2 = f ∧ n / 32 % 2 = g ∧ n / 16 % 2 = i ∧ n % 16 = k := by
  refine ⟨?_, ?_, ?_, ?_, ?_, ?_, ?_, ?_, ?_, ?_⟩ <;> omega
theorem from_flags {h : HdD} (h0 : 0 ≤ h.id) (h1 : 0 ≤ h.op) (h2 : 0 ≤ h.code) (ho : hdOk h = true) : fromN h.id.toNat (flagsOf h) = h := by
  obtain ⟨id, qr, op, aa, tc, rd, ra, z, ad, cd, code⟩ := h
  unfold hdOk at ho
  rw [decide_eq_true_eq] at ho
  dsimp only at h0 h1 h2 ho
  obtain ⟨a1, a2, a3, a4⟩ := bitN_val qr 32768
  obtain ⟨b1, b2, b3, b4⟩ := bitN_val aa 1024
  obtain ⟨c1, c2, c3, c4⟩ := bitN_val tc 512
  obtain ⟨d1, d2, d3, d4⟩ := bitN_val rd 256
  obtain ⟨e1, e2, e3, e4⟩ := bitN_val ra 128
  obtain ⟨f1, f2, f3, f4⟩ := bitN_val z 64
  obtain ⟨g1, g2, g3, g4⟩ := bitN_val ad 32
  obtain ⟨i1, i2, i3, i4⟩ := bitN_val cd 16
  have hn : flagsOf ⟨id, qr, op, aa, tc, rd, ra, z, ad, cd, code⟩ = a1 * 32768 + op.toNat * 2048 + b1 * 1024 + c1 * 512 + d1 * 256 + e1 * 128 + f1 * 64 + g1 * 32 + i1 * 16 + code.toNat := by
    unfold flagsOf
    dsimp only
    rw [a3, b3, c3, d3, e3, f3, g3, i3]
  obtain ⟨n1, n2, n3, n4, n5, n6, n7, n8, n9, n10⟩ := bits_of hn a2 (by omega) b2 c2 d2 e2 f2 g2 i2 (by omega)
  clear hn
  obtain ⟨n, hn⟩ : ∃ n, n = flagsOf ⟨id, qr, op, aa, tc, rd, ra, z, ad, cd, code⟩ := ⟨_, rfl⟩
  rw [← hn] at n1 n2 n3 n4 n5 n6 n7 n8 n9 n10
  rw [← hn]
  unfold fromN
  rw [HdD.mk.injEq]
  exact ⟨Int.toNat_of_nonneg h0, (congrArg (fun z => decide (z = 1)) n1).trans a4, (congrArg Int.ofNat n2).trans (Int.toNat_of_nonneg h1), (congrArg (fun z => decide (z = 1)) n3).trans b4, (congrArg (fun z => decide (z = 1)) n4).trans c4, (congrArg (fun z => decide (z = 1)) n5).trans d4, (congrArg (fun z => decide (z = 1)) n6).trans e4, (congrArg (fun z => decide (z = 1)) n7).trans f4, (congrArg (fun z => decide (z = 1)) n8).trans g4, (congrArg (fun z => decide (z = 1)) n9).trans i4, (congrArg Int.ofNat n10).trans (Int.toNat_of_nonneg h2)⟩
theorem opt_back : ∀ (l : List OpD) (n : Nat), (∀ o ∈ l, 0 ≤ o.code ∧ o.code ≤ 65535) → (l.flatMap fun o => two o.code.toNat ++ two o.data.length ++ o.data).length ≤ 65535 → (l.flatMap fun o => two o.code.toNat ++ two o.data.length ++ o.data).length < n →
    optF n (l.flatMap fun o => two o.code.toNat ++ two o.data.length ++ o.data) = .ok l
  | _, 0, _, _, h => absurd h (by omega)
  | [], n + 1, _, _, _ => by simp [optF]
  | ⟨c, d⟩ :: l, n + 1, hl, h1, h2 => by
    obtain ⟨w1, w2⟩ := hl ⟨c, d⟩ (by simp)
    dsimp only at w1 w2
    rw [List.flatMap_cons] at h1 h2 ⊢
    dsimp only at h1 h2 ⊢
    have hb := opt_back l n (fun o ho => hl o (by simp [ho]))
    generalize (l.flatMap fun o => two o.code.toNat ++ two o.data.length ++ o.data) = r at *
    simp only [List.length_append, two_len] at h1 h2
    have e1 : two c.toNat ++ two d.length ++ d ++ r ≠ [] := by simp [two]
    have e2 : (two c.toNat ++ two d.length ++ d ++ r).take 2 = two c.toNat := rfl
    have e3 : ((two c.toNat ++ two d.length ++ d ++ r).drop 2).take 2 = two d.length := rfl
    have e4 : (two c.toNat ++ two d.length ++ d ++ r).drop 4 = d ++ r := rfl
    have hbd : be (two d.length) = d.length := be_two (by omega)
    have hbc : be (two c.toNat) = c.toNat := be_two (by omega)
    have hlen : (two c.toNat ++ two d.length ++ d ++ r).length = 4 + d.length + r.length := by simp only [List.length_append, two_len]
    unfold optF
    rw [if_neg e1, e3, hbd, hlen, if_neg (by omega), if_neg (by omega), e2, hbc, e4, List.take_left]
    have e5 : (two c.toNat ++ two d.length ++ d ++ r).drop (4 + d.length) = r := by
      rw [← List.drop_drop, e4, List.drop_left]
    rw [e5, hb (by omega) (by omega)]
    dsimp only
    rw [Int.toNat_of_nonneg w1]
theorem edns_at {m : MsgD} (hw : m.wf) {msg : List UInt8} {pos : Nat} (h : At msg pos (ednsW m.ed)) (hl : msg.length ≤ 65535) : recR msg true none pos = .ok (none, some m.ed, pos + (ednsW m.ed).length) := by
  obtain ⟨z1, z2⟩ := hw.size
  obtain ⟨x1, x2⟩ := hw.ext
  obtain ⟨v1, v2⟩ := hw.ver
  obtain ⟨f1, f2⟩ := hw.flags
  have hO := hw.opts
  generalize m.ed = e at *
  obtain ⟨sz, ex, ve, fl, os⟩ := e
  dsimp only at *
  unfold ednsW at h ⊢
  dsimp only at h ⊢
  generalize hop : optW ⟨sz, ex, ve, fl, os⟩ = op at *
  have hD : ([0] ++ two 41 ++ two sz.toNat ++ four (optTtl ⟨sz, ex, ve, fl, os⟩) ++ two op.length ++ op : List UInt8) = [0] ++ (two 41 ++ (two sz.toNat ++ (four (optTtl ⟨sz, ex, ve, fl, os⟩) ++ (two op.length ++ op)))) := by simp
  rw [hD] at h ⊢
  have ha := h.left
  have h1 := h.right
  rw [show ([0] : List UInt8).length = 1 from rfl] at h1
  have hb := h1.left
  have h2 := h1.right
  rw [two_len] at h2
  have hc := h2.left
  have h3 := h2.right
  rw [two_len] at h3
  have hd := h3.left
  have h4 := h3.right
  rw [four_len] at h4
  have he := h4.left
  have h5 := h4.right
  rw [two_len] at h5
  have hln := h5.1
  have e1 : nameR msg pos = .ok ([0], pos + 1) := by
    have hz : msg[pos]? = some 0 := by
      have h0 := ha.2
      have := congrArg (fun l => l[0]?) h0
      simp only [List.length_singleton, List.getElem?_take_of_lt (Nat.lt_succ_self 0), List.getElem?_drop, Nat.add_zero] at this
      exact this
    unfold nameR readN
    rw [readS_zero msg ⟨pos, pos, none, []⟩ hz]
    rfl
  have httl : optTtl ⟨sz, ex, ve, fl, os⟩ < 4294967296 := by unfold optTtl; dsimp only; omega
  have e2 := two_at hb (show 41 < 65536 by omega)
  have e3 := two_at hc (show sz.toNat < 65536 by omega)
  have e4 := four_at hd httl
  have e5 := two_at he (show op.length < 65536 by omega)
  have hob : optR op = .ok os := by
    rw [← hop]
    unfold optR
    refine opt_back os _ hO ?_ (Nat.lt_succ_self _)
    have : (optW ⟨sz, ex, ve, fl, os⟩).length = op.length := by rw [hop]
    unfold optW at this
    dsimp only at this
    omega
  have hlen : pos + ([0] ++ (two 41 ++ (two sz.toNat ++ (four (optTtl ⟨sz, ex, ve, fl, os⟩) ++ (two op.length ++ op)))) : List UInt8).length = pos + 1 + 2 + 2 + 4 + 2 + op.length := by
    simp only [List.length_append, two_len, four_len, List.length_singleton]; omega
  rw [hlen]
  unfold recR
  rw [e1]
  dsimp only
  rw [e2]
  dsimp only
  rw [e3]
  dsimp only
  rw [e4]
  dsimp only
  rw [e5]
  dsimp only
  rw [if_neg (by omega), if_pos rfl, if_neg (by simp), h5.2]
  unfold edR
  rw [hob]
  dsimp only
  have k1 : (sz.toNat : Int) = sz := Int.toNat_of_nonneg z1
  have k2 : ((optTtl ⟨sz, ex, ve, fl, os⟩ / 16777216 : Nat) : Int) = ex := by unfold optTtl; dsimp only; omega
  have k3 : ((optTtl ⟨sz, ex, ve, fl, os⟩ / 65536 % 256 : Nat) : Int) = ve := by unfold optTtl; dsimp only; omega
  have k4 : ((optTtl ⟨sz, ex, ve, fl, os⟩ % 65536 : Nat) : Int) = fl := by unfold optTtl; dsimp only; omega
  rw [k1, k2, k3, k4]
theorem recsR_add (msg : List UInt8) (more : Bool) : ∀ (a b : Nat) (ed : Option EdD) (pos : Nat), recsR msg more (a + b) ed pos = match recsR msg more a ed pos with
    | .error e => .error e
    | .ok (l, ed, p) => match recsR msg more b ed p with
      | .error e => .error e
      | .ok (l', ed, p) => .ok (l ++ l', ed, p)
  | 0, b, ed, pos => by
    rw [Nat.zero_add]
    simp only [recsR]
    rcases recsR msg more b ed pos with e | ⟨l, ed, p⟩ <;> rfl
  | a + 1, b, ed, pos => by
    rw [show a + 1 + b = (a + b) + 1 by omega]
    simp only [recsR]
    rcases recR msg more ed pos with e | ⟨r, ed', p⟩
    · rfl
    · dsimp only
      rw [recsR_add msg more a b ed' p]
      rcases recsR msg more a ed' p with e | ⟨l, ed'', p'⟩
      · rfl
      · dsimp only
        rcases recsR msg more b ed'' p' with e | ⟨l', ed3, p3⟩
        · rfl
        · dsimp only
          rw [List.append_assoc]
theorem n16_at {msg : List UInt8} {pos v : Nat} (h : At msg pos (two v)) (hv : v < 65536) : n16 msg pos = v := by
  unfold n16
  have := h.2
  rw [two_len] at this
  rw [this, be_two hv]
/-- What is written of a message is read as that message. -/
theorem dec_enc {m : MsgD} (hw : m.wf) (he : encErr m = 0) : decR (encOf m) = .ok m := by
  have hB : encOf m = (bodyW m).1 := by unfold encOf; rw [if_pos he]
  have he' := he
  unfold encErr at he'
  split at he'
  rotate_left
  · cases he'
  rename_i hm
  split at he'
  · cases he'
  rename_i hlen
  unfold mayM at hm
  simp only [Bool.and_eq_true, decide_eq_true_eq, List.all_eq_true, Bool.or_eq_true] at hm
  obtain ⟨⟨⟨⟨⟨⟨m1, m2⟩, m3, m4, m5, m6⟩, m7⟩, m8⟩, m9⟩, m10⟩ := hm
  rw [hB]
  generalize hb : (bodyW m).1 = B at *
  have hbA : At B 0 B := ⟨by omega, by simp⟩
  have hq : ∀ q ∈ m.qs, q.wf ∧ may q.name = true := fun q h => ⟨hw.qs q h, m7 q h⟩
  have ha : ∀ r ∈ m.ans, r.wf ∧ recOk7 r = true := fun r h => ⟨hw.ans r h, m8 r h⟩
  have hu : ∀ r ∈ m.auth, r.wf ∧ recOk7 r = true := fun r h => ⟨hw.auth r h, m9 r h⟩
  have hx : ∀ r ∈ m.extra, r.wf ∧ recOk7 r = true := fun r h => ⟨hw.extra r h, m10 r h⟩
  -- the parts
  unfold bodyW at hb
  dsimp only at hb
  rw [seqW_append, seqW_append] at hb
  dsimp only at hb
  generalize hQ : seqW quW 12 m.qs [] = Q at hb
  generalize hA : seqW recW (12 + Q.1.length) m.ans Q.2 = A at hb
  generalize hU : seqW recW (12 + Q.1.length + A.1.length) m.auth A.2 = U at hb
  have hX0 : seqW recW (12 + Q.1.length + (A.1 ++ U.1).length) m.extra U.2 = seqW recW (12 + Q.1.length + A.1.length + U.1.length) m.extra U.2 := by rw [List.length_append, ← Nat.add_assoc]
  rw [hX0] at hb
  generalize hX : seqW recW (12 + Q.1.length + A.1.length + U.1.length) m.extra U.2 = X at hb
  generalize hO : (if m.he = true then ednsW m.ed else []) = O at hb
  have hb' : headW m ++ (Q.1 ++ (A.1 ++ (U.1 ++ (X.1 ++ O)))) = B := by rw [← hb]; simp
  have hbB : At B 0 (headW m ++ (Q.1 ++ (A.1 ++ (U.1 ++ (X.1 ++ O))))) := by rw [hb']; exact hbA
  have hBl : B.length = 12 + Q.1.length + A.1.length + U.1.length + X.1.length + O.length := by
    rw [← hb']
    simp only [List.length_append, headW, two_len]; omega
  have hhd := hbB.left
  have g0 := hbB.right
  rw [show 0 + (headW m).length = 12 by simp [headW, two_len]] at g0
  have gq := g0.left
  have g1 := g0.right
  have ga := g1.left
  have g2 := g1.right
  have gu := g2.left
  have g3 := g2.right
  have gx := g3.left
  have go := g3.right
  -- the head
  have hf := flags_lt hw.op hw.code m1
  unfold headW at hhd
  simp only [List.append_assoc] at hhd
  have p0 := hhd.left
  have q1 := hhd.right
  have p1 := q1.left
  have q2 := q1.right
  have p2 := q2.left
  have q3 := q2.right
  have p3 := q3.left
  have q4 := q3.right
  have p4 := q4.left
  have p5 := q4.right
  simp only [two_len, Nat.zero_add] at p0 p1 p2 p3 p4 p5
  obtain ⟨i1, i2⟩ := hw.id
  have k0 := n16_at p0 (by omega)
  have k1 := n16_at p1 hf
  have k2 := n16_at p2 (by omega)
  have k3 := n16_at p3 (by omega)
  have k4 := n16_at p4 (by omega)
  have k5 := n16_at p5 (by omega)
  rw [← hQ] at gq
  obtain ⟨r1, t1⟩ := qus_at m.qs 12 [] B hq (tabOk_nil _) gq
  rw [hQ] at r1 t1
  rw [← hA] at ga
  obtain ⟨r2, t2⟩ := recs_at false none m.ans (12 + Q.1.length) Q.2 B ha (by omega) t1 ga
  rw [hA] at r2 t2
  rw [← hU] at gu
  obtain ⟨r3, t3⟩ := recs_at false none m.auth (12 + Q.1.length + A.1.length) A.2 B hu (by omega) t2 gu
  rw [hU] at r3 t3
  rw [← hX] at gx
  obtain ⟨r4, t4⟩ := recs_at true none m.extra (12 + Q.1.length + A.1.length + U.1.length) U.2 B hx (by omega) t3 gx
  rw [hX] at r4 t4
  have hfr := from_flags i1 hw.op hw.code m1
  unfold decR bodyR
  rw [if_neg (by omega), if_neg (by omega), k0, k1, k2, k3, k4, k5, r1]
  dsimp only
  rw [r2]
  dsimp only
  rw [r3]
  dsimp only
  rw [hfr]
  by_cases hhe : m.he = true
  · rw [if_pos hhe] at hO
    rw [if_pos hhe, recsR_add, r4]
    dsimp only
    have ho := edns_at hw (pos := 12 + Q.1.length + A.1.length + U.1.length + X.1.length) (by rw [hO]; exact go) (show B.length ≤ 65535 by omega)
    simp only [recsR]
    rw [ho]
    dsimp only
    have em : (⟨m.hd, m.qs, m.ans, m.auth, m.extra ++ (none.toList ++ []), (some m.ed).isSome, (some m.ed).getD edNone⟩ : MsgD) = m := by
      obtain ⟨a1, a2, a3, a4, a5, a6, a7⟩ := m
      dsimp only at hhe
      subst hhe
      simp
    rw [em, if_neg (by rw [hO]; omega), if_pos he]
  · have hhe' : m.he = false := by simpa using hhe
    rw [if_neg hhe] at hO
    subst hO
    rw [if_neg hhe, Nat.add_zero, r4]
    dsimp only
    have hz : m.ed = edNone := by
      rcases m2 with h | h
      · exact absurd h hhe
      · unfold edZero at h
        simp only [Bool.and_eq_true, decide_eq_true_eq, List.isEmpty_iff] at h
        obtain ⟨⟨a1, a2, a3, a4⟩, a5⟩ := h
        generalize m.ed = E at a1 a2 a3 a4 a5
        obtain ⟨b1, b2, b3, b4, b5⟩ := E
        dsimp only at a1 a2 a3 a4 a5
        subst a1 a2 a3 a4 a5
        rfl
    have em : (⟨m.hd, m.qs, m.ans, m.auth, m.extra, (none : Option EdD).isSome, (none : Option EdD).getD edNone⟩ : MsgD) = m := by
      obtain ⟨a1, a2, a3, a4, a5, a6, a7⟩ := m
      dsimp only at hhe' hz
      subst hhe' hz
      rfl
    rw [em, if_neg (by rw [hBl]; simp), if_pos he]
end Go.Proofs.YtjmfpillnbnofaaDoor
namespace Go.Proofs.YtjmfpillnbnofaaDoor
set_option linter.unusedSimpArgs false
set_option linter.unusedVariables false

theorem be2_lt (d : List UInt8) (p : Nat) : be ((d.drop p).take 2) < 65536 := by
  have h := be_lt ((d.drop p).take 2)
  have : 256 ^ ((d.drop p).take 2).length ≤ 256 ^ 2 := Nat.pow_le_pow_right (by omega) (by rw [List.length_take]; omega)
  omega
theorem n16_lt (d : List UInt8) (p : Nat) : n16 d p < 65536 := be2_lt d p
theorem numR2_ok {msg : List UInt8} {pos v p : Nat} (h : numR 2 msg pos = .ok (v, p)) : v < 65536 := by
  unfold numR at h
  split at h
  · cases h
  · injection h with h; injection h with h1 h2
    subst h1; exact be2_lt msg pos
theorem numR4_ok {msg : List UInt8} {pos v p : Nat} (h : numR 4 msg pos = .ok (v, p)) : v < 4294967296 := by
  unfold numR at h
  split at h
  · cases h
  · injection h with h; injection h with h1 h2
    subst h1
    have h := be_lt ((msg.drop pos).take 4)
    have : 256 ^ ((msg.drop pos).take 4).length ≤ 256 ^ 4 := Nat.pow_le_pow_right (by omega) (by rw [List.length_take]; omega)
    omega
theorem quR_ok {msg : List UInt8} {pos p : Nat} {q : QD} (h : quR msg pos = .ok (q, p)) : q.wf := by
  unfold quR at h
  split at h
  · cases h
  · split at h
    · cases h
    · rename_i h1
      split at h
      · cases h
      · rename_i h2
        injection h with h; injection h with h3 h4
        have := numR2_ok h1
        have := numR2_ok h2
        subst h3
        exact ⟨⟨by simp, by simp; omega⟩, by simp, by simp; omega⟩
theorem qusR_ok {msg : List UInt8} : ∀ {k pos p : Nat} {l : List QD}, qusR msg k pos = .ok (l, p) → (∀ q ∈ l, q.wf) ∧ l.length = k
  | 0, pos, p, l, h => by
    unfold qusR at h
    injection h with h; injection h with h1 h2
    subst h1; simp
  | k + 1, pos, p, l, h => by
    unfold qusR at h
    split at h
    · cases h
    · rename_i h1
      split at h
      · cases h
      · rename_i h2
        injection h with h; injection h with h3 h4
        obtain ⟨i1, i2⟩ := qusR_ok h2
        subst h3
        refine ⟨fun q hq => ?_, by simp [i2]⟩
        rcases List.mem_cons.1 hq with rfl | hq
        · exact quR_ok h1
        · exact i1 q hq
structure EdD.wf (e : EdD) : Prop where
  size : 0 ≤ e.size ∧ e.size ≤ 65535
  ext : 0 ≤ e.ext ∧ e.ext ≤ 255
  ver : 0 ≤ e.ver ∧ e.ver ≤ 255
  flags : 0 ≤ e.flags ∧ e.flags ≤ 65535
  opts : ∀ o ∈ e.opts, 0 ≤ o.code ∧ o.code ≤ 65535
theorem optF_ok : ∀ (n : Nat) (d : List UInt8) (l : List OpD), optF n d = .ok l → ∀ o ∈ l, 0 ≤ o.code ∧ o.code ≤ 65535
  | 0, d, l, h => by
    unfold optF at h
    injection h with h; subst h; simp
  | n + 1, d, l, h => by
    unfold optF at h
    split at h
    · injection h with h; subst h; simp
    · split at h
      · cases h
      · split at h
        · cases h
        · split at h
          · cases h
          · rename_i h1
            injection h with h
            subst h
            intro o ho
            rcases List.mem_cons.1 ho with rfl | ho
            · have := be2_lt d 0
              rw [List.drop_zero] at this
              exact ⟨by simp, by simp; omega⟩
            · exact optF_ok n _ _ h1 o ho
theorem edR_ok {cls ttl : Nat} {d : List UInt8} {e : EdD} (h : edR cls ttl d = .ok e) (hc : cls < 65536) (ht : ttl < 4294967296) : e.wf := by
  unfold edR at h
  split at h
  · cases h
  · rename_i h1
    injection h with h
    subst h
    exact ⟨⟨by simp, by simp; omega⟩, ⟨by dsimp only; omega, by dsimp only; omega⟩, ⟨by dsimp only; omega, by dsimp only; omega⟩, ⟨by dsimp only; omega, by dsimp only; omega⟩, optF_ok _ _ _ h1⟩
theorem recR_ok {msg : List UInt8} {more : Bool} {ed ed' : Option EdD} {pos p : Nat} {r : Option RecD} (h : recR msg more ed pos = .ok (r, ed', p)) (he : ∀ e, ed = some e → e.wf) :
    (∀ x, r = some x → x.wf) ∧ (∀ e, ed' = some e → e.wf) := by
  unfold recR at h
  split at h
  · cases h
  split at h
  · cases h
  rename_i h1
  split at h
  · cases h
  rename_i h2
  split at h
  · cases h
  rename_i h3
  split at h
  · cases h
  have k1 := numR2_ok h1
  have k2 := numR2_ok h2
  have k3 := numR4_ok h3
  split at h
  · cases h
  split at h
  · split at h
    · cases h
    split at h
    · cases h
    rename_i h5
    injection h with h; injection h with e1 e2; injection e2 with e2 e3
    subst e1 e2
    refine ⟨by simp, fun e hx => ?_⟩
    injection hx with hx
    subst hx
    exact edR_ok h5 k2 k3
  · split at h
    · injection h with h; injection h with e1 e2; injection e2 with e2 e3
      subst e1 e2
      refine ⟨fun x hx => ?_, he⟩
      injection hx with hx
      subst hx
      exact ⟨⟨by simp, by simp; omega⟩, ⟨by simp, by simp; omega⟩, by simp, by simp; omega⟩
    · cases h
theorem recsR_ok {msg : List UInt8} {more : Bool} : ∀ {k : Nat} {ed ed' : Option EdD} {pos p : Nat} {l : List RecD}, recsR msg more k ed pos = .ok (l, ed', p) → (∀ e, ed = some e → e.wf) →
    (∀ x ∈ l, x.wf) ∧ (∀ e, ed' = some e → e.wf)
  | 0, ed, ed', pos, p, l, h, he => by
    unfold recsR at h
    injection h with h; injection h with e1 e2; injection e2 with e2 e3
    subst e1 e2
    exact ⟨by simp, he⟩
  | k + 1, ed, ed', pos, p, l, h, he => by
    unfold recsR at h
    split at h
    · cases h
    rename_i h1
    split at h
    · cases h
    rename_i h2
    injection h with h; injection h with e1 e2; injection e2 with e2 e3
    subst e1 e2
    obtain ⟨a1, a2⟩ := recR_ok h1 he
    obtain ⟨b1, b2⟩ := recsR_ok h2 a2
    refine ⟨fun x hx => ?_, b2⟩
    rcases List.mem_append.1 hx with hx | hx
    · rw [Option.mem_toList] at hx
      exact a1 x hx
    · exact b1 x hx
theorem bodyR_ok {msg : List UInt8} {m : MsgD} {p : Nat} (h : bodyR msg = .ok (m, p)) : m.wf ∧ m.hd = fromN (n16 msg 0) (n16 msg 2) ∧ (m.he = false → m.ed = edNone) := by
  unfold bodyR at h
  split at h
  · cases h
  rename_i h1
  split at h
  · cases h
  rename_i h2
  split at h
  · cases h
  rename_i h3
  split at h
  · cases h
  rename_i e3 p' h4
  injection h with h; injection h with e1 e2
  obtain ⟨q1, q2⟩ := qusR_ok h1
  obtain ⟨a1, a2⟩ := recsR_ok h2 (by simp)
  obtain ⟨b1, b2⟩ := recsR_ok h3 a2
  obtain ⟨c1, c2⟩ := recsR_ok h4 b2
  have hed : (e3.getD edNone).wf := by
    rcases hx : e3 with _ | e
    · exact ⟨⟨by decide, by decide⟩, ⟨by decide, by decide⟩, ⟨by decide, by decide⟩, ⟨by decide, by decide⟩, by simp [edNone]⟩
    · exact c2 e hx
  have := n16_lt msg 0
  have := n16_lt msg 2
  subst e1
  refine ⟨⟨⟨?_, ?_⟩, ?_, ?_, q1, a1, b1, c1, hed.size, hed.ext, hed.ver, hed.flags, hed.opts⟩, rfl, fun hf => ?_⟩
  · simp [fromN]
  · simp [fromN]; omega
  · simp [fromN]; omega
  · simp [fromN]; omega
  · dsimp only at hf ⊢
    rcases e3 with _ | e
    · rfl
    · simp at hf
/-- What holds of a message that is read. -/
theorem decR_ok {d : List UInt8} {m : MsgD} (h : decR d = .ok m) : m.wf ∧ encErr m = 0 ∧ m.hd = fromN (n16 d 0) (n16 d 2) ∧ (m.he = false → m.ed = edNone) ∧ 12 ≤ d.length ∧ d.length ≤ 65535 := by
  unfold decR at h
  split at h
  · cases h
  split at h
  · cases h
  split at h
  · cases h
  rename_i h1
  split at h
  · cases h
  split at h
  · rename_i h2
    injection h with h
    subst h
    obtain ⟨a, b, c⟩ := bodyR_ok h1
    exact ⟨a, h2, b, c, by omega, by omega⟩
  · cases h
theorem enc_may {m : MsgD} (h : encErr m = 0) : mayM m = true ∧ (bodyW m).1.length ≤ 65535 ∧ encOf m = (bodyW m).1 := by
  have h' := h
  unfold encErr at h'
  split at h'
  · rename_i h1
    split at h'
    · cases h'
    · exact ⟨h1, by omega, by unfold encOf; rw [if_pos h]⟩
  · cases h'
end Go.Proofs.YtjmfpillnbnofaaDoor
namespace Go.Proofs.YtjmfpillnbnofaaDoor
set_option linter.unusedSimpArgs false
set_option linter.unusedVariables false

structure CameD where
  kind : Int
  code : Int
  hd : HdD
  hasQ : Bool
  q : QD
  hasE : Bool
  size : Int
def hdNone : HdD := ⟨0, false, 0, false, false, false, false, false, false, false, 0⟩
def qNone : QD := ⟨[], 0, 0⟩
def cameDrop : CameD := ⟨1, 0, hdNone, false, qNone, false, 0⟩
def refusedQ (q : QD) : Bool := decide (q.cls ≠ 1 ∨ q.typ = 0 ∨ q.typ = 41 ∨ (249 ≤ q.typ ∧ q.typ ≤ 255))
def hdCame (h : HdD) : HdD := ⟨h.id, false, h.op, false, false, h.rd, false, false, false, h.cd, 0⟩
def lookM (h : HdD) (m : MsgD) : CameD :=
  match m.qs with
  | [q] => if m.ed.ver ≠ 0 then ⟨2, 16, hdCame h, true, q, m.he, m.ed.size⟩ else if refusedQ q = true then ⟨2, 5, hdCame h, true, q, m.he, m.ed.size⟩ else ⟨3, 0, hdCame h, true, q, m.he, m.ed.size⟩
  | _ => ⟨2, 1, hdCame h, false, qNone, m.he, m.ed.size⟩
def lookOf (d : List UInt8) : CameD :=
  if d.length < 12 then cameDrop
  else if (fromN (n16 d 0) (n16 d 2)).qr = true then cameDrop
  else if (fromN (n16 d 0) (n16 d 2)).op ≠ 0 then ⟨2, 4, hdCame (fromN (n16 d 0) (n16 d 2)), false, qNone, false, 0⟩
  else match decR d with
    | .error _ => ⟨2, 1, hdCame (fromN (n16 d 0) (n16 d 2)), false, qNone, false, 0⟩
    | .ok m => lookM (fromN (n16 d 0) (n16 d 2)) m
def blankOf (c : CameD) (code size : Int) : MsgD :=
  ⟨⟨c.hd.id, true, c.hd.op, false, false, c.hd.rd, true, false, false, c.hd.cd, code % 4096 % 16⟩, if c.hasQ = true then [c.q] else [], [], [], [], c.hasE, if c.hasE = true then ⟨size % 65536, code % 4096 / 16, 0, 0, []⟩ else edNone⟩
def roomOf (c : CameD) (most : Int) : Int := if c.hasE = true ∧ 512 < c.size ∧ 512 < most then min c.size most else 512
structure CameD.wf (c : CameD) : Prop where
  id : 0 ≤ c.hd.id ∧ c.hd.id ≤ 65535
  op : 0 ≤ c.hd.op ∧ c.hd.op ≤ 255
  q : c.q.wf
/-- What holds of what came. -/
structure LookOk (d : List UInt8) (c : CameD) : Prop where
  wf : c.wf
  kind : c.kind = 1 ∨ c.kind = 2 ∨ c.kind = 3
  hd : c.kind ≠ 1 → c.hd = hdCame (fromN (n16 d 0) (n16 d 2)) ∧ 12 ≤ d.length
  q : c.hasQ = true → may c.q.name = true
  size : 0 ≤ c.size ∧ c.size ≤ 65535
  none : c.hasE = false → c.size = 0
  code : c.kind = 2 → c.code = 1 ∨ c.code = 4 ∨ c.code = 5 ∨ (c.code = 16 ∧ c.hasE = true)
  asks : c.kind = 3 → c.hasQ = true ∧ refusedQ c.q = false ∧ c.hd.op = 0
theorem qNone_wf : qNone.wf := ⟨⟨by decide, by decide⟩, by decide, by decide⟩
theorem fromN_id (a b : Nat) (ha : a < 65536) (hb : b < 65536) : (0 ≤ (fromN a b).id ∧ (fromN a b).id ≤ 65535) ∧ 0 ≤ (fromN a b).op ∧ (fromN a b).op ≤ 15 := by
  unfold fromN
  dsimp only
  omega
theorem look_ok (d : List UInt8) : LookOk d (lookOf d) := by
  have hi := fromN_id (n16 d 0) (n16 d 2) (n16_lt d 0) (n16_lt d 2)
  unfold lookOf
  generalize hh : fromN (n16 d 0) (n16 d 2) = h at *
  have hw : ∀ (k c : Int) (q : QD) (b e : Bool) (s : Int), q.wf → (⟨k, c, hdCame h, b, q, e, s⟩ : CameD).wf := fun k c q b e s hq => ⟨hi.1, ⟨hi.2.1, by have := hi.2.2; show h.op ≤ 255; omega⟩, hq⟩
  have hdw : LookOk d cameDrop := ⟨⟨⟨by decide, by decide⟩, ⟨by decide, by decide⟩, qNone_wf⟩, .inl rfl, fun e => absurd rfl e, fun e => (by cases e), ⟨by decide, by decide⟩, fun _ => rfl, fun e => (by cases e), fun e => (by cases e)⟩
  split
  · exact hdw
  rename_i hl
  split
  · exact hdw
  split
  · exact ⟨hw _ _ _ _ _ _ qNone_wf, .inr (.inl rfl), fun _ => ⟨by rw [hh], by omega⟩, fun e => (by cases e), ⟨by show (0 : Int) ≤ 0; omega, by show (0 : Int) ≤ 65535; omega⟩, fun _ => rfl, fun _ => .inr (.inl rfl), fun e => (by cases e)⟩
  rename_i hop
  have hop' : h.op = 0 := Decidable.not_not.1 hop
  split
  · exact ⟨hw _ _ _ _ _ _ qNone_wf, .inr (.inl rfl), fun _ => ⟨by rw [hh], by omega⟩, fun e => (by cases e), ⟨by show (0 : Int) ≤ 0; omega, by show (0 : Int) ≤ 65535; omega⟩, fun _ => rfl, fun _ => .inl rfl, fun e => (by cases e)⟩
  rename_i m hm
  obtain ⟨d1, d2, d3, d4, d5, d6⟩ := decR_ok hm
  have hmay := (enc_may d2).1
  unfold mayM at hmay
  simp only [Bool.and_eq_true, decide_eq_true_eq, List.all_eq_true, Bool.or_eq_true] at hmay
  obtain ⟨⟨⟨⟨⟨⟨m1, m2⟩, m3, m4, m5, m6⟩, m7⟩, m8⟩, m9⟩, m10⟩ := hmay
  have hsz : m.he = false → m.ed.size = 0 := fun e => by rw [d4 e]; rfl
  have hver : m.he = false → m.ed.ver = 0 := fun e => by rw [d4 e]; rfl
  have hes := d1.size
  have hqs := d1.qs
  unfold lookM
  split
  · rename_i q hq
    have hqw : q.wf := hqs q (by rw [hq]; simp)
    have hqm : may q.name = true := m7 q (by rw [hq]; simp)
    split
    · rename_i hv
      have he : m.he = true := by
        cases e : m.he
        · exact absurd (hver e) hv
        · rfl
      exact ⟨hw _ _ _ _ _ _ hqw, .inr (.inl rfl), fun _ => ⟨by rw [hh], by omega⟩, fun _ => hqm, hes, hsz, fun _ => .inr (.inr (.inr ⟨rfl, he⟩)), fun e => (by cases e)⟩
    · split
      · exact ⟨hw _ _ _ _ _ _ hqw, .inr (.inl rfl), fun _ => ⟨by rw [hh], by omega⟩, fun _ => hqm, hes, hsz, fun _ => .inr (.inr (.inl rfl)), fun e => (by cases e)⟩
      · rename_i hr
        exact ⟨hw _ _ _ _ _ _ hqw, .inr (.inr rfl), fun _ => ⟨by rw [hh], by omega⟩, fun _ => hqm, hes, hsz, fun e => (by cases e), fun _ => ⟨rfl, by simpa using hr, hop'⟩⟩
  · exact ⟨hw _ _ _ _ _ _ qNone_wf, .inr (.inl rfl), fun _ => ⟨by rw [hh], by omega⟩, fun e => (by cases e), hes, hsz, fun _ => .inl rfl, fun e => (by cases e)⟩
theorem blank_wf {c : CameD} (hc : c.wf) (code size : Int) : (blankOf c code size).wf := by
  unfold blankOf
  refine ⟨hc.id, hc.op.1, ?_, ?_, by simp, by simp, by simp, ?_, ?_, ?_, ?_, ?_⟩
  · show 0 ≤ code % 4096 % 16; omega
  · intro q hq
    dsimp only at hq
    split at hq
    · rw [List.mem_singleton] at hq; subst hq; exact hc.q
    · cases hq
  all_goals
    dsimp only
    split
    · first
        | exact ⟨by dsimp only; omega, by dsimp only; omega⟩
        | simp
    · first
        | exact ⟨by decide, by decide⟩
        | simp [edNone]
theorem blank_may {c : CameD} (code size : Int) (ho : c.hd.op ≤ 15) (hq : c.hasQ = true → may c.q.name = true) : mayM (blankOf c code size) = true := by
  unfold blankOf mayM
  simp only [Bool.and_eq_true, decide_eq_true_eq, List.all_eq_true, Bool.or_eq_true]
  refine ⟨⟨⟨⟨⟨⟨?_, ?_⟩, ?_⟩, ?_⟩, by simp⟩, by simp⟩, by simp⟩
  · unfold hdOk; rw [decide_eq_true_eq]; dsimp only; omega
  · cases c.hasE
    · right; rfl
    · left; rfl
  · refine ⟨?_, by simp, by simp, ?_⟩
    · split <;> simp
    · dsimp only [List.length_nil]; split <;> omega
  · intro q h
    split at h
    · rename_i hh; rw [List.mem_singleton] at h; subst h; exact hq hh
    · cases h
theorem putF_len (cmp known : Bool) : ∀ (f pos : Nat) (n : List UInt8) (t : Tab), n.length < f → (parse n).isSome = true → (putF cmp known f pos n t).1.length ≤ n.length
  | 0, _, _, _, h, _ => absurd h (by omega)
  | f + 1, pos, [], t, _, _ => by simp [putF]
  | f + 1, pos, b :: r, t, hf, hp => by
    by_cases h0 : b = 0
    · subst h0; simp [putF]
    · obtain ⟨hb, hl, hp'⟩ := parseS0 h0 hp
      have h0' : b.toNat ≠ 0 := fun e => h0 (UInt8.toNat_inj.1 (by simpa using e))
      simp only [List.length_cons] at hf ⊢
      simp only [putF]
      rw [if_neg h0]
      split
      · simp only [ptrB_len]; omega
      · have := putF_len cmp known f (pos + (1 + b.toNat)) (r.drop b.toNat) (tabPut known (b :: r) pos t) (by rw [List.length_drop]; omega) hp'
        rw [List.length_drop] at this
        simp only [List.length_append, List.length_cons, List.length_take]
        omega
theorem putN_len (cmp known : Bool) (pos : Nat) {n : List UInt8} (t : Tab) (h : may n = true) : (putN cmp known pos n t).1.length ≤ 255 := by
  have := putF_len cmp known (n.length + 1) pos n t (by omega) (may_parse h)
  have := may_le h
  unfold putN
  omega
theorem head_len (m : MsgD) : (headW m).length = 12 := by simp [headW, two_len]
theorem blank_len {c : CameD} (code size : Int) (hq : c.hasQ = true → may c.q.name = true) (tc : Bool) : (bodyW { blankOf c code size with hd := { (blankOf c code size).hd with tc := tc } }).1.length ≤ 282 := by
  unfold bodyW
  dsimp only
  simp only [List.length_append, head_len]
  have h1 : ∀ l t, l = (blankOf c code size).qs → (seqW quW 12 l t).1.length ≤ 259 := fun l t hl => by
    unfold blankOf at hl
    dsimp only at hl
    split at hl
    · rename_i hh
      subst hl
      simp only [seqW, quW, List.append_nil, List.length_append, two_len]
      have := putN_len true true 12 t (hq hh)
      omega
    · subst hl; simp [seqW]
  have h1 := h1 _ [] rfl
  have h2 : ∀ p t, (seqW recW p ((blankOf c code size).ans ++ (blankOf c code size).auth ++ (blankOf c code size).extra) t).1.length = 0 := fun p t => by simp [blankOf, seqW]
  have h3 : (if (blankOf c code size).he = true then ednsW (blankOf c code size).ed else []).length ≤ 11 := by
    split
    · rename_i hh
      have : (blankOf c code size).ed.opts = [] := by
        unfold blankOf; dsimp only; split <;> rfl
      simp [ednsW, optW, this, two_len, four_len]
    · simp
  rw [h2]
  omega
/-- A blank reply is a message, and short. -/
theorem blank_enc {c : CameD} (code size : Int) (ho : c.hd.op ≤ 15) (hq : c.hasQ = true → may c.q.name = true) (tc : Bool) :
    encErr { blankOf c code size with hd := { (blankOf c code size).hd with tc := tc } } = 0 ∧ (encOf { blankOf c code size with hd := { (blankOf c code size).hd with tc := tc } }).length ≤ 282 := by
  have hm : mayM { blankOf c code size with hd := { (blankOf c code size).hd with tc := tc } } = true := blank_may (c := c) code size ho hq
  have hl := blank_len code size hq tc
  have he : encErr { blankOf c code size with hd := { (blankOf c code size).hd with tc := tc } } = 0 := by
    unfold encErr; rw [if_pos hm, if_neg (by omega)]
  exact ⟨he, by rw [(enc_may he).2.2]; exact hl⟩
/-- The first two bytes are the ID. -/
theorem enc_id {m : MsgD} (h : encErr m = 0) : 12 ≤ (encOf m).length ∧ (encOf m).take 2 = two m.hd.id.toNat := by
  rw [(enc_may h).2.2]
  unfold bodyW headW
  dsimp only
  refine ⟨by simp only [List.length_append, two_len]; omega, by simp [two]⟩
theorem data_id {d : List UInt8} (h : 12 ≤ d.length) : d.take 2 = two (n16 d 0) := by
  unfold n16
  rw [List.drop_zero]
  rcases d with _ | ⟨a, _ | ⟨b, d⟩⟩
  · simp at h
  · simp at h
  · have ha := a.toNat_lt
    have hb := b.toNat_lt
    simp only [List.take_succ_cons, List.take_zero, be, List.foldl_cons, List.foldl_nil, two]
    congr 1
    · apply UInt8.toNat_inj.1; rw [UInt8.toNat_ofNat']; omega
    · congr 1
      apply UInt8.toNat_inj.1; rw [UInt8.toNat_ofNat']; omega
end Go.Proofs.YtjmfpillnbnofaaDoor
