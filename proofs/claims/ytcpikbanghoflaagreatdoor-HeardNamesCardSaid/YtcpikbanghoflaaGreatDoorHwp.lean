/- Contracts of functions and plain lemmas that the proofs of this seat share (joined texts). No condition. -/
import Derived.Test.YtcpikbanghoflaaGreatDoorHa
import Derived.Test.YtcpikbanghoflaaGreatDoorHf
namespace Go.Proofs.YtcpikbanghoflaaGreatDoor
set_option linter.unusedSimpArgs false
set_option linter.unusedVariables false
abbrev Tab := List (List UInt8 × Nat)
def tabAt (t : Tab) (n : List UInt8) : Option Nat := (t.find? fun e => e.1 == n).map Prod.snd
def two (k : Nat) : List UInt8 := [UInt8.ofNat (k / 256), UInt8.ofNat k]
def four (k : Nat) : List UInt8 := [UInt8.ofNat (k / 16777216), UInt8.ofNat (k / 65536), UInt8.ofNat (k / 256), UInt8.ofNat k]
def ptrB (k : Nat) : List UInt8 := [UInt8.ofNat (192 + k / 256), UInt8.ofNat k]
theorem two_len (k : Nat) : (two k).length = 2 := rfl
theorem four_len (k : Nat) : (four k).length = 4 := rfl
theorem ptrB_len (k : Nat) : (ptrB k).length = 2 := rfl
def tabPut (known : Bool) (n : List UInt8) (pos : Nat) (t : Tab) : Tab := if known = true ∧ tabAt t n = none ∧ pos ≤ 16383 then t ++ [(n, pos)] else t
def putF (cmp known : Bool) : Nat → Nat → List UInt8 → Tab → List UInt8 × Tab
  | 0, _, n, t => (n, t)
  | _ + 1, _, [], t => ([], t)
  | f + 1, pos, b :: r, t =>
    if b = 0 then (b :: r, t)
    else if (tabAt t (b :: r)).isSome = true ∧ cmp = true then (ptrB ((tabAt t (b :: r)).getD 0), t)
    else (b :: r.take b.toNat ++ (putF cmp known f (pos + (1 + b.toNat)) (r.drop b.toNat) (tabPut known (b :: r) pos t)).1,
      (putF cmp known f (pos + (1 + b.toNat)) (r.drop b.toNat) (tabPut known (b :: r) pos t)).2)
def putN (cmp known : Bool) (pos : Nat) (n : List UInt8) (t : Tab) : List UInt8 × Tab := putF cmp known (n.length + 1) pos n t
theorem putF_fuel (cmp known : Bool) : ∀ (f g pos : Nat) (n : List UInt8) (t : Tab), n.length < f → n.length < g → putF cmp known f pos n t = putF cmp known g pos n t
  | 0, _, _, _, _, h, _ => absurd h (by omega)
  | f + 1, 0, _, _, _, _, h => absurd h (by omega)
  | f + 1, g + 1, pos, [], t, _, _ => rfl
  | f + 1, g + 1, pos, b :: r, t, h1, h2 => by
    simp only [List.length_cons] at h1 h2
    simp only [putF]
    rw [putF_fuel cmp known f g (pos + (1 + b.toNat)) (r.drop b.toNat) _ (by simp; omega) (by simp; omega)]
theorem putN_zero (cmp known : Bool) (pos : Nat) (r : List UInt8) (t : Tab) : putN cmp known pos (0 :: r) t = (0 :: r, t) := rfl
theorem putN_hit {cmp known : Bool} {pos : Nat} {b : UInt8} {r : List UInt8} {t : Tab} {k : Nat} (h0 : b ≠ 0) (ht : tabAt t (b :: r) = some k) (hc : cmp = true) : putN cmp known pos (b :: r) t = (ptrB k, t) := by
  unfold putN
  simp only [putF]
  rw [if_neg h0, if_pos ⟨by rw [ht]; rfl, hc⟩, ht]; rfl
theorem putN_step {cmp known : Bool} {pos : Nat} {b : UInt8} {r : List UInt8} {t : Tab} (h0 : b ≠ 0) (h : ¬ ((tabAt t (b :: r)).isSome = true ∧ cmp = true)) :
    putN cmp known pos (b :: r) t = (b :: r.take b.toNat ++ (putN cmp known (pos + (1 + b.toNat)) (r.drop b.toNat) (tabPut known (b :: r) pos t)).1,
      (putN cmp known (pos + (1 + b.toNat)) (r.drop b.toNat) (tabPut known (b :: r) pos t)).2) := by
  unfold putN
  conv => lhs; unfold putF
  rw [if_neg h0, if_neg h, putF_fuel cmp known _ ((r.drop b.toNat).length + 1) _ _ _ (by simp; omega) (by omega)]
theorem tabPut_far {known : Bool} {n : List UInt8} {pos : Nat} {t : Tab} (h : 16384 ≤ pos) : tabPut known n pos t = t := by
  unfold tabPut; rw [if_neg (by omega)]
theorem putF_far (cmp known : Bool) : ∀ (f p q : Nat) (n : List UInt8) (t : Tab), 16384 ≤ p → 16384 ≤ q → putF cmp known f p n t = putF cmp known f q n t
  | 0, _, _, _, _, _, _ => rfl
  | _ + 1, _, _, [], _, _, _ => rfl
  | f + 1, p, q, b :: r, t, h1, h2 => by
    simp only [putF]
    rw [tabPut_far h1, tabPut_far h2, putF_far cmp known f (p + (1 + b.toNat)) (q + (1 + b.toNat)) _ _ (by omega) (by omega)]
theorem putN_base (cmp known : Bool) (p : Nat) (n : List UInt8) (t : Tab) : putN cmp known (min p 16384) n t = putN cmp known p n t := by
  by_cases h : p ≤ 16384
  · rw [Nat.min_eq_left h]
  · exact putF_far _ _ _ _ _ _ _ (by omega) (by omega)
def partsW (cmp : Bool) : Nat → List (List UInt8 × Bool) → Tab → List UInt8 × Tab
  | _, [], t => ([], t)
  | pos, (x, nm) :: l, t =>
    if nm = true then ((putN cmp cmp pos x t).1 ++ (partsW cmp (pos + (putN cmp cmp pos x t).1.length) l (putN cmp cmp pos x t).2).1, (partsW cmp (pos + (putN cmp cmp pos x t).1.length) l (putN cmp cmp pos x t).2).2)
    else (x ++ (partsW cmp (pos + x.length) l t).1, (partsW cmp (pos + x.length) l t).2)
theorem partsW_far (cmp : Bool) : ∀ (p q : Nat) (l : List (List UInt8 × Bool)) (t : Tab), 16384 ≤ p → 16384 ≤ q → partsW cmp p l t = partsW cmp q l t
  | _, _, [], _, _, _ => rfl
  | p, q, (x, nm) :: l, t, h1, h2 => by
    have e : putN cmp cmp p x t = putN cmp cmp q x t := putF_far _ _ _ _ _ _ _ h1 h2
    simp only [partsW]
    rw [e, partsW_far cmp (p + (putN cmp cmp q x t).1.length) (q + (putN cmp cmp q x t).1.length) l _ (by omega) (by omega), partsW_far cmp (p + x.length) (q + x.length) l t (by omega) (by omega)]
theorem partsW_base (cmp : Bool) (p : Nat) (l : List (List UInt8 × Bool)) (t : Tab) : partsW cmp (min p 16384) l t = partsW cmp p l t := by
  by_cases h : p ≤ 16384
  · rw [Nat.min_eq_left h]
  · exact partsW_far _ _ _ _ _ (by omega) (by omega)
def cmpOf (kind : Int) : Bool := decide (kind = 2 ∨ kind = 5 ∨ kind = 6 ∨ kind = 12 ∨ kind = 15)
def dataW (pos : Nat) (kind : Int) (d : List UInt8) (t : Tab) : List UInt8 × Tab := partsW (cmpOf kind) pos ((partsOf kind d).map fun p => (p.text, p.nm)) t
structure QD where
  name : List UInt8
  typ : Int
  cls : Int
structure HdD where
  id : Int
  qr : Bool
  op : Int
  aa : Bool
  tc : Bool
  rd : Bool
  ra : Bool
  z : Bool
  ad : Bool
  cd : Bool
  code : Int
structure OpD where
  code : Int
  data : List UInt8
structure EdD where
  size : Int
  ext : Int
  ver : Int
  flags : Int
  opts : List OpD
structure MsgD where
  hd : HdD
  qs : List QD
  ans : List RecD
  auth : List RecD
  extra : List RecD
  he : Bool
  ed : EdD
def bitN (b : Bool) (n : Nat) : Nat := if b then n else 0
def flagsOf (h : HdD) : Nat := bitN h.qr 32768 + h.op.toNat * 2048 + bitN h.aa 1024 + bitN h.tc 512 + bitN h.rd 256 + bitN h.ra 128 + bitN h.z 64 + bitN h.ad 32 + bitN h.cd 16 + h.code.toNat
def hdOk (h : HdD) : Bool := decide (h.op ≤ 15 ∧ h.code ≤ 15)
def edZero (e : EdD) : Bool := decide (e.size = 0 ∧ e.ext = 0 ∧ e.ver = 0 ∧ e.flags = 0) && e.opts.isEmpty
def recOk7 (r : RecD) : Bool := decide (r.typ ≠ 41) && may r.name && rmay r.typ r.data
def mayM (m : MsgD) : Bool :=
  hdOk m.hd && (m.he || edZero m.ed) && decide (m.qs.length ≤ 65535 ∧ m.ans.length ≤ 65535 ∧ m.auth.length ≤ 65535 ∧ m.extra.length + (if m.he then 1 else 0) ≤ 65535) &&
  m.qs.all (fun q => may q.name) && m.ans.all recOk7 && m.auth.all recOk7 && m.extra.all recOk7
def headW (m : MsgD) : List UInt8 := two m.hd.id.toNat ++ two (flagsOf m.hd) ++ two m.qs.length ++ two m.ans.length ++ two m.auth.length ++ two (m.extra.length + if m.he then 1 else 0)
def quW (pos : Nat) (q : QD) (t : Tab) : List UInt8 × Tab := ((putN true true pos q.name t).1 ++ (two q.typ.toNat ++ two q.cls.toNat), (putN true true pos q.name t).2)
def recW (pos : Nat) (r : RecD) (t : Tab) : List UInt8 × Tab :=
  let a := putN true true pos r.name t
  let f := two r.typ.toNat ++ two r.cls.toNat ++ four r.ttl.toNat
  let d := dataW (pos + a.1.length + 10) r.typ r.data a.2
  (a.1 ++ f ++ two d.1.length ++ d.1, d.2)
def seqW {α : Type} (f : Nat → α → Tab → List UInt8 × Tab) : Nat → List α → Tab → List UInt8 × Tab
  | _, [], t => ([], t)
  | pos, x :: l, t => ((f pos x t).1 ++ (seqW f (pos + (f pos x t).1.length) l (f pos x t).2).1, (seqW f (pos + (f pos x t).1.length) l (f pos x t).2).2)
theorem seqW_append {α : Type} (f : Nat → α → Tab → List UInt8 × Tab) : ∀ (pos : Nat) (a b : List α) (t : Tab),
    seqW f pos (a ++ b) t = ((seqW f pos a t).1 ++ (seqW f (pos + (seqW f pos a t).1.length) b (seqW f pos a t).2).1, (seqW f (pos + (seqW f pos a t).1.length) b (seqW f pos a t).2).2)
  | pos, [], b, t => by simp [seqW]
  | pos, x :: a, b, t => by
    simp only [List.cons_append, seqW]
    rw [seqW_append f _ a b _]
    simp [Nat.add_assoc]
def optW (e : EdD) : List UInt8 := e.opts.flatMap fun o => two o.code.toNat ++ two o.data.length ++ o.data
def optTtl (e : EdD) : Nat := e.ext.toNat * 16777216 + e.ver.toNat * 65536 + e.flags.toNat
def ednsW (e : EdD) : List UInt8 := [0] ++ two 41 ++ two e.size.toNat ++ four (optTtl e) ++ two (optW e).length ++ optW e
def bodyW (m : MsgD) : List UInt8 × Tab :=
  let q := seqW quW 12 m.qs []
  let r := seqW recW (12 + q.1.length) (m.ans ++ m.auth ++ m.extra) q.2
  (headW m ++ q.1 ++ r.1 ++ (if m.he then ednsW m.ed else []), r.2)
def encErr (m : MsgD) : Nat := if mayM m = true then (if 65535 < (bodyW m).1.length then 5 else 0) else 3
def encOf (m : MsgD) : List UInt8 := if encErr m = 0 then (bodyW m).1 else []
def TabNd (t : Tab) : Prop := (t.map Prod.fst).Nodup ∧ ∀ e ∈ t, e.1.length ≤ 255 ∧ e.2 ≤ 16383
theorem tabNd_nil : TabNd [] := ⟨List.nodup_nil, by simp⟩
theorem tabAt_not {t : Tab} {n : List UInt8} (h : tabAt t n = none) : n ∉ t.map Prod.fst := by
  unfold tabAt at h
  rw [Option.map_eq_none_iff, List.find?_eq_none] at h
  intro hm
  obtain ⟨e, he, rfl⟩ := List.mem_map.1 hm
  exact h e he (by simp)
theorem tabNd_put {known : Bool} {n : List UInt8} {pos : Nat} {t : Tab} (h : TabNd t) (hn : n.length ≤ 255) : TabNd (tabPut known n pos t) := by
  unfold tabPut
  split
  · rename_i hc
    refine ⟨?_, fun e he => ?_⟩
    · rw [List.map_append, List.nodup_append]
      exact ⟨h.1, by simp, fun a ha b hb => by
        simp at hb; subst hb
        intro e; subst e
        exact tabAt_not hc.2.1 ha⟩
    · rcases List.mem_append.1 he with hx | hx
      · exact h.2 e hx
      · rw [List.mem_singleton] at hx; subst hx; exact ⟨hn, hc.2.2⟩
  · exact h
theorem tabAt_le {t : Tab} (h : TabNd t) {n : List UInt8} : (tabAt t n).getD 0 ≤ 16383 := by
  rcases hf : tabAt t n with _ | k
  · exact Nat.zero_le _
  · unfold tabAt at hf
    rw [Option.map_eq_some_iff] at hf
    obtain ⟨e, h1, rfl⟩ := hf
    exact (h.2 e (List.mem_of_find?_eq_some h1)).2
def EntryOk (pre s : List UInt8) (p : Nat) : Prop :=
  p ≤ 16383 ∧ p < pre.length ∧ ∀ (ext : List UInt8) (lim k : Nat) (out : List UInt8), p ≤ lim → out.length + s.length ≤ 255 → readS (pre ++ ext) ⟨p, lim, some k, out⟩ = (out ++ s, k, 0)
theorem EntryOk.more {pre s : List UInt8} {p : Nat} (h : EntryOk pre s p) (x : List UInt8) : EntryOk (pre ++ x) s p :=
  ⟨h.1, by have := h.2.1; simp; omega, fun ext lim k out hl ho => by rw [List.append_assoc]; exact h.2.2 (x ++ ext) lim k out hl ho⟩
theorem parseZ0 {r : List UInt8} (h : (parse (0 :: r)).isSome = true) : r = [] := by
  rw [parse_cons, if_pos rfl] at h
  by_cases e : r = []
  · exact e
  · rw [if_neg e] at h; simp at h
theorem parseS0 {b : UInt8} {r : List UInt8} (h0 : b ≠ 0) (h : (parse (b :: r)).isSome = true) : b.toNat < 64 ∧ b.toNat < r.length ∧ (parse (r.drop b.toNat)).isSome = true := by
  rw [parse_cons, if_neg h0] at h
  by_cases h1 : 63 < b.toNat
  · rw [if_pos h1] at h; simp at h
  · rw [if_neg h1, Option.isSome_map] at h
    refine ⟨by omega, ?_, h⟩
    rcases Nat.lt_or_ge b.toNat r.length with h2 | h2
    · exact h2
    · rw [List.drop_of_length_le h2] at h; simp [parse_nil] at h
def nameR (msg : List UInt8) (pos : Nat) : Except Nat (List UInt8 × Nat) := if (readN msg pos).2.2 = 0 then .ok ((readN msg pos).1, (readN msg pos).2.1) else .error (readN msg pos).2.2
def numR (k : Nat) (msg : List UInt8) (pos : Nat) : Except Nat (Nat × Nat) := if msg.length < pos + k then .error 4 else .ok (be ((msg.drop pos).take k), pos + k)
def quR (msg : List UInt8) (pos : Nat) : Except Nat (QD × Nat) :=
  match nameR msg pos with
  | .error e => .error e
  | .ok (n, p) => match numR 2 msg p with
    | .error e => .error e
    | .ok (t, p) => match numR 2 msg p with
      | .error e => .error e
      | .ok (c, p) => .ok (⟨n, t, c⟩, p)
def qusR (msg : List UInt8) : Nat → Nat → Except Nat (List QD × Nat)
  | 0, pos => .ok ([], pos)
  | k + 1, pos => match quR msg pos with
    | .error e => .error e
    | .ok (q, p) => match qusR msg k p with
      | .error e => .error e
      | .ok (l, p) => .ok (q :: l, p)
def optF : Nat → List UInt8 → Except Nat (List OpD)
  | 0, _ => .ok []
  | n + 1, d =>
    if d = [] then .ok []
    else if d.length < 4 then .error 4
    else if d.length < 4 + be ((d.drop 2).take 2) then .error 4
    else match optF n (d.drop (4 + be ((d.drop 2).take 2))) with
      | .error e => .error e
      | .ok l => .ok (⟨be (d.take 2), (d.drop 4).take (be ((d.drop 2).take 2))⟩ :: l)
def optR (d : List UInt8) : Except Nat (List OpD) := optF (d.length + 1) d
def edR (cls ttl : Nat) (d : List UInt8) : Except Nat EdD := match optR d with
  | .error e => .error e
  | .ok l => .ok ⟨cls, (ttl / 16777216 : Nat), (ttl / 65536 % 256 : Nat), (ttl % 65536 : Nat), l⟩
def recR (msg : List UInt8) (more : Bool) (ed : Option EdD) (pos : Nat) : Except Nat (Option RecD × Option EdD × Nat) :=
  match nameR msg pos with
  | .error e => .error e
  | .ok (n, p) => match numR 2 msg p with
    | .error e => .error e
    | .ok (ty, p) => match numR 2 msg p with
      | .error e => .error e
      | .ok (cl, p) => match numR 4 msg p with
        | .error e => .error e
        | .ok (tt, p) => match numR 2 msg p with
          | .error e => .error e
          | .ok (sz, p) =>
            if msg.length < p + sz then .error 4
            else if ty = 41 then
              (if more = false ∨ ed.isSome = true ∨ n ≠ [0] then .error 3
               else match edR cl tt ((msg.drop p).take sz) with
                | .error e => .error e
                | .ok x => .ok (none, some x, p + sz))
            else if (splitOf (msg.take (p + sz)) p ty).2 = 0 then .ok (some ⟨n, ty, cl, tt, textOf (splitOf (msg.take (p + sz)) p ty).1⟩, ed, p + sz)
            else .error (splitOf (msg.take (p + sz)) p ty).2
def recsR (msg : List UInt8) (more : Bool) : Nat → Option EdD → Nat → Except Nat (List RecD × Option EdD × Nat)
  | 0, ed, pos => .ok ([], ed, pos)
  | k + 1, ed, pos => match recR msg more ed pos with
    | .error e => .error e
    | .ok (r, ed, p) => match recsR msg more k ed p with
      | .error e => .error e
      | .ok (l, ed, p) => .ok (r.toList ++ l, ed, p)
def fromN (id n : Nat) : HdD := ⟨id, decide (n / 32768 = 1), (n / 2048 % 16 : Nat), decide (n / 1024 % 2 = 1), decide (n / 512 % 2 = 1), decide (n / 256 % 2 = 1), decide (n / 128 % 2 = 1), decide (n / 64 % 2 = 1), decide (n / 32 % 2 = 1), decide (n / 16 % 2 = 1), (n % 16 : Nat)⟩
def edNone : EdD := ⟨0, 0, 0, 0, []⟩
def n16 (msg : List UInt8) (at_ : Nat) : Nat := be ((msg.drop at_).take 2)
def bodyR (msg : List UInt8) : Except Nat (MsgD × Nat) :=
  match qusR msg (n16 msg 4) 12 with
  | .error e => .error e
  | .ok (qs, p) => match recsR msg false (n16 msg 6) none p with
    | .error e => .error e
    | .ok (a, e1, p) => match recsR msg false (n16 msg 8) e1 p with
      | .error e => .error e
      | .ok (u, e2, p) => match recsR msg true (n16 msg 10) e2 p with
        | .error e => .error e
        | .ok (x, e3, p) => .ok (⟨fromN (n16 msg 0) (n16 msg 2), qs, a, u, x, e3.isSome, e3.getD edNone⟩, p)
def decR (msg : List UInt8) : Except Nat MsgD :=
  if 65535 < msg.length then .error 5
  else if msg.length < 12 then .error 4
  else match bodyR msg with
    | .error e => .error e
    | .ok (m, p) => if p < msg.length then .error 5 else if encErr m = 0 then .ok m else .error (encErr m)
def At (msg : List UInt8) (pos : Nat) (x : List UInt8) : Prop := pos + x.length ≤ msg.length ∧ (msg.drop pos).take x.length = x
theorem At.take {msg x : List UInt8} {pos : Nat} (h : At msg pos x) : msg.take (pos + x.length) = msg.take pos ++ x := by
  rw [List.take_add, h.2]
theorem At.all {msg x : List UInt8} {pos : Nat} (h : At msg pos x) : msg.take pos ++ x ++ msg.drop (pos + x.length) = msg := by
  rw [← h.take, List.take_append_drop]
theorem At.left {msg x y : List UInt8} {pos : Nat} (h : At msg pos (x ++ y)) : At msg pos x := by
  obtain ⟨h1, h2⟩ := h
  rw [List.length_append] at h1 h2
  refine ⟨by omega, ?_⟩
  have := congrArg (List.take x.length) h2
  rw [List.take_take, Nat.min_eq_left (by omega), List.take_left] at this
  exact this
theorem At.right {msg x y : List UInt8} {pos : Nat} (h : At msg pos (x ++ y)) : At msg (pos + x.length) y := by
  obtain ⟨h1, h2⟩ := h
  rw [List.length_append] at h1 h2
  refine ⟨by omega, ?_⟩
  have := congrArg (List.drop x.length) h2
  rw [List.drop_take, List.drop_drop, List.drop_left] at this
  rw [show x.length + y.length - x.length = y.length by omega] at this
  exact this
theorem At.nil (msg : List UInt8) {pos : Nat} (h : pos ≤ msg.length) : At msg pos [] := ⟨by simpa using h, by simp⟩
theorem runChk_1 {c : Chk} (h : c.kind = 1) (msg : List UInt8) (pos : Nat) : runChk c msg pos = if (readN msg pos).2.2 ≠ 0 then (Pc.zero, (readN msg pos).2.2) else (⟨(readN msg pos).1, true, (readN msg pos).2.1⟩, 0) := by
  obtain ⟨k, n⟩ := c; dsimp only at h; subst h; rfl
def pcT (p : Pc) : List UInt8 × Bool := (p.text, p.nm)
theorem pcT_def : (fun p : Pc => (p.text, p.nm)) = pcT := rfl
theorem split_whole {k : Int} {d : List UInt8} (h : rmay k d = true) : k ≠ 41 ∧ splitL (checksOf k) d 0 = (partsOf k d, 0) ∧ textOf (partsOf k d) = d := by
  unfold rmay wholeOf at h
  unfold partsOf wholeOf
  split at h
  · rename_i hc
    rw [if_pos hc, Option.getD_some]
    obtain ⟨h1, h2⟩ := hc
    unfold splitOf at h1 h2 ⊢
    by_cases hk : k = 41
    · rw [if_pos hk] at h1; cases h1
    · rw [if_neg hk] at h1 h2
      rw [if_neg hk]
      exact ⟨hk, Prod.ext rfl h1, h2⟩
  · cases h
def QD.wf (q : QD) : Prop := (0 ≤ q.typ ∧ q.typ ≤ 65535) ∧ (0 ≤ q.cls ∧ q.cls ≤ 65535)
def RecD.wf (r : RecD) : Prop := (0 ≤ r.typ ∧ r.typ ≤ 65535) ∧ (0 ≤ r.cls ∧ r.cls ≤ 65535) ∧ (0 ≤ r.ttl ∧ r.ttl ≤ 4294967295)
structure MsgD.wf (m : MsgD) : Prop where
  id : 0 ≤ m.hd.id ∧ m.hd.id ≤ 65535
  op : 0 ≤ m.hd.op
  code : 0 ≤ m.hd.code
  qs : ∀ q ∈ m.qs, q.wf
  ans : ∀ r ∈ m.ans, r.wf
  auth : ∀ r ∈ m.auth, r.wf
  extra : ∀ r ∈ m.extra, r.wf
  size : 0 ≤ m.ed.size ∧ m.ed.size ≤ 65535
  ext : 0 ≤ m.ed.ext ∧ m.ed.ext ≤ 255
  ver : 0 ≤ m.ed.ver ∧ m.ed.ver ≤ 255
  flags : 0 ≤ m.ed.flags ∧ m.ed.flags ≤ 65535
  opts : ∀ o ∈ m.ed.opts, 0 ≤ o.code ∧ o.code ≤ 65535
theorem bitN_val (b : Bool) (k : Nat) : ∃ v, v ≤ 1 ∧ bitN b k = v * k ∧ decide (v = 1) = b := by
  cases b
  · exact ⟨0, by omega, by simp [bitN], rfl⟩
  · exact ⟨1, by omega, by simp [bitN], rfl⟩
theorem flags_lt {h : HdD} (h1 : 0 ≤ h.op) (h2 : 0 ≤ h.code) (ho : hdOk h = true) : flagsOf h < 65536 := by
  unfold hdOk at ho
  rw [decide_eq_true_eq] at ho
  unfold flagsOf
  obtain ⟨a1, a2, a3, _⟩ := bitN_val h.qr 32768
  obtain ⟨b1, b2, b3, _⟩ := bitN_val h.aa 1024
  obtain ⟨c1, c2, c3, _⟩ := bitN_val h.tc 512
  obtain ⟨d1, d2, d3, _⟩ := bitN_val h.rd 256
  obtain ⟨e1, e2, e3, _⟩ := bitN_val h.ra 128
  obtain ⟨f1, f2, f3, _⟩ := bitN_val h.z 64
  obtain ⟨g1, g2, g3, _⟩ := bitN_val h.ad 32
  obtain ⟨i1, i2, i3, _⟩ := bitN_val h.cd 16
  rw [a3, b3, c3, d3, e3, f3, g3, i3]
  omega
theorem be2_lt (d : List UInt8) (p : Nat) : be ((d.drop p).take 2) < 65536 := by
  have h := be_lt ((d.drop p).take 2)
  have : 256 ^ ((d.drop p).take 2).length ≤ 256 ^ 2 := Nat.pow_le_pow_right (by omega) (by rw [List.length_take]; omega)
  omega
theorem n16_lt (d : List UInt8) (p : Nat) : n16 d p < 65536 := be2_lt d p
theorem numR2_ok {msg : List UInt8} {pos v p : Nat} (h : numR 2 msg pos = .ok (v, p)) : v < 65536 := by
  unfold numR at h
  split at h
  · cases h
  · injection h with h; injection h with h1 h2
    subst h1; exact be2_lt msg pos
theorem numR4_ok {msg : List UInt8} {pos v p : Nat} (h : numR 4 msg pos = .ok (v, p)) : v < 4294967296 := by
  unfold numR at h
  split at h
  · cases h
  · injection h with h; injection h with h1 h2
    subst h1
    have h := be_lt ((msg.drop pos).take 4)
    have : 256 ^ ((msg.drop pos).take 4).length ≤ 256 ^ 4 := Nat.pow_le_pow_right (by omega) (by rw [List.length_take]; omega)
    omega
theorem quR_ok {msg : List UInt8} {pos p : Nat} {q : QD} (h : quR msg pos = .ok (q, p)) : q.wf := by
  unfold quR at h
  split at h
  · cases h
  · split at h
    · cases h
    · rename_i h1
      split at h
      · cases h
      · rename_i h2
        injection h with h; injection h with h3 h4
        have := numR2_ok h1
        have := numR2_ok h2
        subst h3
        exact ⟨⟨by simp, by simp; omega⟩, by simp, by simp; omega⟩
theorem qusR_ok {msg : List UInt8} : ∀ {k pos p : Nat} {l : List QD}, qusR msg k pos = .ok (l, p) → (∀ q ∈ l, q.wf) ∧ l.length = k
  | 0, pos, p, l, h => by
    unfold qusR at h
    injection h with h; injection h with h1 h2
    subst h1; simp
  | k + 1, pos, p, l, h => by
    unfold qusR at h
    split at h
    · cases h
    · rename_i h1
      split at h
      · cases h
      · rename_i h2
        injection h with h; injection h with h3 h4
        obtain ⟨i1, i2⟩ := qusR_ok h2
        subst h3
        refine ⟨fun q hq => ?_, by simp [i2]⟩
        rcases List.mem_cons.1 hq with rfl | hq
        · exact quR_ok h1
        · exact i1 q hq
structure EdD.wf (e : EdD) : Prop where
  size : 0 ≤ e.size ∧ e.size ≤ 65535
  ext : 0 ≤ e.ext ∧ e.ext ≤ 255
  ver : 0 ≤ e.ver ∧ e.ver ≤ 255
  flags : 0 ≤ e.flags ∧ e.flags ≤ 65535
  opts : ∀ o ∈ e.opts, 0 ≤ o.code ∧ o.code ≤ 65535
theorem optF_ok : ∀ (n : Nat) (d : List UInt8) (l : List OpD), optF n d = .ok l → ∀ o ∈ l, 0 ≤ o.code ∧ o.code ≤ 65535
  | 0, d, l, h => by
    unfold optF at h
    injection h with h; subst h; simp
  | n + 1, d, l, h => by
    unfold optF at h
    split at h
    · injection h with h; subst h; simp
    · split at h
      · cases h
      · split at h
        · cases h
        · split at h
          · cases h
          · rename_i h1
            injection h with h
            subst h
            intro o ho
            rcases List.mem_cons.1 ho with rfl | ho
            · have := be2_lt d 0
              rw [List.drop_zero] at this
              exact ⟨by simp, by simp; omega⟩
            · exact optF_ok n _ _ h1 o ho
theorem edR_ok {cls ttl : Nat} {d : List UInt8} {e : EdD} (h : edR cls ttl d = .ok e) (hc : cls < 65536) (ht : ttl < 4294967296) : e.wf := by
  unfold edR at h
  split at h
  · cases h
  · rename_i h1
    injection h with h
    subst h
    exact ⟨⟨by simp, by simp; omega⟩, ⟨by dsimp only; omega, by dsimp only; omega⟩, ⟨by dsimp only; omega, by dsimp only; omega⟩, ⟨by dsimp only; omega, by dsimp only; omega⟩, optF_ok _ _ _ h1⟩
theorem recR_ok {msg : List UInt8} {more : Bool} {ed ed' : Option EdD} {pos p : Nat} {r : Option RecD} (h : recR msg more ed pos = .ok (r, ed', p)) (he : ∀ e, ed = some e → e.wf) :
    (∀ x, r = some x → x.wf) ∧ (∀ e, ed' = some e → e.wf) := by
  unfold recR at h
  split at h
  · cases h
  split at h
  · cases h
  rename_i h1
  split at h
  · cases h
  rename_i h2
  split at h
  · cases h
  rename_i h3
  split at h
  · cases h
  have k1 := numR2_ok h1
  have k2 := numR2_ok h2
  have k3 := numR4_ok h3
  split at h
  · cases h
  split at h
  · split at h
    · cases h
    split at h
    · cases h
    rename_i h5
    injection h with h; injection h with e1 e2; injection e2 with e2 e3
    subst e1 e2
    refine ⟨by simp, fun e hx => ?_⟩
    injection hx with hx
    subst hx
    exact edR_ok h5 k2 k3
  · split at h
    · injection h with h; injection h with e1 e2; injection e2 with e2 e3
      subst e1 e2
      refine ⟨fun x hx => ?_, he⟩
      injection hx with hx
      subst hx
      exact ⟨⟨by simp, by simp; omega⟩, ⟨by simp, by simp; omega⟩, by simp, by simp; omega⟩
    · cases h
theorem recsR_ok {msg : List UInt8} {more : Bool} : ∀ {k : Nat} {ed ed' : Option EdD} {pos p : Nat} {l : List RecD}, recsR msg more k ed pos = .ok (l, ed', p) → (∀ e, ed = some e → e.wf) →
    (∀ x ∈ l, x.wf) ∧ (∀ e, ed' = some e → e.wf)
  | 0, ed, ed', pos, p, l, h, he => by
    unfold recsR at h
    injection h with h; injection h with e1 e2; injection e2 with e2 e3
    subst e1 e2
    exact ⟨by simp, he⟩
  | k + 1, ed, ed', pos, p, l, h, he => by
    unfold recsR at h
    split at h
    · cases h
    rename_i h1
    split at h
    · cases h
    rename_i h2
    injection h with h; injection h with e1 e2; injection e2 with e2 e3
    subst e1 e2
    obtain ⟨a1, a2⟩ := recR_ok h1 he
    obtain ⟨b1, b2⟩ := recsR_ok h2 a2
    refine ⟨fun x hx => ?_, b2⟩
    rcases List.mem_append.1 hx with hx | hx
    · rw [Option.mem_toList] at hx
      exact a1 x hx
    · exact b1 x hx
theorem bodyR_ok {msg : List UInt8} {m : MsgD} {p : Nat} (h : bodyR msg = .ok (m, p)) : m.wf ∧ m.hd = fromN (n16 msg 0) (n16 msg 2) ∧ (m.he = false → m.ed = edNone) := by
  unfold bodyR at h
  split at h
  · cases h
  rename_i h1
  split at h
  · cases h
  rename_i h2
  split at h
  · cases h
  rename_i h3
  split at h
  · cases h
  rename_i e3 p' h4
  injection h with h; injection h with e1 e2
  obtain ⟨q1, q2⟩ := qusR_ok h1
  obtain ⟨a1, a2⟩ := recsR_ok h2 (by simp)
  obtain ⟨b1, b2⟩ := recsR_ok h3 a2
  obtain ⟨c1, c2⟩ := recsR_ok h4 b2
  have hed : (e3.getD edNone).wf := by
    rcases hx : e3 with _ | e
    · exact ⟨⟨by decide, by decide⟩, ⟨by decide, by decide⟩, ⟨by decide, by decide⟩, ⟨by decide, by decide⟩, by simp [edNone]⟩
    · exact c2 e hx
  have := n16_lt msg 0
  have := n16_lt msg 2
  subst e1
  refine ⟨⟨⟨?_, ?_⟩, ?_, ?_, q1, a1, b1, c1, hed.size, hed.ext, hed.ver, hed.flags, hed.opts⟩, rfl, fun hf => ?_⟩
  · simp [fromN]
  · simp [fromN]; omega
  · simp [fromN]; omega
  · simp [fromN]; omega
  · dsimp only at hf ⊢
    rcases e3 with _ | e
    · rfl
    · simp at hf
theorem decR_ok {d : List UInt8} {m : MsgD} (h : decR d = .ok m) : m.wf ∧ encErr m = 0 ∧ m.hd = fromN (n16 d 0) (n16 d 2) ∧ (m.he = false → m.ed = edNone) ∧ 12 ≤ d.length ∧ d.length ≤ 65535 := by
  unfold decR at h
  split at h
  · cases h
  split at h
  · cases h
  split at h
  · cases h
  rename_i h1
  split at h
  · cases h
  split at h
  · rename_i h2
    injection h with h
    subst h
    obtain ⟨a, b, c⟩ := bodyR_ok h1
    exact ⟨a, h2, b, c, by omega, by omega⟩
  · cases h
theorem enc_may {m : MsgD} (h : encErr m = 0) : mayM m = true ∧ (bodyW m).1.length ≤ 65535 ∧ encOf m = (bodyW m).1 := by
  have h' := h
  unfold encErr at h'
  split at h'
  · rename_i h1
    split at h'
    · cases h'
    · exact ⟨h1, by omega, by unfold encOf; rw [if_pos h]⟩
  · cases h'
structure CameD where
  kind : Int
  code : Int
  hd : HdD
  hasQ : Bool
  q : QD
  hasE : Bool
  size : Int
def blankOf (c : CameD) (code size : Int) : MsgD :=
  ⟨⟨c.hd.id, true, c.hd.op, false, false, c.hd.rd, true, false, false, c.hd.cd, code % 4096 % 16⟩, if c.hasQ = true then [c.q] else [], [], [], [], c.hasE, if c.hasE = true then ⟨size % 65536, code % 4096 / 16, 0, 0, []⟩ else edNone⟩
def roomOf (c : CameD) (most : Int) : Int := if c.hasE = true ∧ 512 < c.size ∧ 512 < most then min c.size most else 512
structure CameD.wf (c : CameD) : Prop where
  id : 0 ≤ c.hd.id ∧ c.hd.id ≤ 65535
  op : 0 ≤ c.hd.op ∧ c.hd.op ≤ 255
  q : c.q.wf
theorem putF_len (cmp known : Bool) : ∀ (f pos : Nat) (n : List UInt8) (t : Tab), n.length < f → (parse n).isSome = true → (putF cmp known f pos n t).1.length ≤ n.length
  | 0, _, _, _, h, _ => absurd h (by omega)
  | f + 1, pos, [], t, _, _ => by simp [putF]
  | f + 1, pos, b :: r, t, hf, hp => by
    by_cases h0 : b = 0
    · subst h0; simp [putF]
    · obtain ⟨hb, hl, hp'⟩ := parseS0 h0 hp
      have h0' : b.toNat ≠ 0 := fun e => h0 (UInt8.toNat_inj.1 (by simpa using e))
      simp only [List.length_cons] at hf ⊢
      simp only [putF]
      rw [if_neg h0]
      split
      · simp only [ptrB_len]; omega
      · have := putF_len cmp known f (pos + (1 + b.toNat)) (r.drop b.toNat) (tabPut known (b :: r) pos t) (by rw [List.length_drop]; omega) hp'
        rw [List.length_drop] at this
        simp only [List.length_append, List.length_cons, List.length_take]
        omega
theorem putN_len (cmp known : Bool) (pos : Nat) {n : List UInt8} (t : Tab) (h : may n = true) : (putN cmp known pos n t).1.length ≤ 255 := by
  have := putF_len cmp known (n.length + 1) pos n t (by omega) (may_parse h)
  have := may_le h
  unfold putN
  omega
end Go.Proofs.YtcpikbanghoflaaGreatDoor
