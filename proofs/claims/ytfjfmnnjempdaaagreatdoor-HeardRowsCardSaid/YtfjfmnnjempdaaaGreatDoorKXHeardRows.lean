/- Plain lemmas that this claim wants beyond the pruned texts. No condition. -/
import Derived.Test.YtfjfmnnjempdaaaGreatDoorKa
import Derived.Test.YtfjfmnnjempdaaaGreatDoorKb
import Derived.Test.YtfjfmnnjempdaaaGreatDoorKc
import Derived.Test.YtfjfmnnjempdaaaGreatDoorKd
import Derived.Test.YtfjfmnnjempdaaaGreatDoorKe
import Derived.Test.YtfjfmnnjempdaaaGreatDoorKf
import Derived.Test.YtfjfmnnjempdaaaGreatDoorKg
import Derived.Test.YtfjfmnnjempdaaaGreatDoorKq
import Derived.Test.YtfjfmnnjempdaaaGreatDoorKht
import Derived.Test.YtfjfmnnjempdaaaGreatDoorKwp
import Derived.Test.YtfjfmnnjempdaaaGreatDoorKwm
import Derived.Test.YtfjfmnnjempdaaaGreatDoorKwx
import Derived.Test.YtfjfmnnjempdaaaGreatDoorKwy
import Derived.Test.YtfjfmnnjempdaaaGreatDoorKhx
import Derived.Test.YtfjfmnnjempdaaaGreatDoorKrx
import Derived.Test.YtfjfmnnjempdaaaGreatDoorKpc
import Derived.Test.YtfjfmnnjempdaaaGreatDoorKh0
import Derived.Test.YtfjfmnnjempdaaaGreatDoorKh
import Derived.Test.YtfjfmnnjempdaaaGreatDoorKi
import Derived.Test.YtfjfmnnjempdaaaGreatDoorKj
import Derived.Test.YtfjfmnnjempdaaaGreatDoorKs
import Derived.Test.YtfjfmnnjempdaaaGreatDoorKu0
import Derived.Test.YtfjfmnnjempdaaaGreatDoorKu
import Derived.Test.YtfjfmnnjempdaaaGreatDoorKv
import Derived.Test.YtfjfmnnjempdaaaGreatDoorKhd
import Derived.Test.YtfjfmnnjempdaaaGreatDoorKhq
namespace Go.Proofs.YtfjfmnnjempdaaaGreatDoor
set_option linter.unusedSimpArgs false
set_option linter.unusedVariables false
open Go.RowKit
def TabOk (pre : List UInt8) (t : Tab) : Prop := ∀ e ∈ t, EntryOk pre e.1 e.2
theorem tabOk_nil (pre : List UInt8) : TabOk pre [] := fun e he => by cases he
theorem tabAt_mem {t : Tab} {n : List UInt8} {k : Nat} (h : tabAt t n = some k) : (n, k) ∈ t := by
  unfold tabAt at h
  rcases hf : t.find? fun e => e.1 == n with _ | e
  · rw [hf] at h; simp at h
  · rw [hf] at h
    have h1 := List.find?_some hf
    have h2 := List.mem_of_find?_eq_some hf
    simp at h h1
    subst h1; subst h
    exact h2
theorem ptrB_get {k : Nat} (h : k ≤ 16383) : ∃ a c : UInt8, ptrB k = [a, c] ∧ a.toNat = 192 + k / 256 ∧ c.toNat = k % 256 :=
  ⟨_, _, rfl, by rw [UInt8.toNat_ofNat']; omega, by rw [UInt8.toNat_ofNat']⟩
theorem putF_read (cmp known : Bool) (N0 : Nat) : ∀ (f : Nat) (pre n : List UInt8) (t0 t1 : Tab), n.length < f → (parse n).isSome = true → n.length ≤ 255 → N0 ≤ pre.length →
    (∀ e ∈ t0, EntryOk pre e.1 e.2 ∧ e.2 < N0) → (∀ e ∈ t1, n.length < e.1.length) →
    (∀ (ext : List UInt8) (lim : Nat) (nx : Option Nat) (out : List UInt8), N0 ≤ lim → out.length + n.length ≤ 255 →
      readS (pre ++ (putF cmp known f pre.length n (t0 ++ t1)).1 ++ ext) ⟨pre.length, lim, nx, out⟩ = (out ++ n, nx.getD (pre.length + (putF cmp known f pre.length n (t0 ++ t1)).1.length), 0)) ∧
    (∃ t2, (putF cmp known f pre.length n (t0 ++ t1)).2 = t0 ++ t1 ++ t2 ∧ ∀ e ∈ t2, EntryOk (pre ++ (putF cmp known f pre.length n (t0 ++ t1)).1) e.1 e.2)
  | 0, _, _, _, _, h, _, _, _, _, _ => absurd h (by omega)
  | f + 1, pre, [], t0, t1, _, hp, _, _, _, _ => by simp [parse_nil] at hp
  | f + 1, pre, b :: r, t0, t1, hf, hp, h255, hN, ht0, ht1 => by
    have hget : ∀ (x ext : List UInt8), (pre ++ (b :: x) ++ ext)[pre.length]? = some b := fun x ext => by simp
    by_cases h0 : b = 0
    · subst h0
      have hr := parseZ0 hp
      subst hr
      have e : putF cmp known (f + 1) pre.length [0] (t0 ++ t1) = ([0], t0 ++ t1) := by simp [putF]
      rw [e]
      refine ⟨fun ext lim nx out hl ho => ?_, [], by simp, by simp⟩
      rw [readS_zero _ _ (hget [] ext)]
      rfl
    · have h0' : b.toNat ≠ 0 := fun e => h0 (UInt8.toNat_inj.1 (by simpa using e))
      obtain ⟨hb, hbl, hp'⟩ := parseS0 h0 hp
      simp only [List.length_cons] at hf h255 ht1
      by_cases hh : (tabAt (t0 ++ t1) (b :: r)).isSome = true ∧ cmp = true
      · obtain ⟨k, hk⟩ := Option.isSome_iff_exists.1 hh.1
        have e : putF cmp known (f + 1) pre.length (b :: r) (t0 ++ t1) = (ptrB k, t0 ++ t1) := by
          simp only [putF]; rw [if_neg h0, if_pos hh, hk]; rfl
        have hm : (b :: r, k) ∈ t0 := by
          rcases List.mem_append.1 (tabAt_mem hk) with h | h
          · exact h
          · have := ht1 _ h; simp at this
        obtain ⟨hok, hkN⟩ := ht0 _ hm
        dsimp only at hok hkN
        obtain ⟨a, c, e2, ha, hc⟩ := ptrB_get hok.1
        rw [e, e2]
        refine ⟨fun ext lim nx out hl ho => ?_, [], by simp, by simp⟩
        have g1 : (pre ++ [a, c] ++ ext)[pre.length]? = some a := by simp
        have g2 : (pre ++ [a, c] ++ ext)[pre.length + 1]? = some c := by simp
        have hk16 := hok.1
        have hto : (a.toNat - 192) * 256 + c.toNat = k := by omega
        rw [readS_jump _ _ a (by exact g1) (by omega) (by omega) c (by exact g2) (by dsimp only; omega)]
        dsimp only
        rw [hto, List.append_assoc, hok.2.2 ([a, c] ++ ext) k _ out (Nat.le_refl _) (by simpa using ho)]
        rfl
      · have hlk : (r.take b.toNat).length = b.toNat := by rw [List.length_take]; omega
        have e : putF cmp known (f + 1) pre.length (b :: r) (t0 ++ t1) = (b :: r.take b.toNat ++ (putF cmp known f (pre.length + (1 + b.toNat)) (r.drop b.toNat) (tabPut known (b :: r) pre.length (t0 ++ t1))).1,
            (putF cmp known f (pre.length + (1 + b.toNat)) (r.drop b.toNat) (tabPut known (b :: r) pre.length (t0 ++ t1))).2) := by
          simp only [putF]; rw [if_neg h0, if_neg hh]
        obtain ⟨t1', e1, hl1, hnew⟩ : ∃ t1', tabPut known (b :: r) pre.length (t0 ++ t1) = t0 ++ t1' ∧ (∀ e ∈ t1', (r.drop b.toNat).length < e.1.length) ∧ (t1' = t1 ∨ (t1' = t1 ++ [(b :: r, pre.length)] ∧ pre.length ≤ 16383)) := by
          unfold tabPut
          split
          · rename_i hc
            refine ⟨t1 ++ [(b :: r, pre.length)], by rw [List.append_assoc], fun e he => ?_, .inr ⟨rfl, hc.2.2⟩⟩
            rcases List.mem_append.1 he with h | h
            · have := ht1 e h; rw [List.length_drop]; omega
            · rw [List.mem_singleton] at h; subst h; simp [List.length_drop]; omega
          · exact ⟨t1, rfl, fun e he => by have := ht1 e he; rw [List.length_drop]; omega, .inl rfl⟩
        have hpl : (pre ++ b :: r.take b.toNat).length = pre.length + (1 + b.toNat) := by rw [List.length_append, List.length_cons, hlk]; omega
        obtain ⟨I1, t2, I2, I3⟩ := putF_read cmp known N0 f (pre ++ b :: r.take b.toNat) (r.drop b.toNat) t0 t1' (by rw [List.length_drop]; omega) hp' (by rw [List.length_drop]; omega) (by omega)
          (fun e he => ⟨(ht0 e he).1.more _, (ht0 e he).2⟩) hl1
        rw [hpl] at I1 I2 I3
        rw [e, e1]
        generalize putF cmp known f (pre.length + (1 + b.toNat)) (r.drop b.toNat) (t0 ++ t1') = R at *
        dsimp only
        have main : ∀ (ext : List UInt8) (lim : Nat) (nx : Option Nat) (out : List UInt8), N0 ≤ lim → out.length + (b :: r).length ≤ 255 →
            readS (pre ++ (b :: r.take b.toNat ++ R.1) ++ ext) ⟨pre.length, lim, nx, out⟩ = (out ++ b :: r, nx.getD (pre.length + (b :: r.take b.toNat ++ R.1).length), 0) := fun ext lim nx out hl ho => by
          simp only [List.length_cons] at ho
          have em : pre ++ (b :: r.take b.toNat ++ R.1) ++ ext = pre ++ b :: r.take b.toNat ++ R.1 ++ ext := by simp
          have hd : ((pre ++ b :: r.take b.toNat ++ R.1 ++ ext).drop (pre.length + 1)).take b.toNat = r.take b.toNat := by
            rw [List.append_assoc, List.append_assoc, List.drop_append, List.drop_of_length_le (by omega), List.nil_append, show pre.length + 1 - pre.length = 1 by omega]
            show ((r.take b.toNat ++ (R.1 ++ ext))).take b.toNat = _
            rw [List.take_append, List.take_of_length_le (by omega), show b.toNat - (r.take b.toNat).length = 0 by omega, List.take_zero, List.append_nil]
          rw [em, readS_label _ _ b (by show (pre ++ b :: r.take b.toNat ++ R.1 ++ ext)[pre.length]? = some b; simp) h0' hb (by dsimp only; simp only [List.length_append, List.length_cons, hlk]; omega) (by dsimp only; omega)]
          dsimp only
          rw [hd, show pre.length + 1 + b.toNat = pre.length + (1 + b.toNat) by omega, I1 ext lim nx (out ++ b :: r.take b.toNat) hl (by rw [List.length_append, List.length_cons, hlk, List.length_drop]; omega)]
          have e3 : out ++ b :: r.take b.toNat ++ r.drop b.toNat = out ++ b :: r := by rw [List.append_assoc, List.cons_append, List.take_append_drop]
          rw [e3, List.length_append, List.length_cons, hlk, show pre.length + (1 + b.toNat) + R.1.length = pre.length + (b.toNat + 1 + R.1.length) by omega]
        have eR : pre ++ (b :: r.take b.toNat ++ R.1) = pre ++ b :: r.take b.toNat ++ R.1 := by simp
        refine ⟨main, ?_⟩
        rcases hnew with rfl | ⟨rfl, h16⟩
        · exact ⟨t2, I2, fun e he => by rw [eR]; exact I3 e he⟩
        · refine ⟨(b :: r, pre.length) :: t2, by rw [I2]; simp, fun e he => ?_⟩
          rcases List.mem_cons.1 he with rfl | he
          · refine ⟨h16, by simp, fun ext lim k out hl ho => ?_⟩
            exact main ext lim (some k) out (by omega) ho
          · rw [eR]; exact I3 e he
/-- A name that is written is read, and the table stays good. -/
theorem putN_read (cmp known : Bool) {pre n : List UInt8} {t : Tab} (hn : may n = true) (ht : TabOk pre t) :
    (∀ ext, readN (pre ++ (putN cmp known pre.length n t).1 ++ ext) pre.length = (n, pre.length + (putN cmp known pre.length n t).1.length, 0)) ∧ TabOk (pre ++ (putN cmp known pre.length n t).1) (putN cmp known pre.length n t).2 := by
  have h := putF_read cmp known pre.length (n.length + 1) pre n t [] (by omega) (may_parse hn) (may_le hn) (Nat.le_refl _) (fun e he => ⟨ht e he, (ht e he).2.1⟩) (by simp)
  rw [List.append_nil] at h
  obtain ⟨h1, t2, h2, h3⟩ := h
  refine ⟨fun ext => ?_, fun e he => ?_⟩
  · exact h1 ext pre.length none [] (Nat.le_refl _) (by simpa using may_le hn)
  · unfold putN at he
    rw [h2] at he
    rcases List.mem_append.1 he with h | h
    · exact (ht e h).more _
    · exact h3 e h
theorem be_two {k : Nat} (h : k < 65536) : be (two k) = k := by
  unfold be two
  simp only [List.foldl_cons, List.foldl_nil, UInt8.toNat_ofNat']
  omega
theorem be_four {k : Nat} (h : k < 4294967296) : be (four k) = k := by
  unfold be four
  simp only [List.foldl_cons, List.foldl_nil, UInt8.toNat_ofNat']
  omega
theorem num_at {msg x : List UInt8} {pos k : Nat} (h : At msg pos x) (hk : x.length = k) : numR k msg pos = .ok (be x, pos + k) := by
  subst hk
  unfold numR
  rw [if_neg (by have := h.1; omega), h.2]
theorem two_at {msg : List UInt8} {pos v : Nat} (h : At msg pos (two v)) (hv : v < 65536) : numR 2 msg pos = .ok (v, pos + 2) := by rw [num_at (k := 2) h rfl, be_two hv]
theorem four_at {msg : List UInt8} {pos v : Nat} (h : At msg pos (four v)) (hv : v < 4294967296) : numR 4 msg pos = .ok (v, pos + 4) := by rw [num_at (k := 4) h rfl, be_four hv]
theorem readN_at {cmp known : Bool} {msg n : List UInt8} {pos : Nat} {t : Tab} (hn : may n = true) (ht : TabOk (msg.take pos) t) (h : At msg pos (putN cmp known pos n t).1) :
    readN msg pos = (n, pos + (putN cmp known pos n t).1.length, 0) ∧ TabOk (msg.take (pos + (putN cmp known pos n t).1.length)) (putN cmp known pos n t).2 := by
  have hl : (msg.take pos).length = pos := by rw [List.length_take]; have := h.1; omega
  have h1 := putN_read cmp known hn ht
  rw [hl] at h1
  refine ⟨?_, by rw [h.take]; exact h1.2⟩
  have := h1.1 (msg.drop (pos + (putN cmp known pos n t).1.length))
  rw [h.all] at this
  exact this
theorem name_at {cmp known : Bool} {msg n : List UInt8} {pos : Nat} {t : Tab} (hn : may n = true) (ht : TabOk (msg.take pos) t) (h : At msg pos (putN cmp known pos n t).1) :
    nameR msg pos = .ok (n, pos + (putN cmp known pos n t).1.length) := by
  unfold nameR
  rw [(readN_at hn ht h).1]; rfl
theorem runChk_0 {c : Chk} (h : c.kind = 0) (msg : List UInt8) (pos : Nat) : runChk c msg pos = if msg.length - pos < c.n then (Pc.zero, 4) else (⟨(msg.drop pos).take c.n, false, pos + c.n⟩, 0) := by
  obtain ⟨k, n⟩ := c; dsimp only at h; subst h; rfl
theorem runChk_2 {c : Chk} (h : c.kind = 2) (msg : List UInt8) (pos : Nat) : runChk c msg pos = if textsOk (msg.drop pos) then (⟨msg.drop pos, false, msg.length⟩, 0) else (Pc.zero, 4) := by
  obtain ⟨k, n⟩ := c; dsimp only at h; subst h; rfl
/-- The last check alone may go to the end. -/
def lastOk : List Chk → Prop
  | [] => True
  | c :: cs => (2 ≤ c.kind → cs = []) ∧ lastOk cs
theorem checks_last (k : Int) : lastOk (checksOf k) := by
  unfold checksOf
  repeat' (first | split | (simp [lastOk]))
theorem parts_read (c : Bool) : ∀ (cs : List Chk) (d : List UInt8) (pd : Nat) (pcs : List Pc) (msg : List UInt8) (pos : Nat) (t : Tab), lastOk cs → splitL cs d pd = (pcs, 0) → TabOk (msg.take pos) t →
    At msg pos (partsW c pos (pcs.map pcT) t).1 → msg.length = pos + (partsW c pos (pcs.map pcT) t).1.length →
    (splitL cs msg pos).2 = 0 ∧ (splitL cs msg pos).1.map pcT = pcs.map pcT ∧ TabOk (msg.take (pos + (partsW c pos (pcs.map pcT) t).1.length)) (partsW c pos (pcs.map pcT) t).2
  | [], d, pd, pcs, msg, pos, t, _, hs, ht, ha, hl => by
    unfold splitL at hs
    split at hs
    · cases hs
    · injection hs with hs _
      subst hs
      simp only [List.map_nil, partsW, List.length_nil, Nat.add_zero] at hl ⊢
      unfold splitL
      rw [if_neg (by omega)]
      exact ⟨rfl, rfl, ht⟩
  | k :: cs, d, pd, pcs, msg, pos, t, hlo, hs, ht, ha, hl => by
    unfold splitL at hs
    split at hs
    · rename_i hne
      injection hs with _ hs
      exact absurd hs hne
    · rename_i h0
      split at hs
      · rename_i hne
        injection hs with _ hs
        exact absurd hs hne
      · rename_i h1
        injection hs with hs _
        have h0' := Decidable.not_not.1 h0
        have h1' := Decidable.not_not.1 h1
        have hrest : splitL cs d (runChk k d pd).1.next = ((splitL cs d (runChk k d pd).1.next).1, 0) := by rw [← h1']
        generalize hp : (runChk k d pd).1 = p at *
        generalize (splitL cs d p.next).1 = pcs' at *
        subst hs
        -- what is asked of the check in the message
        have main : ∀ (x : List UInt8) (t' : Tab), (partsW c pos ((p :: pcs').map pcT) t) = (x ++ (partsW c (pos + x.length) (pcs'.map pcT) t').1, (partsW c (pos + x.length) (pcs'.map pcT) t').2) →
            (At msg pos x → TabOk (msg.take (pos + x.length)) t' ∧ runChk k msg pos = (⟨p.text, p.nm, pos + x.length⟩, 0)) →
            (splitL (k :: cs) msg pos).2 = 0 ∧ (splitL (k :: cs) msg pos).1.map pcT = (p :: pcs').map pcT ∧ TabOk (msg.take (pos + (partsW c pos ((p :: pcs').map pcT) t).1.length)) (partsW c pos ((p :: pcs').map pcT) t).2 := fun x t' he hx => by
          rw [he] at ha hl ⊢
          dsimp only at ha hl ⊢
          obtain ⟨h3, h4⟩ := hx ha.left
          rw [List.length_append] at hl ⊢
          obtain ⟨g1, g2, g3⟩ := parts_read c cs d p.next pcs' msg (pos + x.length) t' hlo.2 hrest h3 ha.right (by omega)
          have e : splitL (k :: cs) msg pos = (⟨p.text, p.nm, pos + x.length⟩ :: (splitL cs msg (pos + x.length)).1, 0) := by
            conv => lhs; unfold splitL
            rw [h4]
            rw [if_neg (by simp), if_neg (by simp [g1])]
          rw [e]
          refine ⟨rfl, ?_, by rw [← Nat.add_assoc]; exact g3⟩
          rw [List.map_cons, List.map_cons, g2]; rfl
        have plain : p.nm = false → (partsW c pos ((p :: pcs').map pcT) t) = (p.text ++ (partsW c (pos + p.text.length) (pcs'.map pcT) t).1, (partsW c (pos + p.text.length) (pcs'.map pcT) t).2) := fun hf => by
          rw [List.map_cons]; show partsW c pos ((p.text, p.nm) :: _) t = _
          simp only [partsW]; rw [if_neg (by rw [hf]; simp)]
        have tab : ∀ x, At msg pos x → TabOk (msg.take (pos + x.length)) t := fun x hx e he => by rw [hx.take]; exact (ht e he).more _
        -- a check that goes to the end
        have toEnd : 2 ≤ k.kind → p.nm = false → (∀ y : List UInt8, At msg pos y → msg.length = pos + y.length → y = p.text → runChk k msg pos = (⟨y, false, msg.length⟩, 0)) →
            (splitL (k :: cs) msg pos).2 = 0 ∧ (splitL (k :: cs) msg pos).1.map pcT = (p :: pcs').map pcT ∧ TabOk (msg.take (pos + (partsW c pos ((p :: pcs').map pcT) t).1.length)) (partsW c pos ((p :: pcs').map pcT) t).2 := fun h2 hf hr => by
          have hcs := hlo.1 h2
          subst hcs
          have hp' : pcs' = [] := by
            unfold splitL at hrest
            split at hrest
            · cases hrest
            · injection hrest with h _; exact h.symm
          subst hp'
          have e : (partsW c pos ([p].map pcT) t) = (p.text, t) := by
            rw [plain hf]
            simp [partsW]
          rw [e] at ha hl
          have := hr p.text ha hl rfl
          refine main p.text t (plain hf) (fun hx => ⟨tab _ hx, ?_⟩)
          rw [this, hf, hl]
        by_cases k0 : k.kind = 0
        · have e0 := runChk_0 k0 d pd
          by_cases hn : d.length - pd < k.n
          · rw [e0, if_pos hn] at h0'; cases h0'
          · rw [e0, if_neg hn] at hp
            have hpt : p.text = (d.drop pd).take k.n := by rw [← hp]
            have hpn : p.nm = false := by rw [← hp]
            have hlen : p.text.length = k.n := by rw [hpt, List.length_take, List.length_drop]; omega
            refine main p.text t (plain hpn) (fun hx => ⟨tab _ hx, ?_⟩)
            rw [runChk_0 k0]
            have hx1 := hx.1
            have hx2 := hx.2
            rw [hlen] at hx1 hx2
            rw [if_neg (by omega), hx2, hpn, hlen]
        · by_cases k1 : k.kind = 1
          · have e1 := runChk_1 k1 d pd
            by_cases hn : (readN d pd).2.2 ≠ 0
            · rw [e1, if_pos hn] at h0'; exact absurd h0' hn
            · rw [e1, if_neg hn] at hp
              have hpt : p.text = (readN d pd).1 := by rw [← hp]
              have hpn : p.nm = true := by rw [← hp]
              have hm : may p.text = true := by rw [hpt]; exact readN_valid (Decidable.not_not.1 hn)
              refine main (putN c c pos p.text t).1 (putN c c pos p.text t).2 ?_ (fun hx => ?_)
              · rw [List.map_cons]; show partsW c pos ((p.text, p.nm) :: _) t = _
                simp only [partsW]; rw [if_pos hpn]
              · obtain ⟨r1, r2⟩ := readN_at hm ht hx
                refine ⟨r2, ?_⟩
                rw [runChk_1 k1, r1]
                dsimp only
                rw [if_neg (by simp), hpn]
          · by_cases k2 : k.kind = 2
            · have e2 := runChk_2 k2 d pd
              by_cases hn : textsOk (d.drop pd) = true
              · rw [e2, if_pos hn] at hp
                have hpt : p.text = d.drop pd := by rw [← hp]
                refine toEnd (by omega) (by rw [← hp]) (fun y hy hyl hye => ?_)
                rw [runChk_2 k2]
                have h2 := hy.2
                rw [List.take_of_length_le (by rw [List.length_drop]; omega)] at h2
                rw [h2, if_pos (by rw [hye, hpt]; exact hn)]
              · rw [e2, if_neg hn] at h0'; cases h0'
            · have e3 : ∀ (m : List UInt8) (q : Nat), runChk k m q = (⟨m.drop q, false, m.length⟩, 0) := fun m q => by
                unfold runChk
                split
                · rename_i h; exact absurd h k0
                · rename_i h; exact absurd h k1
                · rename_i h; exact absurd h k2
                · rfl
              rw [e3] at hp
              refine toEnd (by omega) (by rw [← hp]) (fun y hy hyl hye => ?_)
              rw [e3]
              have h2 := hy.2
              rw [List.take_of_length_le (by rw [List.length_drop]; omega)] at h2
              rw [h2]
theorem textOf_map (l : List Pc) : textOf l = (l.map pcT).flatMap Prod.fst := by
  unfold textOf
  rw [List.flatMap_map]; rfl
/-- Data that are written are read. -/
theorem data_at {k : Int} {d : List UInt8} (hd : rmay k d = true) {msg : List UInt8} {pos : Nat} {t : Tab} (ht : TabOk (msg.take pos) t) (h : At msg pos (dataW pos k d t).1) :
    (splitOf (msg.take (pos + (dataW pos k d t).1.length)) pos k).2 = 0 ∧ textOf (splitOf (msg.take (pos + (dataW pos k d t).1.length)) pos k).1 = d ∧ TabOk (msg.take (pos + (dataW pos k d t).1.length)) (dataW pos k d t).2 := by
  obtain ⟨h1, h2, h3⟩ := split_whole hd
  have hl := h.1
  have e : dataW pos k d t = partsW (cmpOf k) pos ((partsOf k d).map pcT) t := rfl
  rw [e] at h hl ⊢
  generalize hW : partsW (cmpOf k) pos ((partsOf k d).map pcT) t = W at *
  have e1 : (msg.take (pos + W.1.length)).take pos = msg.take pos := by rw [List.take_take, Nat.min_eq_left (by omega)]
  have e2 : (msg.take (pos + W.1.length)).length = pos + W.1.length := by rw [List.length_take]; omega
  have e3 : At (msg.take (pos + W.1.length)) pos W.1 := by
    refine ⟨by omega, ?_⟩
    rw [List.drop_take, List.take_take, show min W.1.length (pos + W.1.length - pos) = W.1.length by omega]
    exact h.2
  obtain ⟨g1, g2, g3⟩ := parts_read (cmpOf k) (checksOf k) d 0 (partsOf k d) (msg.take (pos + W.1.length)) pos t (checks_last k) h2 (by rw [e1]; exact ht) (by rw [hW]; exact e3) (by rw [hW]; exact e2)
  rw [hW] at g3
  unfold splitOf
  rw [if_neg h1]
  refine ⟨g1, by rw [textOf_map, g2, ← textOf_map]; exact h3, ?_⟩
  rw [List.take_of_length_le (by omega)] at g3
  exact g3
theorem tab_app {msg x : List UInt8} {pos : Nat} {t : Tab} (ht : TabOk (msg.take pos) t) (hx : At msg pos x) : TabOk (msg.take (pos + x.length)) t := fun e he => by rw [hx.take]; exact (ht e he).more _
theorem qu_at {q : QD} (hw : q.wf) (hm : may q.name = true) {msg : List UInt8} {pos : Nat} {t : Tab} (ht : TabOk (msg.take pos) t) (h : At msg pos (quW pos q t).1) :
    quR msg pos = .ok (q, pos + (quW pos q t).1.length) ∧ TabOk (msg.take (pos + (quW pos q t).1.length)) (quW pos q t).2 := by
  obtain ⟨n, ty, cl⟩ := q
  obtain ⟨⟨w1, w2⟩, w3, w4⟩ := hw
  dsimp only at *
  unfold quW at h ⊢
  dsimp only at h ⊢
  have ha := h.left
  have hb := h.right.left
  have hc := h.right.right
  rw [two_len] at hc
  obtain ⟨r1, r2⟩ := readN_at hm ht ha
  have e1 := name_at hm ht ha
  have e2 := two_at hb (show ty.toNat < 65536 by omega)
  have e3 := two_at hc (show cl.toNat < 65536 by omega)
  have hl : ((putN true true pos n t).1 ++ (two ty.toNat ++ two cl.toNat)).length = (putN true true pos n t).1.length + 4 := by rw [List.length_append, List.length_append]; rfl
  rw [hl]
  refine ⟨?_, ?_⟩
  · unfold quR
    rw [e1]
    dsimp only
    rw [e2]
    dsimp only
    rw [e3]
    dsimp only
    rw [Int.toNat_of_nonneg w1, Int.toNat_of_nonneg w3, show pos + (putN true true pos n t).1.length + 2 + 2 = pos + ((putN true true pos n t).1.length + 4) by omega]
  · have := tab_app r2 h.right
    rw [show (two ty.toNat ++ two cl.toNat).length = 4 from rfl, Nat.add_assoc] at this
    exact this
theorem rec_at {r : RecD} (hw : r.wf) (hm : recOk7 r = true) {msg : List UInt8} {pos : Nat} {t : Tab} (ht : TabOk (msg.take pos) t) (h : At msg pos (recW pos r t).1) (hl : msg.length ≤ 65535) (more : Bool) (ed : Option EdD) :
    recR msg more ed pos = .ok (some r, ed, pos + (recW pos r t).1.length) ∧ TabOk (msg.take (pos + (recW pos r t).1.length)) (recW pos r t).2 := by
  obtain ⟨n, ty, cl, tt, d⟩ := r
  obtain ⟨⟨w1, w2⟩, ⟨w3, w4⟩, w5, w6⟩ := hw
  unfold recOk7 at hm
  simp only [Bool.and_eq_true, decide_eq_true_eq] at hm
  obtain ⟨⟨m1, m2⟩, m3⟩ := hm
  dsimp only at *
  unfold recW at h ⊢
  dsimp only at h ⊢
  generalize hA : putN true true pos n t = A at *
  have hD : (A.1 ++ (two ty.toNat ++ two cl.toNat ++ four tt.toNat) ++ two (dataW (pos + A.1.length + 10) ty d A.2).1.length ++ (dataW (pos + A.1.length + 10) ty d A.2).1) =
      A.1 ++ (two ty.toNat ++ (two cl.toNat ++ (four tt.toNat ++ (two (dataW (pos + A.1.length + 10) ty d A.2).1.length ++ (dataW (pos + A.1.length + 10) ty d A.2).1)))) := by simp
  rw [hD] at h ⊢
  have ha := h.left
  have h1 := h.right
  have hb := h1.left
  have h2 := h1.right
  rw [two_len] at h2
  have hc := h2.left
  have h3 := h2.right
  rw [two_len] at h3
  have hd := h3.left
  have h4 := h3.right
  rw [four_len] at h4
  have he := h4.left
  have h5 := h4.right
  rw [two_len] at h5
  have hp : pos + A.1.length + 2 + 2 + 4 + 2 = pos + A.1.length + 10 := by omega
  rw [hp] at h5
  rw [← hA] at ha
  obtain ⟨r1, r2⟩ := readN_at m2 ht ha
  have e1 := name_at m2 ht ha
  rw [hA] at r2 e1 ha
  have htD : TabOk (msg.take (pos + A.1.length + 10)) A.2 := by
    have := tab_app r2 (x := two ty.toNat ++ (two cl.toNat ++ (four tt.toNat ++ two (dataW (pos + A.1.length + 10) ty d A.2).1.length))) (At.left (y := (dataW (pos + A.1.length + 10) ty d A.2).1) (by simpa using h1))
    exact this
  obtain ⟨d1, d2, d3⟩ := data_at m3 htD h5
  have hln := h5.1
  generalize hW : dataW (pos + A.1.length + 10) ty d A.2 = W at *
  have e2 := two_at hb (show ty.toNat < 65536 by omega)
  have e3 := two_at hc (show cl.toNat < 65536 by omega)
  have e4 := four_at hd (show tt.toNat < 4294967296 by omega)
  have e5 := two_at he (show W.1.length < 65536 by omega)
  rw [hp] at e5
  have hlen : pos + (A.1 ++ (two ty.toNat ++ (two cl.toNat ++ (four tt.toNat ++ (two W.1.length ++ W.1))))).length = pos + A.1.length + 10 + W.1.length := by
    simp only [List.length_append, two_len, four_len]; omega
  rw [hlen]
  refine ⟨?_, d3⟩
  unfold recR
  rw [e1]
  dsimp only
  rw [e2]
  dsimp only
  rw [e3]
  dsimp only
  rw [e4]
  dsimp only
  rw [e5]
  dsimp only
  rw [if_neg (by omega), if_neg (by omega), Int.toNat_of_nonneg w1, if_pos d1, d2, Int.toNat_of_nonneg w3, Int.toNat_of_nonneg w5]
theorem qus_at : ∀ (l : List QD) (pos : Nat) (t : Tab) (msg : List UInt8), (∀ q ∈ l, q.wf ∧ may q.name = true) → TabOk (msg.take pos) t → At msg pos (seqW quW pos l t).1 →
    qusR msg l.length pos = .ok (l, pos + (seqW quW pos l t).1.length) ∧ TabOk (msg.take (pos + (seqW quW pos l t).1.length)) (seqW quW pos l t).2
  | [], pos, t, msg, _, ht, _ => ⟨rfl, by simpa [seqW] using ht⟩
  | q :: l, pos, t, msg, hl, ht, h => by
    simp only [seqW] at h ⊢
    obtain ⟨h1, h2⟩ := qu_at (hl q (by simp)).1 (hl q (by simp)).2 ht h.left
    obtain ⟨h3, h4⟩ := qus_at l _ _ msg (fun x hx => hl x (by simp [hx])) h2 h.right
    rw [List.length_append, ← Nat.add_assoc]
    refine ⟨?_, h4⟩
    simp only [List.length_cons, qusR]
    rw [h1]
    dsimp only
    rw [h3]
theorem recs_at (more : Bool) (ed : Option EdD) : ∀ (l : List RecD) (pos : Nat) (t : Tab) (msg : List UInt8), (∀ r ∈ l, r.wf ∧ recOk7 r = true) → msg.length ≤ 65535 → TabOk (msg.take pos) t → At msg pos (seqW recW pos l t).1 →
    recsR msg more l.length ed pos = .ok (l, ed, pos + (seqW recW pos l t).1.length) ∧ TabOk (msg.take (pos + (seqW recW pos l t).1.length)) (seqW recW pos l t).2
  | [], pos, t, msg, _, _, ht, _ => ⟨rfl, by simpa [seqW] using ht⟩
  | r :: l, pos, t, msg, hl, hm, ht, h => by
    simp only [seqW] at h ⊢
    obtain ⟨h1, h2⟩ := rec_at (hl r (by simp)).1 (hl r (by simp)).2 ht h.left hm more ed
    obtain ⟨h3, h4⟩ := recs_at more ed l _ _ msg (fun x hx => hl x (by simp [hx])) hm h2 h.right
    rw [List.length_append, ← Nat.add_assoc]
    refine ⟨?_, h4⟩
    simp only [List.length_cons, recsR]
    rw [h1]
    dsimp only
    rw [h3]
    rfl
theorem bits_of {n a o b c d e f g i k : Nat} (hn : n = a * 32768 + o * 2048 + b * 1024 + c * 512 + d * 256 + e * 128 + f * 64 + g * 32 + i * 16 + k) (ha : a ≤ 1) (ho : o ≤ 15) (hb : b ≤ 1) (hc : c ≤ 1) (hd : d ≤ 1) (he : e ≤ 1) (hf : f ≤ 1) (hg : g ≤ 1) (hi : i ≤ 1) (hk : k ≤ 15) :
    n / 32768 = a ∧ n / 2048 % 16 = o ∧ n / 1024 % 2 = b ∧ n / 512 % 2 = c ∧ n / 256 % 2 = d ∧ n / 128 % 2 = e ∧ n / 64 % 2 = f ∧ n / 32 % 2 = g ∧ n / 16 % 2 = i ∧ n % 16 = k := by
  refine ⟨?_, ?_, ?_, ?_, ?_, ?_, ?_, ?_, ?_, ?_⟩ <;> omega
theorem from_flags {h : HdD} (h0 : 0 ≤ h.id) (h1 : 0 ≤ h.op) (h2 : 0 ≤ h.code) (ho : hdOk h = true) : fromN h.id.toNat (flagsOf h) = h := by
  obtain ⟨id, qr, op, aa, tc, rd, ra, z, ad, cd, code⟩ := h
  unfold hdOk at ho
  rw [decide_eq_true_eq] at ho
  dsimp only at h0 h1 h2 ho
  obtain ⟨a1, a2, a3, a4⟩ := bitN_val qr 32768
  obtain ⟨b1, b2, b3, b4⟩ := bitN_val aa 1024
  obtain ⟨c1, c2, c3, c4⟩ := bitN_val tc 512
  obtain ⟨d1, d2, d3, d4⟩ := bitN_val rd 256
  obtain ⟨e1, e2, e3, e4⟩ := bitN_val ra 128
  obtain ⟨f1, f2, f3, f4⟩ := bitN_val z 64
  obtain ⟨g1, g2, g3, g4⟩ := bitN_val ad 32
  obtain ⟨i1, i2, i3, i4⟩ := bitN_val cd 16
  have hn : flagsOf ⟨id, qr, op, aa, tc, rd, ra, z, ad, cd, code⟩ = a1 * 32768 + op.toNat * 2048 + b1 * 1024 + c1 * 512 + d1 * 256 + e1 * 128 + f1 * 64 + g1 * 32 + i1 * 16 + code.toNat := by
    unfold flagsOf
    dsimp only
    rw [a3, b3, c3, d3, e3, f3, g3, i3]
  obtain ⟨n1, n2, n3, n4, n5, n6, n7, n8, n9, n10⟩ := bits_of hn a2 (by omega) b2 c2 d2 e2 f2 g2 i2 (by omega)
  clear hn
  obtain ⟨n, hn⟩ : ∃ n, n = flagsOf ⟨id, qr, op, aa, tc, rd, ra, z, ad, cd, code⟩ := ⟨_, rfl⟩
  rw [← hn] at n1 n2 n3 n4 n5 n6 n7 n8 n9 n10
  rw [← hn]
  unfold fromN
  rw [HdD.mk.injEq]
  exact ⟨Int.toNat_of_nonneg h0, (congrArg (fun z => decide (z = 1)) n1).trans a4, (congrArg Int.ofNat n2).trans (Int.toNat_of_nonneg h1), (congrArg (fun z => decide (z = 1)) n3).trans b4, (congrArg (fun z => decide (z = 1)) n4).trans c4, (congrArg (fun z => decide (z = 1)) n5).trans d4, (congrArg (fun z => decide (z = 1)) n6).trans e4, (congrArg (fun z => decide (z = 1)) n7).trans f4, (congrArg (fun z => decide (z = 1)) n8).trans g4, (congrArg (fun z => decide (z = 1)) n9).trans i4, (congrArg Int.ofNat n10).trans (Int.toNat_of_nonneg h2)⟩
theorem opt_back : ∀ (l : List OpD) (n : Nat), (∀ o ∈ l, 0 ≤ o.code ∧ o.code ≤ 65535) → (l.flatMap fun o => two o.code.toNat ++ two o.data.length ++ o.data).length ≤ 65535 → (l.flatMap fun o => two o.code.toNat ++ two o.data.length ++ o.data).length < n →
    optF n (l.flatMap fun o => two o.code.toNat ++ two o.data.length ++ o.data) = .ok l
  | _, 0, _, _, h => absurd h (by omega)
  | [], n + 1, _, _, _ => by simp [optF]
  | ⟨c, d⟩ :: l, n + 1, hl, h1, h2 => by
    obtain ⟨w1, w2⟩ := hl ⟨c, d⟩ (by simp)
    dsimp only at w1 w2
    rw [List.flatMap_cons] at h1 h2 ⊢
    dsimp only at h1 h2 ⊢
    have hb := opt_back l n (fun o ho => hl o (by simp [ho]))
    generalize (l.flatMap fun o => two o.code.toNat ++ two o.data.length ++ o.data) = r at *
    simp only [List.length_append, two_len] at h1 h2
    have e1 : two c.toNat ++ two d.length ++ d ++ r ≠ [] := by simp [two]
    have e2 : (two c.toNat ++ two d.length ++ d ++ r).take 2 = two c.toNat := rfl
    have e3 : ((two c.toNat ++ two d.length ++ d ++ r).drop 2).take 2 = two d.length := rfl
    have e4 : (two c.toNat ++ two d.length ++ d ++ r).drop 4 = d ++ r := rfl
    have hbd : be (two d.length) = d.length := be_two (by omega)
    have hbc : be (two c.toNat) = c.toNat := be_two (by omega)
    have hlen : (two c.toNat ++ two d.length ++ d ++ r).length = 4 + d.length + r.length := by simp only [List.length_append, two_len]
    unfold optF
    rw [if_neg e1, e3, hbd, hlen, if_neg (by omega), if_neg (by omega), e2, hbc, e4, List.take_left]
    have e5 : (two c.toNat ++ two d.length ++ d ++ r).drop (4 + d.length) = r := by
      rw [← List.drop_drop, e4, List.drop_left]
    rw [e5, hb (by omega) (by omega)]
    dsimp only
    rw [Int.toNat_of_nonneg w1]
theorem edns_at {m : MsgD} (hw : m.wf) {msg : List UInt8} {pos : Nat} (h : At msg pos (ednsW m.ed)) (hl : msg.length ≤ 65535) : recR msg true none pos = .ok (none, some m.ed, pos + (ednsW m.ed).length) := by
  obtain ⟨z1, z2⟩ := hw.size
  obtain ⟨x1, x2⟩ := hw.ext
  obtain ⟨v1, v2⟩ := hw.ver
  obtain ⟨f1, f2⟩ := hw.flags
  have hO := hw.opts
  generalize m.ed = e at *
  obtain ⟨sz, ex, ve, fl, os⟩ := e
  dsimp only at *
  unfold ednsW at h ⊢
  dsimp only at h ⊢
  generalize hop : optW ⟨sz, ex, ve, fl, os⟩ = op at *
  have hD : ([0] ++ two 41 ++ two sz.toNat ++ four (optTtl ⟨sz, ex, ve, fl, os⟩) ++ two op.length ++ op : List UInt8) = [0] ++ (two 41 ++ (two sz.toNat ++ (four (optTtl ⟨sz, ex, ve, fl, os⟩) ++ (two op.length ++ op)))) := by simp
  rw [hD] at h ⊢
  have ha := h.left
  have h1 := h.right
  rw [show ([0] : List UInt8).length = 1 from rfl] at h1
  have hb := h1.left
  have h2 := h1.right
  rw [two_len] at h2
  have hc := h2.left
  have h3 := h2.right
  rw [two_len] at h3
  have hd := h3.left
  have h4 := h3.right
  rw [four_len] at h4
  have he := h4.left
  have h5 := h4.right
  rw [two_len] at h5
  have hln := h5.1
  have e1 : nameR msg pos = .ok ([0], pos + 1) := by
    have hz : msg[pos]? = some 0 := by
      have h0 := ha.2
      have := congrArg (fun l => l[0]?) h0
      simp only [List.length_singleton, List.getElem?_take_of_lt (Nat.lt_succ_self 0), List.getElem?_drop, Nat.add_zero] at this
      exact this
    unfold nameR readN
    rw [readS_zero msg ⟨pos, pos, none, []⟩ hz]
    rfl
  have httl : optTtl ⟨sz, ex, ve, fl, os⟩ < 4294967296 := by unfold optTtl; dsimp only; omega
  have e2 := two_at hb (show 41 < 65536 by omega)
  have e3 := two_at hc (show sz.toNat < 65536 by omega)
  have e4 := four_at hd httl
  have e5 := two_at he (show op.length < 65536 by omega)
  have hob : optR op = .ok os := by
    rw [← hop]
    unfold optR
    refine opt_back os _ hO ?_ (Nat.lt_succ_self _)
    have : (optW ⟨sz, ex, ve, fl, os⟩).length = op.length := by rw [hop]
    unfold optW at this
    dsimp only at this
    omega
  have hlen : pos + ([0] ++ (two 41 ++ (two sz.toNat ++ (four (optTtl ⟨sz, ex, ve, fl, os⟩) ++ (two op.length ++ op)))) : List UInt8).length = pos + 1 + 2 + 2 + 4 + 2 + op.length := by
    simp only [List.length_append, two_len, four_len, List.length_singleton]; omega
  rw [hlen]
  unfold recR
  rw [e1]
  dsimp only
  rw [e2]
  dsimp only
  rw [e3]
  dsimp only
  rw [e4]
  dsimp only
  rw [e5]
  dsimp only
  rw [if_neg (by omega), if_pos rfl, if_neg (by simp), h5.2]
  unfold edR
  rw [hob]
  dsimp only
  have k1 : (sz.toNat : Int) = sz := Int.toNat_of_nonneg z1
  have k2 : ((optTtl ⟨sz, ex, ve, fl, os⟩ / 16777216 : Nat) : Int) = ex := by unfold optTtl; dsimp only; omega
  have k3 : ((optTtl ⟨sz, ex, ve, fl, os⟩ / 65536 % 256 : Nat) : Int) = ve := by unfold optTtl; dsimp only; omega
  have k4 : ((optTtl ⟨sz, ex, ve, fl, os⟩ % 65536 : Nat) : Int) = fl := by unfold optTtl; dsimp only; omega
  rw [k1, k2, k3, k4]
theorem recsR_add (msg : List UInt8) (more : Bool) : ∀ (a b : Nat) (ed : Option EdD) (pos : Nat), recsR msg more (a + b) ed pos = match recsR msg more a ed pos with
    | .error e => .error e
    | .ok (l, ed, p) => match recsR msg more b ed p with
      | .error e => .error e
      | .ok (l', ed, p) => .ok (l ++ l', ed, p)
  | 0, b, ed, pos => by
    rw [Nat.zero_add]
    simp only [recsR]
    rcases recsR msg more b ed pos with e | ⟨l, ed, p⟩ <;> rfl
  | a + 1, b, ed, pos => by
    rw [show a + 1 + b = (a + b) + 1 by omega]
    simp only [recsR]
    rcases recR msg more ed pos with e | ⟨r, ed', p⟩
    · rfl
    · dsimp only
      rw [recsR_add msg more a b ed' p]
      rcases recsR msg more a ed' p with e | ⟨l, ed'', p'⟩
      · rfl
      · dsimp only
        rcases recsR msg more b ed'' p' with e | ⟨l', ed3, p3⟩
        · rfl
        · dsimp only
          rw [List.append_assoc]
theorem n16_at {msg : List UInt8} {pos v : Nat} (h : At msg pos (two v)) (hv : v < 65536) : n16 msg pos = v := by
  unfold n16
  have := h.2
  rw [two_len] at this
  rw [this, be_two hv]
/-- What is written of a message is read as that message. -/
theorem dec_enc {m : MsgD} (hw : m.wf) (he : encErr m = 0) : decR (encOf m) = .ok m := by
  have hB : encOf m = (bodyW m).1 := by unfold encOf; rw [if_pos he]
  have he' := he
  unfold encErr at he'
  split at he'
  rotate_left
  · cases he'
  rename_i hm
  split at he'
  · cases he'
  rename_i hlen
  unfold mayM at hm
  simp only [Bool.and_eq_true, decide_eq_true_eq, List.all_eq_true, Bool.or_eq_true] at hm
  obtain ⟨⟨⟨⟨⟨⟨m1, m2⟩, m3, m4, m5, m6⟩, m7⟩, m8⟩, m9⟩, m10⟩ := hm
  rw [hB]
  generalize hb : (bodyW m).1 = B at *
  have hbA : At B 0 B := ⟨by omega, by simp⟩
  have hq : ∀ q ∈ m.qs, q.wf ∧ may q.name = true := fun q h => ⟨hw.qs q h, m7 q h⟩
  have ha : ∀ r ∈ m.ans, r.wf ∧ recOk7 r = true := fun r h => ⟨hw.ans r h, m8 r h⟩
  have hu : ∀ r ∈ m.auth, r.wf ∧ recOk7 r = true := fun r h => ⟨hw.auth r h, m9 r h⟩
  have hx : ∀ r ∈ m.extra, r.wf ∧ recOk7 r = true := fun r h => ⟨hw.extra r h, m10 r h⟩
  -- the parts
  unfold bodyW at hb
  dsimp only at hb
  rw [seqW_append, seqW_append] at hb
  dsimp only at hb
  generalize hQ : seqW quW 12 m.qs [] = Q at hb
  generalize hA : seqW recW (12 + Q.1.length) m.ans Q.2 = A at hb
  generalize hU : seqW recW (12 + Q.1.length + A.1.length) m.auth A.2 = U at hb
  have hX0 : seqW recW (12 + Q.1.length + (A.1 ++ U.1).length) m.extra U.2 = seqW recW (12 + Q.1.length + A.1.length + U.1.length) m.extra U.2 := by rw [List.length_append, ← Nat.add_assoc]
  rw [hX0] at hb
  generalize hX : seqW recW (12 + Q.1.length + A.1.length + U.1.length) m.extra U.2 = X at hb
  generalize hO : (if m.he = true then ednsW m.ed else []) = O at hb
  have hb' : headW m ++ (Q.1 ++ (A.1 ++ (U.1 ++ (X.1 ++ O)))) = B := by rw [← hb]; simp
  have hbB : At B 0 (headW m ++ (Q.1 ++ (A.1 ++ (U.1 ++ (X.1 ++ O))))) := by rw [hb']; exact hbA
  have hBl : B.length = 12 + Q.1.length + A.1.length + U.1.length + X.1.length + O.length := by
    rw [← hb']
    simp only [List.length_append, headW, two_len]; omega
  have hhd := hbB.left
  have g0 := hbB.right
  rw [show 0 + (headW m).length = 12 by simp [headW, two_len]] at g0
  have gq := g0.left
  have g1 := g0.right
  have ga := g1.left
  have g2 := g1.right
  have gu := g2.left
  have g3 := g2.right
  have gx := g3.left
  have go := g3.right
  -- the head
  have hf := flags_lt hw.op hw.code m1
  unfold headW at hhd
  simp only [List.append_assoc] at hhd
  have p0 := hhd.left
  have q1 := hhd.right
  have p1 := q1.left
  have q2 := q1.right
  have p2 := q2.left
  have q3 := q2.right
  have p3 := q3.left
  have q4 := q3.right
  have p4 := q4.left
  have p5 := q4.right
  simp only [two_len, Nat.zero_add] at p0 p1 p2 p3 p4 p5
  obtain ⟨i1, i2⟩ := hw.id
  have k0 := n16_at p0 (by omega)
  have k1 := n16_at p1 hf
  have k2 := n16_at p2 (by omega)
  have k3 := n16_at p3 (by omega)
  have k4 := n16_at p4 (by omega)
  have k5 := n16_at p5 (by omega)
  rw [← hQ] at gq
  obtain ⟨r1, t1⟩ := qus_at m.qs 12 [] B hq (tabOk_nil _) gq
  rw [hQ] at r1 t1
  rw [← hA] at ga
  obtain ⟨r2, t2⟩ := recs_at false none m.ans (12 + Q.1.length) Q.2 B ha (by omega) t1 ga
  rw [hA] at r2 t2
  rw [← hU] at gu
  obtain ⟨r3, t3⟩ := recs_at false none m.auth (12 + Q.1.length + A.1.length) A.2 B hu (by omega) t2 gu
  rw [hU] at r3 t3
  rw [← hX] at gx
  obtain ⟨r4, t4⟩ := recs_at true none m.extra (12 + Q.1.length + A.1.length + U.1.length) U.2 B hx (by omega) t3 gx
  rw [hX] at r4 t4
  have hfr := from_flags i1 hw.op hw.code m1
  unfold decR bodyR
  rw [if_neg (by omega), if_neg (by omega), k0, k1, k2, k3, k4, k5, r1]
  dsimp only
  rw [r2]
  dsimp only
  rw [r3]
  dsimp only
  rw [hfr]
  by_cases hhe : m.he = true
  · rw [if_pos hhe] at hO
    rw [if_pos hhe, recsR_add, r4]
    dsimp only
    have ho := edns_at hw (pos := 12 + Q.1.length + A.1.length + U.1.length + X.1.length) (by rw [hO]; exact go) (show B.length ≤ 65535 by omega)
    simp only [recsR]
    rw [ho]
    dsimp only
    have em : (⟨m.hd, m.qs, m.ans, m.auth, m.extra ++ (none.toList ++ []), (some m.ed).isSome, (some m.ed).getD edNone⟩ : MsgD) = m := by
      obtain ⟨a1, a2, a3, a4, a5, a6, a7⟩ := m
      dsimp only at hhe
      subst hhe
      simp
    rw [em, if_neg (by rw [hO]; omega), if_pos he]
  · have hhe' : m.he = false := by simpa using hhe
    rw [if_neg hhe] at hO
    subst hO
    rw [if_neg hhe, Nat.add_zero, r4]
    dsimp only
    have hz : m.ed = edNone := by
      rcases m2 with h | h
      · exact absurd h hhe
      · unfold edZero at h
        simp only [Bool.and_eq_true, decide_eq_true_eq, List.isEmpty_iff] at h
        obtain ⟨⟨a1, a2, a3, a4⟩, a5⟩ := h
        generalize m.ed = E at a1 a2 a3 a4 a5
        obtain ⟨b1, b2, b3, b4, b5⟩ := E
        dsimp only at a1 a2 a3 a4 a5
        subst a1 a2 a3 a4 a5
        rfl
    have em : (⟨m.hd, m.qs, m.ans, m.auth, m.extra, (none : Option EdD).isSome, (none : Option EdD).getD edNone⟩ : MsgD) = m := by
      obtain ⟨a1, a2, a3, a4, a5, a6, a7⟩ := m
      dsimp only at hhe' hz
      subst hhe' hz
      rfl
    rw [em, if_neg (by rw [hBl]; simp), if_pos he]
theorem atTo_ge {f : SetD → Bool} {l : List SetD} : ∀ k, k ≤ l.length → 0 ≤ atTo f l k → ∃ s, l[(atTo f l k).toNat]? = some s ∧ f s = true
  | 0, _, h => by simp [atTo] at h
  | k + 1, hk, h => by
    have hg : l.getD k SetD.zero = l[k] := by simp [show k < l.length by omega]
    have hu : atTo f l (k + 1) = if f l[k] then (k : Int) else atTo f l k := by rw [← hg]; rfl
    rw [hu] at h ⊢
    by_cases e : f l[k] = true
    · rw [if_pos e]
      exact ⟨l[k], by simp [List.getElem?_eq_getElem (show k < l.length by omega)], e⟩
    · rw [if_neg e] at h ⊢
      exact atTo_ge k (by omega) h
theorem timeT_le (t : Int) : timeT t ≤ 2147483647 := by unfold timeT; split <;> omega
theorem mem_ofK {l : List RecD} {K : KeyD} {x : RecD} : x ∈ ofK l K ↔ x ∈ l ∧ okRec x = true ∧ recK x = K := by
  unfold ofK; simp [List.mem_filter, and_assoc]
theorem ofK_snoc_in {l : List RecD} {x : RecD} {K : KeyD} (h1 : okRec x = true) (h2 : recK x = K) : ofK (l ++ [x]) K = ofK l K ++ [x] := by
  unfold ofK; rw [List.filter_append]; simp [List.filter_cons, h1, h2]
theorem minT_snoc (l : List RecD) (x : RecD) : minT (l ++ [x]) = min (minT l) (timeT x.ttl) := by unfold minT; rw [List.foldl_append]; rfl
theorem datT_snoc (l : List RecD) (x : RecD) : datT (l ++ [x]) = putS (datT l) (rfold x.typ x.data) := by
  unfold datT; rw [List.map_append]; exact canon_snoc _ _
theorem CharG.add {L : List SetD} {P : List RecD} (h : CharG L P) (x : RecD) : CharG (addR L x) (P ++ [x]) := by
  unfold addR
  by_cases hx : okRec x = true
  · rw [if_pos hx]
    have hneg : ∀ K, recK x ≠ K → ofK (P ++ [x]) K = ofK P K := fun K e => ofK_snoc_out (.inr e)
    by_cases ha : atTo (keyM (fold x.name) x.typ x.cls) L L.length < 0
    · rw [if_pos ha]
      have hno : ∀ s ∈ L, keyT s ≠ recK x := fun s hs e => by
        obtain ⟨i, hi, rfl⟩ := List.getElem_of_mem hs
        have := atTo_neg L.length (Nat.le_refl _) ha i hi hi
        rw [keyM_iff.2 e] at this; cases this
      have h0 : ofK P (recK x) = [] := by
        by_cases e : ofK P (recK x) = []
        · exact e
        · obtain ⟨s, hs, hk⟩ := h.all _ e; exact absurd hk (hno s hs)
      have hset : setK (P ++ [x]) (recK x) = ⟨fold x.name, x.typ, x.cls, timeT x.ttl, [rfold x.typ x.data]⟩ := by
        unfold setK
        rw [ofK_snoc_in hx rfl, h0, List.nil_append]
        have := timeT_le x.ttl
        have e1 : minT [x] = timeT x.ttl := by unfold minT; simp only [List.foldl_cons, List.foldl_nil]; omega
        have e2 : datT [x] = [rfold x.typ x.data] := canon_one _
        rw [e1, e2]; rfl
      constructor
      · intro s hs
        rcases List.mem_append.1 hs with h1 | h1
        · have hne := hno s h1
          rw [hneg _ (Ne.symm hne), setK_out (.inr (Ne.symm hne))]
          exact h.has s h1
        · rw [List.mem_singleton] at h1
          have hk : keyT s = recK x := by rw [h1]; rfl
          rw [hk, ofK_snoc_in hx rfl]
          exact ⟨by simp, by rw [hset]; exact h1⟩
      · intro K hK
        by_cases e : recK x = K
        · exact ⟨⟨fold x.name, x.typ, x.cls, timeT x.ttl, [rfold x.typ x.data]⟩, by simp, e⟩
        · rw [hneg K e] at hK
          obtain ⟨s, hs, hk⟩ := h.all K hK
          exact ⟨s, by simp [hs], hk⟩
      · rw [List.map_append, List.nodup_append]
        refine ⟨h.nodup, by simp, fun a ha b hb => ?_⟩
        obtain ⟨s, hs, rfl⟩ := List.mem_map.1 ha
        simp only [List.map_cons, List.map_nil, List.mem_singleton] at hb
        subst hb
        exact hno s hs
    · rw [if_neg ha]
      obtain ⟨t, ht, hkt⟩ := atTo_ge _ (Nat.le_refl _) (show 0 ≤ atTo (keyM (fold x.name) x.typ x.cls) L L.length by omega)
      generalize (atTo (keyM (fold x.name) x.typ x.cls) L L.length).toNat = i at *
      have hi : i < L.length := (List.getElem?_eq_some_iff.1 ht).1
      have hti : L[i] = t := (List.getElem?_eq_some_iff.1 ht).2
      have hk : keyT t = recK x := keyM_iff.1 hkt
      have htm : t ∈ L := hti ▸ List.getElem_mem hi
      have hup : updS (timeT x.ttl) (rfold x.typ x.data) t = setK (P ++ [x]) (recK x) := by
        have := (h.has t htm).2
        rw [hk] at this
        rw [this]
        unfold setK updS
        rw [ofK_snoc_in hx rfl, minT_snoc, datT_snoc]
      have hkm : (L.modify i (updS (timeT x.ttl) (rfold x.typ x.data))).map keyT = L.map keyT := by
        apply List.ext_getElem?
        intro j
        rw [List.getElem?_map, List.getElem?_map, List.getElem?_modify]
        by_cases e : i = j
        · subst e; rw [ht]; simp [updS, keyT]
        · simp [e]
      constructor
      · intro s hs
        obtain ⟨j, hj, rfl⟩ := List.getElem_of_mem hs
        rw [List.length_modify] at hj
        rw [List.getElem_modify]
        by_cases e : i = j
        · subst e
          rw [if_pos rfl, hti]
          have hk2 : keyT (updS (timeT x.ttl) (rfold x.typ x.data) t) = recK x := hk
          rw [hk2]
          exact ⟨by rw [ofK_snoc_in hx rfl]; simp, hup⟩
        · rw [if_neg e]
          have hne : recK x ≠ keyT L[j] := fun e2 => by
            rw [← hk, ← hti] at e2
            have h1 := List.getElem_map keyT (l := L) (i := i) (h := by simpa using hi)
            have h2 := List.getElem_map keyT (l := L) (i := j) (h := by simpa using hj)
            exact e ((List.getElem_inj h.nodup).1 (by rw [h1, h2]; exact e2))
          rw [hneg _ hne, setK_out (.inr hne)]
          exact h.has _ (List.getElem_mem hj)
      · intro K hK
        have : K ∈ (L.modify i (updS (timeT x.ttl) (rfold x.typ x.data))).map keyT := by
          rw [hkm]
          by_cases e : recK x = K
          · rw [← e, ← hk]; exact List.mem_map_of_mem htm
          · rw [hneg K e] at hK
            obtain ⟨s, hs, hk⟩ := h.all K hK
            rw [← hk]; exact List.mem_map_of_mem hs
        obtain ⟨s, hs, e⟩ := List.mem_map.1 this
        exact ⟨s, hs, e⟩
      · rw [hkm]; exact h.nodup
  · rw [if_neg hx]
    exact h.skip (by simpa using hx)
theorem char_to (l : List RecD) : ∀ k, k ≤ l.length → CharG (groupTo l k) (l.take k)
  | 0, _ => ⟨by simp [groupTo], by simp [ofK], by simp [groupTo]⟩
  | k + 1, h => by rw [groupTo_step l k (by omega), take_snoc l k (by omega)]; exact (char_to l k (by omega)).add _
/-! ### Rising rows -/
def RiseS (l : List SetD) : Prop := l.Pairwise fun a b => cmpK a b < 0
theorem rise_ext : ∀ {l m : List SetD}, RiseS l → RiseS m → (∀ x, x ∈ l ↔ x ∈ m) → l = m
  | [], [], _, _, _ => rfl
  | [], b :: m, _, _, h => absurd ((h b).2 (by simp)) (by simp)
  | a :: l, [], _, _, h => absurd ((h a).1 (by simp)) (by simp)
  | a :: l, b :: m, hl, hm, h => by
    have hl' := List.pairwise_cons.1 hl
    have hm' := List.pairwise_cons.1 hm
    have hab : a = b := by
      rcases List.mem_cons.1 ((h a).1 (by simp)) with e | e
      · exact e
      · rcases List.mem_cons.1 ((h b).2 (by simp)) with e' | e'
        · exact e'.symm
        · have h1 := hm'.1 a e
          have h2 := hl'.1 b e'
          have h3 := good_cmpK.anti a b
          omega
    subst hab
    have hirr : ∀ x, cmpK x x = 0 := good_cmpK.zero
    rw [rise_ext hl'.2 hm'.2 (fun x => ?_)]
    constructor
    · intro hx
      rcases List.mem_cons.1 ((h x).1 (by simp [hx])) with e | e
      · subst e; have := hl'.1 x hx; rw [hirr] at this; omega
      · exact e
    · intro hx
      rcases List.mem_cons.1 ((h x).2 (by simp [hx])) with e | e
      · subst e; have := hm'.1 x hx; rw [hirr] at this; omega
      · exact e
theorem keyT_of_zero {a b : SetD} (ha : may a.name = true ∧ low a.name = a.name) (hb : may b.name = true ∧ low b.name = b.name) (h0 : cmpK a b = 0) : keyT a = keyT b := by
  unfold cmpK at h0
  by_cases e1 : cmpRev (keyL a.name) (keyL b.name) = 0
  · rw [if_pos e1] at h0
    by_cases e2 : cmpI a.typ b.typ = 0
    · rw [if_pos e2] at h0
      have hn : a.name = b.name := key_inj ha hb (cmpRev_zero _ _ e1)
      simp [keyT, hn, cmpI_zero e2, cmpI_zero h0]
    · rw [if_neg e2] at h0; exact absurd h0 e2
  · rw [if_neg e1] at h0; exact absurd h0 e1
theorem char_names {L : List SetD} {P : List RecD} (h : CharG L P) : ∀ s ∈ L, may s.name = true ∧ low s.name = s.name := fun s hs => by
  obtain ⟨h1, _⟩ := h.has s hs
  obtain ⟨x, hx⟩ := List.exists_mem_of_ne_nil _ h1
  obtain ⟨_, hok, hk⟩ := mem_ofK.1 hx
  have hm : may x.name = true := by unfold okRec at hok; simp only [Bool.and_eq_true] at hok; exact hok.1
  have e : s.name = fold x.name := (congrArg Prod.fst hk).symm
  rw [e]
  exact fold_may hm
theorem group_perm (l : List RecD) : (groupR l).Perm (groupTo l l.length) ∧ RisesW (groupR l) :=
  selF_spec l.length (groupTo l l.length) (groupTo_len l l.length (Nat.le_refl _)) (fun s hs => (char_names (char_to l l.length (Nat.le_refl _)) s hs).1)
/-- What Group's sets are. -/
theorem group_mem (l : List RecD) (s : SetD) : s ∈ groupR l ↔ ofK l (keyT s) ≠ [] ∧ s = setK l (keyT s) := by
  have hc := char_to l l.length (Nat.le_refl _)
  rw [List.take_length] at hc
  rw [(group_perm l).1.mem_iff]
  constructor
  · exact hc.has s
  · rintro ⟨h1, h2⟩
    obtain ⟨t, ht, hk⟩ := hc.all _ h1
    have := (hc.has t ht).2
    rw [hk, ← h2] at this
    exact this ▸ ht
theorem group_name {l : List RecD} {s : SetD} (hs : s ∈ groupR l) : may s.name = true ∧ low s.name = s.name := by
  have hc := char_to l l.length (Nat.le_refl _)
  exact char_names hc s ((group_perm l).1.mem_iff.1 hs)
theorem group_rise (l : List RecD) : RiseS (groupR l) := by
  have hc := char_to l l.length (Nat.le_refl _)
  have hn : ((groupR l).map keyT).Nodup := ((group_perm l).1.map keyT).nodup_iff.2 hc.nodup
  have hr := (group_perm l).2
  unfold RiseS
  unfold RisesW at hr
  rw [List.pairwise_iff_getElem] at hr ⊢
  intro i j hi hj hij
  have h1 := hr i j hi hj hij
  have h2 := good_cmpK.anti (groupR l)[i] (groupR l)[j]
  rcases Int.lt_or_le (cmpK (groupR l)[i] (groupR l)[j]) 0 with h | h
  · exact h
  · have h0 : cmpK (groupR l)[i] (groupR l)[j] = 0 := by omega
    have hk := keyT_of_zero (group_name (List.getElem_mem hi)) (group_name (List.getElem_mem hj)) h0
    have := List.pairwise_iff_getElem.1 hn i j (by simpa using hi) (by simpa using hj) hij
    simp only [List.getElem_map] at this
    exact absurd hk this
/-- The same records of each key make the same sets. -/
theorem group_congr {l m : List RecD} (h : ∀ K, (ofK l K ≠ [] ↔ ofK m K ≠ []) ∧ (ofK l K ≠ [] → setK l K = setK m K)) : groupR l = groupR m := by
  refine rise_ext (group_rise l) (group_rise m) (fun s => ?_)
  rw [group_mem, group_mem]
  constructor
  · rintro ⟨h1, h2⟩; exact ⟨(h _).1.1 h1, h2.trans ((h _).2 h1)⟩
  · rintro ⟨h1, h2⟩; have h3 := (h _).1.2 h1; exact ⟨h3, h2.trans ((h _).2 h3).symm⟩
/-! ### minT and datT hang on the members alone -/
theorem minT_le (l : List RecD) : minT l ≤ 2147483647 ∧ ∀ x ∈ l, minT l ≤ timeT x.ttl := by
  have key : ∀ (l : List RecD) (m : Int), l.foldl (fun m x => min m (timeT x.ttl)) m ≤ m ∧ ∀ x ∈ l, l.foldl (fun m x => min m (timeT x.ttl)) m ≤ timeT x.ttl := by
    intro l
    induction l with
    | nil => intro m; simp
    | cons a l ih =>
      intro m
      rw [List.foldl_cons]
      obtain ⟨h1, h2⟩ := ih (min m (timeT a.ttl))
      refine ⟨by omega, fun x hx => ?_⟩
      rcases List.mem_cons.1 hx with rfl | hx
      · omega
      · exact h2 x hx
  exact key l _
theorem minT_in (l : List RecD) : minT l = 2147483647 ∨ ∃ x ∈ l, minT l = timeT x.ttl := by
  have key : ∀ (l : List RecD) (m : Int), l.foldl (fun m x => min m (timeT x.ttl)) m = m ∨ ∃ x ∈ l, l.foldl (fun m x => min m (timeT x.ttl)) m = timeT x.ttl := by
    intro l
    induction l with
    | nil => intro m; simp
    | cons a l ih =>
      intro m
      rw [List.foldl_cons]
      rcases ih (min m (timeT a.ttl)) with h | ⟨x, hx, h⟩
      · rw [h]
        by_cases e : m ≤ timeT a.ttl
        · left; omega
        · right; exact ⟨a, by simp, by omega⟩
      · right; exact ⟨x, by simp [hx], h⟩
  exact key l _
theorem minT_mem {l m : List RecD} (h : ∀ x, x ∈ l ↔ x ∈ m) : minT l = minT m := by
  have a := minT_le l
  have b := minT_le m
  rcases minT_in l with h1 | ⟨x, hx, h1⟩
  · rcases minT_in m with h2 | ⟨y, hy, h2⟩
    · omega
    · have := a.2 y ((h y).2 hy); omega
  · have h3 := b.2 x ((h x).1 hx)
    rcases minT_in m with h2 | ⟨y, hy, h2⟩
    · omega
    · have := a.2 y ((h y).2 hy); omega
theorem canon_mem {l m : List (List UInt8)} (h : ∀ x, x ∈ l ↔ x ∈ m) : canon l = canon m :=
  asc_ext (canon_asc l) (canon_asc m) (fun x => by rw [mem_canon, mem_canon]; exact h x)
theorem datT_mem {l m : List RecD} (h : ∀ x, x ∈ l ↔ x ∈ m) : datT l = datT m :=
  canon_mem fun d => by
    simp only [List.mem_map]
    constructor
    · rintro ⟨x, hx, rfl⟩; exact ⟨x, (h x).1 hx, rfl⟩
    · rintro ⟨x, hx, rfl⟩; exact ⟨x, (h x).2 hx, rfl⟩
theorem ofK_mem {l m : List RecD} (h : ∀ x, x ∈ l ↔ x ∈ m) (K : KeyD) : ∀ x, x ∈ ofK l K ↔ x ∈ ofK m K := fun x => by rw [mem_ofK, mem_ofK, h x]
theorem ne_nil_mem {l m : List RecD} (h : ∀ x, x ∈ l ↔ x ∈ m) (hl : l ≠ []) : m ≠ [] := by
  obtain ⟨x, hx⟩ := List.exists_mem_of_ne_nil _ hl
  intro e; rw [e] at h; exact absurd ((h x).1 hx) (by simp)
theorem setK_mem {l m : List RecD} (h : ∀ x, x ∈ l ↔ x ∈ m) (K : KeyD) : setK l K = setK m K := by
  unfold setK; rw [minT_mem (ofK_mem h K), datT_mem (ofK_mem h K)]
/-- THE STAGE'S THEOREM, plain: the same records, in whatever row and however often, make the same sets. -/
theorem group_set {l m : List RecD} (h : ∀ x, x ∈ l ↔ x ∈ m) : groupR l = groupR m :=
  group_congr fun K => ⟨⟨ne_nil_mem (ofK_mem h K), ne_nil_mem (fun x => (ofK_mem h K x).symm)⟩, fun _ => setK_mem h K⟩
end Go.Proofs.YtfjfmnnjempdaaaGreatDoor
