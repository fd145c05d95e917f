/- Contracts of functions and plain lemmas that the proofs of this seat share (joined texts). No condition. -/
import Derived.Test.YtcpikbanghoflaaGreatDoorHwp
import Derived.Test.YtcpikbanghoflaaGreatDoorHg
import Derived.Test.YtcpikbanghoflaaGreatDoorHry
import Derived.Test.YtcpikbanghoflaaGreatDoorHd
import Derived.Test.YtcpikbanghoflaaGreatDoorHht
import Derived.Deep.RegionHeld3
import Derived.OpenShut
namespace Go.Proofs.YtcpikbanghoflaaGreatDoor
set_option linter.unusedSimpArgs false
set_option linter.unusedVariables false
def recsT (l : List SetD) (ttl : Int) : List RecD := l.flatMap fun s => s.data.map fun d => ⟨s.name, s.typ, s.cls, ttl, d⟩
def fullOf (c : CameD) (code : Int) (sets soa : List SetD) (ttl size : Int) : MsgD := { blankOf c code size with ans := recsT sets ttl, auth := recsT soa ttl }
def roomy (c : CameD) (code : Int) (sets soa : List SetD) (ttl size : Int) : Prop := encErr (fullOf c code sets soa ttl size) = 0 ∧ ((bodyW (fullOf c code sets soa ttl size)).1.length : Int) ≤ roomOf c size
instance (c : CameD) (code : Int) (sets soa : List SetD) (ttl size : Int) : Decidable (roomy c code sets soa ttl size) := inferInstanceAs (Decidable (_ ∧ _))
def ansMay (c : CameD) (code : Int) (sets soa : List SetD) (ttl size : Int) : Prop := c.kind = 3 ∧ (512 ≤ size ∧ size ≤ 4096) ∧ (code = 0 ∨ code = 3) ∧ ttl ≤ 2147483647
instance (c : CameD) (code : Int) (sets soa : List SetD) (ttl size : Int) : Decidable (ansMay c code sets soa ttl size) := inferInstanceAs (Decidable (_ ∧ _))
def SetD.wfT (s : SetD) : Prop := (0 ≤ s.typ ∧ s.typ ≤ 65535) ∧ (0 ≤ s.cls ∧ s.cls ≤ 65535)
theorem readF_ext (msg ext : List UInt8) : ∀ (n : Nat) (s : RdSt), (readF msg n s).2.2 = 0 → readF (msg ++ ext) n s = readF msg n s
  | 0, _, _ => rfl
  | n + 1, s, h => by
    unfold readF at h ⊢
    rcases hg : msg[s.pos]? with _ | b
    · rw [hg] at h; cases h
    · have hg' : (msg ++ ext)[s.pos]? = some b := by
        rw [List.getElem?_append_left (List.getElem?_eq_some_iff.1 hg).1]; exact hg
      rw [hg] at h
      rw [hg']
      dsimp only at h ⊢
      split
      · rfl
      · rename_i h0
        rw [if_neg h0] at h
        split
        · rename_i h1
          rw [if_pos h1] at h
          split at h
          · cases h
          · rename_i h2
            rw [if_neg (by rw [List.length_append]; omega), if_neg h2]
            split at h
            · cases h
            · rename_i h3
              rw [if_neg h3, if_neg h3]
              have hd : ((msg ++ ext).drop (s.pos + 1)).take b.toNat = (msg.drop (s.pos + 1)).take b.toNat := by
                rw [List.drop_append_of_le_length (by omega), List.take_append_of_le_length (by rw [List.length_drop]; omega)]
              rw [hd]
              exact readF_ext msg ext n _ h
        · rename_i h1
          rw [if_neg h1] at h
          split at h
          · cases h
          · rename_i h2
            rw [if_neg h2, if_neg h2]
            rcases hc : msg[s.pos + 1]? with _ | c
            · rw [hc] at h; cases h
            · have hc' : (msg ++ ext)[s.pos + 1]? = some c := by
                rw [List.getElem?_append_left (List.getElem?_eq_some_iff.1 hc).1]; exact hc
              rw [hc] at h
              rw [hc']
              dsimp only at h ⊢
              split at h
              · cases h
              · rename_i h3
                rw [if_neg h3, if_neg h3]
                exact readF_ext msg ext n _ h
theorem readF_le (msg : List UInt8) : ∀ (n : Nat) (s : RdSt), (readF msg n s).2.2 = 0 → (∀ k, s.nx = some k → k ≤ msg.length) → (readF msg n s).2.1 ≤ msg.length
  | 0, _, _, _ => Nat.zero_le _
  | n + 1, s, h, hk => by
    unfold readF at h ⊢
    rcases hg : msg[s.pos]? with _ | b
    · rw [hg] at h; cases h
    · have hlt := (List.getElem?_eq_some_iff.1 hg).1
      rw [hg] at h
      dsimp only at h ⊢
      split
      · dsimp only
        rcases hn : s.nx with _ | k
        · show s.pos + 1 ≤ _; omega
        · exact hk k hn
      · rename_i h0
        rw [if_neg h0] at h
        split
        · rename_i h1
          rw [if_pos h1] at h
          split at h
          · cases h
          · rename_i h2
            rw [if_neg h2]
            split at h
            · cases h
            · rename_i h3
              rw [if_neg h3]
              exact readF_le msg n _ h hk
        · rename_i h1
          rw [if_neg h1] at h
          split at h
          · cases h
          · rename_i h2
            rw [if_neg h2]
            rcases hc : msg[s.pos + 1]? with _ | c
            · rw [hc] at h; cases h
            · have hlt2 := (List.getElem?_eq_some_iff.1 hc).1
              rw [hc] at h
              dsimp only at h ⊢
              split at h
              · cases h
              · rename_i h3
                rw [if_neg h3]
                refine readF_le msg n _ h fun k hk' => ?_
                dsimp only at hk'
                injection hk' with hk'
                rcases hn : s.nx with _ | k'
                · rw [hn] at hk'; simp at hk'; omega
                · rw [hn] at hk'; simp at hk'; have := hk k' hn; omega
theorem nameR_ext {msg : List UInt8} {pos p : Nat} {n : List UInt8} (ext : List UInt8) (h : nameR msg pos = .ok (n, p)) : nameR (msg ++ ext) pos = .ok (n, p) ∧ p ≤ msg.length := by
  unfold nameR at h
  split at h
  · rename_i h0
    have e : readN (msg ++ ext) pos = readN msg pos := by unfold readN readS at h0 ⊢; exact readF_ext msg ext _ _ h0
    have hl : (readN msg pos).2.1 ≤ msg.length := by unfold readN readS at h0 ⊢; exact readF_le msg _ _ h0 (by simp)
    injection h with h; injection h with h1 h2
    unfold nameR
    rw [e, if_pos h0, h1, h2]
    exact ⟨rfl, by omega⟩
  · cases h
theorem numR_ext {msg : List UInt8} {k pos p v : Nat} (ext : List UInt8) (h : numR k msg pos = .ok (v, p)) : numR k (msg ++ ext) pos = .ok (v, p) ∧ p ≤ msg.length := by
  unfold numR at h ⊢
  split at h
  · cases h
  · rename_i h0
    injection h with h; injection h with h1 h2
    rw [if_neg (by rw [List.length_append]; omega), List.drop_append_of_le_length (by omega), List.take_append_of_le_length (by rw [List.length_drop]; omega), h1, h2]
    exact ⟨rfl, by omega⟩
theorem quR_ext {msg : List UInt8} {pos p : Nat} {q : QD} (ext : List UInt8) (h : quR msg pos = .ok (q, p)) : quR (msg ++ ext) pos = .ok (q, p) ∧ p ≤ msg.length := by
  unfold quR at h
  split at h
  · cases h
  rename_i h1
  split at h
  · cases h
  rename_i h2
  split at h
  · cases h
  rename_i h3
  injection h with h; injection h with e1 e2
  unfold quR
  rw [(nameR_ext ext h1).1]; dsimp only
  rw [(numR_ext ext h2).1]; dsimp only
  rw [(numR_ext ext h3).1]; dsimp only
  rw [e1, ← e2]
  exact ⟨rfl, (numR_ext ext h3).2⟩
theorem qusR_ext {msg : List UInt8} (ext : List UInt8) : ∀ {k pos p : Nat} {l : List QD}, qusR msg k pos = .ok (l, p) → pos ≤ msg.length → qusR (msg ++ ext) k pos = .ok (l, p) ∧ p ≤ msg.length
  | 0, pos, p, l, h, hp => by
    unfold qusR at h ⊢
    injection h with h; injection h with e1 e2
    subst e1 e2
    exact ⟨rfl, hp⟩
  | k + 1, pos, p, l, h, hp => by
    unfold qusR at h ⊢
    split at h
    · cases h
    rename_i h1
    split at h
    · cases h
    rename_i h2
    injection h with h; injection h with e1 e2
    obtain ⟨a1, a2⟩ := quR_ext ext h1
    obtain ⟨b1, b2⟩ := qusR_ext ext h2 a2
    rw [a1]; dsimp only
    rw [b1]; dsimp only
    rw [e1, ← e2]
    exact ⟨rfl, b2⟩
theorem recR_ext {msg : List UInt8} (ext : List UInt8) {more : Bool} {ed ed' : Option EdD} {pos p : Nat} {r : Option RecD} (h : recR msg more ed pos = .ok (r, ed', p)) : recR (msg ++ ext) more ed pos = .ok (r, ed', p) ∧ p ≤ msg.length := by
  unfold recR at h
  split at h
  · cases h
  rename_i h1
  split at h
  · cases h
  rename_i h2
  split at h
  · cases h
  rename_i h3
  split at h
  · cases h
  rename_i h4
  split at h
  · cases h
  rename_i p' h5
  split at h
  · cases h
  rename_i h6
  unfold recR
  rw [(nameR_ext ext h1).1]; dsimp only
  rw [(numR_ext ext h2).1]; dsimp only
  rw [(numR_ext ext h3).1]; dsimp only
  rw [(numR_ext ext h4).1]; dsimp only
  rw [(numR_ext ext h5).1]; dsimp only
  have hp' := (numR_ext ext h5).2
  rw [if_neg (by rw [List.length_append]; omega), List.drop_append_of_le_length (by omega), List.take_append_of_le_length (by rw [List.length_drop]; omega), List.take_append_of_le_length (by omega)]
  refine ⟨h, ?_⟩
  split at h
  · split at h
    · cases h
    split at h
    · cases h
    injection h with h; injection h with e1 e2; injection e2 with e2 e3
    omega
  · split at h
    · injection h with h; injection h with e1 e2; injection e2 with e2 e3
      omega
    · cases h
theorem recsR_ext {msg : List UInt8} (ext : List UInt8) {more : Bool} : ∀ {k : Nat} {ed ed' : Option EdD} {pos p : Nat} {l : List RecD}, recsR msg more k ed pos = .ok (l, ed', p) → pos ≤ msg.length → recsR (msg ++ ext) more k ed pos = .ok (l, ed', p) ∧ p ≤ msg.length
  | 0, ed, ed', pos, p, l, h, hp => by
    unfold recsR at h ⊢
    injection h with h; injection h with e1 e2; injection e2 with e2 e3
    subst e1 e2 e3
    exact ⟨rfl, hp⟩
  | k + 1, ed, ed', pos, p, l, h, hp => by
    unfold recsR at h ⊢
    split at h
    · cases h
    rename_i h1
    split at h
    · cases h
    rename_i h2
    injection h with h; injection h with e1 e2; injection e2 with e2 e3
    obtain ⟨a1, a2⟩ := recR_ext ext h1
    obtain ⟨b1, b2⟩ := recsR_ext ext h2 a2
    rw [a1]; dsimp only
    rw [b1]; dsimp only
    rw [e1, e2, ← e3]
    exact ⟨rfl, b2⟩
theorem n16_ext {msg : List UInt8} (ext : List UInt8) {at_ : Nat} (h : at_ + 2 ≤ msg.length) : n16 (msg ++ ext) at_ = n16 msg at_ := by
  unfold n16
  rw [List.drop_append_of_le_length (by omega), List.take_append_of_le_length (by rw [List.length_drop]; omega)]
theorem bodyR_ext {msg : List UInt8} (ext : List UInt8) {m : MsgD} {p : Nat} (h : bodyR msg = .ok (m, p)) (hl : 12 ≤ msg.length) : bodyR (msg ++ ext) = .ok (m, p) ∧ p ≤ msg.length := by
  unfold bodyR at h ⊢
  rw [n16_ext ext (by omega), n16_ext ext (by omega), n16_ext ext (by omega), n16_ext ext (by omega), n16_ext ext (by omega), n16_ext ext (by omega)]
  split at h
  · cases h
  rename_i h1
  split at h
  · cases h
  rename_i h2
  split at h
  · cases h
  rename_i h3
  split at h
  · cases h
  rename_i h4
  injection h with h; injection h with e1 e2
  obtain ⟨a1, a2⟩ := qusR_ext ext h1 hl
  obtain ⟨b1, b2⟩ := recsR_ext ext h2 a2
  obtain ⟨c1, c2⟩ := recsR_ext ext h3 b2
  obtain ⟨d1, d2⟩ := recsR_ext ext h4 c2
  rw [a1]; dsimp only
  rw [b1]; dsimp only
  rw [c1]; dsimp only
  rw [d1]; dsimp only
  rw [e1, ← e2]
  exact ⟨rfl, d2⟩
theorem decR_body {d : List UInt8} {m : MsgD} (h : decR d = .ok m) : 12 ≤ d.length ∧ ∃ p, bodyR d = .ok (m, p) ∧ ¬ p < d.length := by
  unfold decR at h
  split at h
  · cases h
  split at h
  · cases h
  split at h
  · cases h
  rename_i p h1
  split at h
  · cases h
  split at h
  · injection h with h
    subst h
    exact ⟨by omega, p, h1, by omega⟩
  · cases h
end Go.Proofs.YtcpikbanghoflaaGreatDoor
namespace Go.Proofs.YtcpikbanghoflaaGreatDoor
set_option linter.unusedSimpArgs false
set_option linter.unusedVariables false
open Go.RowKit
set_option maxRecDepth 100000
def AnsBd (l : List SetD) : Prop := l.length ≤ 1048576 ∧ ∀ s ∈ l, s.data.length ≤ 1048576
structure SetsOk7 (l : List SetD) : Prop where
  len : l.length ≤ 1048576
  bd : ∀ s ∈ l, s.name.length ≤ 1048576 ∧ s.data.length ≤ 65536 ∧ ∀ d ∈ s.data, d.length ≤ 1048576
  wf : ∀ s ∈ l, s.wfT
theorem SetsOk7.ans {l : List SetD} (h : SetsOk7 l) : AnsBd l := ⟨h.len, fun s hs => Nat.le_trans (h.bd s hs).2.1 (by omega)⟩
theorem SetsOk7.recs {l : List SetD} (h : SetsOk7 l) (ttl : Int) : ∀ r ∈ recsT l ttl, Rec7Ok r := by
  intro r hr
  unfold recsT at hr
  obtain ⟨s, hs, hr⟩ := List.mem_flatMap.1 hr
  obtain ⟨d, hd, rfl⟩ := List.mem_map.1 hr
  exact ⟨(h.bd s hs).1, (h.bd s hs).2.2 d hd⟩
def SmS (s : SetD) : Prop := s.name.length ≤ 400 ∧ s.data.length ≤ 400 ∧ ∀ d ∈ s.data, d.length ≤ 5000
def SmL (l : List SetD) : Prop := l.length ≤ 40 ∧ ∀ s ∈ l, SmS s
theorem SmL.ok {l : List SetD} (h : SmL l) (hw : ∀ s ∈ l, s.wfT) : SetsOk7 l :=
  ⟨Nat.le_trans h.1 (by omega), fun s hs => ⟨Nat.le_trans (h.2 s hs).1 (by omega), Nat.le_trans (h.2 s hs).2.1 (by omega), fun d hd => Nat.le_trans ((h.2 s hs).2.2 d hd) (by omega)⟩, hw⟩
end Go.Proofs.YtcpikbanghoflaaGreatDoor
