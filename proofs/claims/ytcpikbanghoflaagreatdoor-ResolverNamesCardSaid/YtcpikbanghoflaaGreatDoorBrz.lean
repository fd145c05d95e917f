/- Contracts of functions and plain lemmas that the proofs of this seat share (joined texts). No condition. -/
import Derived.Test.YtcpikbanghoflaaGreatDoorBwp
import Derived.Test.YtcpikbanghoflaaGreatDoorBg
import Derived.Test.YtcpikbanghoflaaGreatDoorBry
import Derived.Test.YtcpikbanghoflaaGreatDoorBd
import Derived.Test.YtcpikbanghoflaaGreatDoorBht
import Derived.Deep.RegionHeld3
import Derived.OpenShut
namespace Go.Proofs.YtcpikbanghoflaaGreatDoor
set_option linter.unusedSimpArgs false
set_option linter.unusedVariables false

def codeOf (c : CameD) (code size : Int) : List UInt8 :=
  if (c.kind = 2 ∨ c.kind = 3) ∧ (512 ≤ size ∧ size ≤ 4096) ∧ (0 ≤ code ∧ code ≤ 4095) ∧ (code ≤ 15 ∨ c.hasE = true) then encOf (blankOf c code size) else []
/-- A record for each datum of each set. -/
def recsT (l : List SetD) (ttl : Int) : List RecD := l.flatMap fun s => s.data.map fun d => ⟨s.name, s.typ, s.cls, ttl, d⟩
def fullOf (c : CameD) (code : Int) (sets soa : List SetD) (ttl size : Int) : MsgD := { blankOf c code size with ans := recsT sets ttl, auth := recsT soa ttl }
def cutOf (c : CameD) (code size : Int) : MsgD := { blankOf c code size with hd := { (blankOf c code size).hd with tc := true } }
def roomy (c : CameD) (code : Int) (sets soa : List SetD) (ttl size : Int) : Prop := encErr (fullOf c code sets soa ttl size) = 0 ∧ ((bodyW (fullOf c code sets soa ttl size)).1.length : Int) ≤ roomOf c size
instance (c : CameD) (code : Int) (sets soa : List SetD) (ttl size : Int) : Decidable (roomy c code sets soa ttl size) := inferInstanceAs (Decidable (_ ∧ _))
def ansMay (c : CameD) (code : Int) (sets soa : List SetD) (ttl size : Int) : Prop := c.kind = 3 ∧ (512 ≤ size ∧ size ≤ 4096) ∧ (code = 0 ∨ code = 3) ∧ ttl ≤ 2147483647
instance (c : CameD) (code : Int) (sets soa : List SetD) (ttl size : Int) : Decidable (ansMay c code sets soa ttl size) := inferInstanceAs (Decidable (_ ∧ _))
def ansOf (c : CameD) (code : Int) (sets soa : List SetD) (ttl size : Int) : List UInt8 :=
  if ansMay c code sets soa ttl size ∧ mayM (fullOf c code sets soa ttl size) = true then
    (if roomy c code sets soa ttl size then encOf (fullOf c code sets soa ttl size) else encOf (cutOf c code size))
  else []
theorem enc_ne {m : MsgD} (h : encErr m = 0) : encOf m ≠ [] := fun e => by have := (enc_id h).1; rw [e] at this; simp at this
theorem may_err {m : MsgD} (h : mayM m = true) : encErr m = 0 ∨ encErr m = 5 := by
  unfold encErr; rw [if_pos h]; split <;> simp
def SetD.wfT (s : SetD) : Prop := (0 ≤ s.typ ∧ s.typ ≤ 65535) ∧ (0 ≤ s.cls ∧ s.cls ≤ 65535)
theorem recsT_wf {l : List SetD} {ttl : Int} (h : ∀ s ∈ l, s.wfT) (ht : 0 ≤ ttl ∧ ttl ≤ 4294967295) : ∀ r ∈ recsT l ttl, r.wf := fun r hr => by
  unfold recsT at hr
  obtain ⟨s, hs, hr⟩ := List.mem_flatMap.1 hr
  obtain ⟨d, hd, rfl⟩ := List.mem_map.1 hr
  exact ⟨(h s hs).1, (h s hs).2, ht⟩
/-- What an answer by a verdict is read as. -/
theorem ans_read {d : List UInt8} {c : CameD} (hc : LookOk d c) {code : Int} {sets soa : List SetD} {ttl size : Int} (h1 : ∀ s ∈ sets, s.wfT) (h2 : ∀ s ∈ soa, s.wfT) (ht : 0 ≤ ttl ∧ ttl ≤ 4294967295)
    (h : ansOf c code sets soa ttl size ≠ []) :
    (ansMay c code sets soa ttl size ∧ mayM (fullOf c code sets soa ttl size) = true) ∧
    ((roomy c code sets soa ttl size ∧ ansOf c code sets soa ttl size = encOf (fullOf c code sets soa ttl size) ∧ decR (ansOf c code sets soa ttl size) = .ok (fullOf c code sets soa ttl size) ∧ ((ansOf c code sets soa ttl size).length : Int) ≤ roomOf c size) ∨
     (¬ roomy c code sets soa ttl size ∧ ansOf c code sets soa ttl size = encOf (cutOf c code size) ∧ decR (ansOf c code sets soa ttl size) = .ok (cutOf c code size) ∧ ((ansOf c code sets soa ttl size).length : Int) ≤ 282)) := by
  have hg : ansMay c code sets soa ttl size ∧ mayM (fullOf c code sets soa ttl size) = true := by
    unfold ansOf at h
    split at h
    · assumption
    · exact absurd rfl h
  refine ⟨hg, ?_⟩
  have hbw := blank_wf hc.wf code size
  unfold ansOf
  rw [if_pos hg]
  by_cases hr : roomy c code sets soa ttl size
  · rw [if_pos hr]
    have hw : (fullOf c code sets soa ttl size).wf := ⟨hbw.id, hbw.op, hbw.code, hbw.qs, recsT_wf h1 ht, recsT_wf h2 ht, hbw.extra, hbw.size, hbw.ext, hbw.ver, hbw.flags, hbw.opts⟩
    have hd := dec_enc hw hr.1
    exact .inl ⟨hr, rfl, hd, by rw [(enc_may hr.1).2.2]; exact hr.2⟩
  · rw [if_neg hr]
    obtain ⟨a1, a2, a3⟩ := hc.asks hg.1.1
    have hb := blank_enc code size (c := c) (by omega) hc.q true
    have hw : (cutOf c code size).wf := ⟨hbw.id, hbw.op, hbw.code, hbw.qs, hbw.ans, hbw.auth, hbw.extra, hbw.size, hbw.ext, hbw.ver, hbw.flags, hbw.opts⟩
    exact .inr ⟨hr, rfl, dec_enc hw hb.1, by unfold cutOf; omega⟩
theorem room_le (c : CameD) (size : Int) : 512 ≤ roomOf c size := by unfold roomOf; split <;> omega
theorem room_mono (c : CameD) {a b : Int} (h : a ≤ b) : roomOf c a ≤ roomOf c b := by
  unfold roomOf
  cases c.hasE
  · simp
  · simp only [true_and]
    split <;> split <;> omega
/-- AnswerFits: the reply by a code. -/
theorem code_fits {d : List UInt8} {c : CameD} (hc : LookOk d c) (hk : c.kind ≠ 1) {k n : Int} (hn : 512 ≤ n ∧ n ≤ 4096) (hkc : (0 ≤ k ∧ k ≤ 15) ∨ (c.kind = 2 ∧ k = c.code)) (ho : c.hd.op ≤ 15) :
    codeOf c k n = encOf (blankOf c k n) ∧ decR (codeOf c k n) = .ok (blankOf c k n) ∧ 2 ≤ (codeOf c k n).length ∧ ((codeOf c k n).length : Int) ≤ roomOf c n ∧ (codeOf c k n).take 2 = d.take 2 ∧
    (0 ≤ k ∧ k ≤ 16) ∧ (blankOf c k n).ed.ext * 16 + (blankOf c k n).hd.code = k ∧ 2 ≤ d.length := by
  obtain ⟨e1, e2⟩ := hc.hd hk
  have hk23 : c.kind = 2 ∨ c.kind = 3 := by rcases hc.kind with h | h | h <;> first | exact absurd h hk | exact .inl h | exact .inr h
  have hb := blank_enc k n ho hc.q false
  have heq : ({ blankOf c k n with hd := { (blankOf c k n).hd with tc := false } } : MsgD) = blankOf c k n := rfl
  rw [heq] at hb
  have hk16 : (0 ≤ k ∧ k ≤ 16) ∧ (k ≤ 15 ∨ c.hasE = true) := by
    rcases hkc with h | ⟨h, rfl⟩
    · omega
    · rcases hc.code h with h | h | h | ⟨h, he⟩
      · omega
      · omega
      · omega
      · exact ⟨by omega, .inr he⟩
  have hcode : codeOf c k n = encOf (blankOf c k n) := by
    unfold codeOf; rw [if_pos ⟨hk23, hn, by omega, hk16.2⟩]
  rw [hcode]
  have hid := enc_id hb.1
  have hr := room_le c n
  refine ⟨rfl, dec_enc (blank_wf hc.wf k n) hb.1, by omega, by omega, ?_, hk16.1, ?_, by omega⟩
  · rw [hid.2, data_id e2]
    show two c.hd.id.toNat = _
    rw [e1]
    show two ((n16 d 0 : Nat) : Int).toNat = _
    rw [Int.toNat_natCast]
  · unfold blankOf
    dsimp only
    cases he : c.hasE
    · have : k ≤ 15 := by rcases hk16.2 with h | h; exact h; rw [he] at h; cases h
      simp only [Bool.false_eq_true, if_false, edNone]; omega
    · simp only [if_true]; omega
/-- Other TTLs are as long. -/
theorem rec_ttl (pos : Nat) (r : RecD) (u : Int) (t : Tab) : (recW pos { r with ttl := u } t).1.length = (recW pos r t).1.length ∧ (recW pos { r with ttl := u } t).2 = (recW pos r t).2 := by
  unfold recW
  dsimp only
  exact ⟨by simp only [List.length_append, two_len, four_len], rfl⟩
theorem seq_ttl (u : Int) : ∀ (pos : Nat) (l : List RecD) (t : Tab), (seqW recW pos (l.map fun r => { r with ttl := u }) t).1.length = (seqW recW pos l t).1.length ∧ (seqW recW pos (l.map fun r => { r with ttl := u }) t).2 = (seqW recW pos l t).2
  | _, [], _ => ⟨rfl, rfl⟩
  | pos, r :: l, t => by
    obtain ⟨a1, a2⟩ := rec_ttl pos r u t
    simp only [List.map_cons, seqW]
    rw [a2, a1]
    obtain ⟨b1, b2⟩ := seq_ttl u (pos + (recW pos r t).1.length) l (recW pos r t).2
    refine ⟨?_, b2⟩
    rw [List.length_append, List.length_append, a1, b1]
theorem recsT_ttl (l : List SetD) (t u : Int) : recsT l u = (recsT l t).map fun r => { r with ttl := u } := by
  unfold recsT
  rw [List.map_flatMap]
  congr 1
  funext s
  rw [List.map_map]
  rfl
theorem full_ttl (c : CameD) (code : Int) (sets soa : List SetD) (t u size : Int) : mayM (fullOf c code sets soa u size) = mayM (fullOf c code sets soa t size) ∧ (bodyW (fullOf c code sets soa u size)).1.length = (bodyW (fullOf c code sets soa t size)).1.length := by
  unfold fullOf
  rw [recsT_ttl sets t u, recsT_ttl soa t u]
  generalize recsT sets t = a
  generalize recsT soa t = b
  refine ⟨?_, ?_⟩
  · unfold mayM
    dsimp only
    rw [List.all_map, List.all_map, List.length_map, List.length_map]
    rfl
  · unfold bodyW
    dsimp only
    have hx : (blankOf c code size).extra = [] := rfl
    rw [hx, List.append_nil, List.append_nil, ← List.map_append]
    simp only [List.length_append]
    rw [(seq_ttl u _ (a ++ b) _).1]
    simp only [headW, List.length_append, two_len]
theorem room_ttl (c : CameD) (code : Int) (sets soa : List SetD) (t u size : Int) : roomy c code sets soa u size ↔ roomy c code sets soa t size := by
  obtain ⟨h1, h2⟩ := full_ttl c code sets soa t u size
  unfold roomy encErr
  rw [h1, h2]
/-- TTLs of the sets count for nothing. -/
theorem recsT_sets (l : List SetD) (f : SetD → SetD) (h : ∀ s, f s = { s with ttl := (f s).ttl }) (t : Int) : recsT (l.map f) t = recsT l t := by
  unfold recsT
  rw [List.flatMap_map]
  congr 1
  funext s
  rw [h s]
/-- Another size of EDNS is as long. -/
theorem full_size (c : CameD) (code : Int) (sets soa : List SetD) (t a b : Int) : mayM (fullOf c code sets soa t b) = mayM (fullOf c code sets soa t a) ∧ (bodyW (fullOf c code sets soa t b)).1.length = (bodyW (fullOf c code sets soa t a)).1.length := by
  refine ⟨?_, ?_⟩
  · unfold fullOf blankOf mayM
    dsimp only
    cases c.hasE
    · rfl
    · simp
  · unfold bodyW
    dsimp only
    simp only [List.length_append]
    have h1 : (headW (fullOf c code sets soa t b)).length = (headW (fullOf c code sets soa t a)).length := by simp [headW, two_len]
    have h2 : ∀ s : Int, (if (fullOf c code sets soa t s).he = true then ednsW (fullOf c code sets soa t s).ed else []).length = if c.hasE = true then 11 else 0 := fun s => by
      unfold fullOf blankOf
      dsimp only
      split
      · simp [ednsW, optW, two_len, four_len]
      · rfl
    rw [h1, h2, h2]
    rfl
theorem room_more {c : CameD} {code : Int} {sets soa : List SetD} {t a b : Int} (h : a ≤ b) (hr : roomy c code sets soa t a) : roomy c code sets soa t b := by
  obtain ⟨h1, h2⟩ := full_size c code sets soa t a b
  unfold roomy encErr at hr ⊢
  rw [h1, h2]
  have := room_mono c h
  exact ⟨hr.1, by omega⟩
theorem rec_ok (r : RecD) : recOk7 r = (may r.name && rmay r.typ r.data) := by
  unfold recOk7
  by_cases h : r.typ = 41
  · have : rmay r.typ r.data = false := by rw [h]; rfl
    rw [this]; simp [h]
  · simp [h]
/-- AnswerRows: what may be. -/
theorem full_may {d : List UInt8} {c : CameD} (hc : LookOk d c) (code : Int) {sets soa : List SetD} (ttl size : Int) (hk : c.kind = 3) (h1 : (recsT sets ttl).length ≤ 65535) (h2 : (recsT soa ttl).length ≤ 65535) :
    mayM (fullOf c code sets soa ttl size) = ((recsT sets ttl).all (fun r => may r.name && rmay r.typ r.data) && (recsT soa ttl).all (fun r => may r.name && rmay r.typ r.data)) := by
  obtain ⟨a1, a2, a3⟩ := hc.asks hk
  have hb := blank_may (c := c) code size (by omega) hc.q
  unfold mayM at hb
  unfold fullOf mayM
  have e : recOk7 = fun r => may r.name && rmay r.typ r.data := funext rec_ok
  dsimp only
  simp only [Bool.and_eq_true, decide_eq_true_eq] at hb
  obtain ⟨⟨⟨⟨⟨⟨b1, b2⟩, b3, b4, b5, b6⟩, b7⟩, b8⟩, b9⟩, b10⟩ := hb
  rw [b1, b2, b7, b10, decide_eq_true (show _ ∧ _ from ⟨b3, h1, h2, b6⟩), e]
  simp
end Go.Proofs.YtcpikbanghoflaaGreatDoor
namespace Go.Proofs.YtcpikbanghoflaaGreatDoor
set_option linter.unusedSimpArgs false
set_option linter.unusedVariables false

theorem readF_ext (msg ext : List UInt8) : ∀ (n : Nat) (s : RdSt), (readF msg n s).2.2 = 0 → readF (msg ++ ext) n s = readF msg n s
  | 0, _, _ => rfl
  | n + 1, s, h => by
    unfold readF at h ⊢
    rcases hg : msg[s.pos]? with _ | b
    · rw [hg] at h; cases h
    · have hg' : (msg ++ ext)[s.pos]? = some b := by
        rw [List.getElem?_append_left (List.getElem?_eq_some_iff.1 hg).1]; exact hg
      rw [hg] at h
      rw [hg']
      dsimp only at h ⊢
      split
      · rfl
      · rename_i h0
        rw [if_neg h0] at h
        split
        · rename_i h1
          rw [if_pos h1] at h
          split at h
          · cases h
          · rename_i h2
            rw [if_neg (by rw [List.length_append]; omega), if_neg h2]
            split at h
            · cases h
            · rename_i h3
              rw [if_neg h3, if_neg h3]
              have hd : ((msg ++ ext).drop (s.pos + 1)).take b.toNat = (msg.drop (s.pos + 1)).take b.toNat := by
                rw [List.drop_append_of_le_length (by omega), List.take_append_of_le_length (by rw [List.length_drop]; omega)]
              rw [hd]
              exact readF_ext msg ext n _ h
        · rename_i h1
          rw [if_neg h1] at h
          split at h
          · cases h
          · rename_i h2
            rw [if_neg h2, if_neg h2]
            rcases hc : msg[s.pos + 1]? with _ | c
            · rw [hc] at h; cases h
            · have hc' : (msg ++ ext)[s.pos + 1]? = some c := by
                rw [List.getElem?_append_left (List.getElem?_eq_some_iff.1 hc).1]; exact hc
              rw [hc] at h
              rw [hc']
              dsimp only at h ⊢
              split at h
              · cases h
              · rename_i h3
                rw [if_neg h3, if_neg h3]
                exact readF_ext msg ext n _ h
theorem readF_le (msg : List UInt8) : ∀ (n : Nat) (s : RdSt), (readF msg n s).2.2 = 0 → (∀ k, s.nx = some k → k ≤ msg.length) → (readF msg n s).2.1 ≤ msg.length
  | 0, _, _, _ => Nat.zero_le _
  | n + 1, s, h, hk => by
    unfold readF at h ⊢
    rcases hg : msg[s.pos]? with _ | b
    · rw [hg] at h; cases h
    · have hlt := (List.getElem?_eq_some_iff.1 hg).1
      rw [hg] at h
      dsimp only at h ⊢
      split
      · dsimp only
        rcases hn : s.nx with _ | k
        · show s.pos + 1 ≤ _; omega
        · exact hk k hn
      · rename_i h0
        rw [if_neg h0] at h
        split
        · rename_i h1
          rw [if_pos h1] at h
          split at h
          · cases h
          · rename_i h2
            rw [if_neg h2]
            split at h
            · cases h
            · rename_i h3
              rw [if_neg h3]
              exact readF_le msg n _ h hk
        · rename_i h1
          rw [if_neg h1] at h
          split at h
          · cases h
          · rename_i h2
            rw [if_neg h2]
            rcases hc : msg[s.pos + 1]? with _ | c
            · rw [hc] at h; cases h
            · have hlt2 := (List.getElem?_eq_some_iff.1 hc).1
              rw [hc] at h
              dsimp only at h ⊢
              split at h
              · cases h
              · rename_i h3
                rw [if_neg h3]
                refine readF_le msg n _ h fun k hk' => ?_
                dsimp only at hk'
                injection hk' with hk'
                rcases hn : s.nx with _ | k'
                · rw [hn] at hk'; simp at hk'; omega
                · rw [hn] at hk'; simp at hk'; have := hk k' hn; omega
theorem nameR_ext {msg : List UInt8} {pos p : Nat} {n : List UInt8} (ext : List UInt8) (h : nameR msg pos = .ok (n, p)) : nameR (msg ++ ext) pos = .ok (n, p) ∧ p ≤ msg.length := by
  unfold nameR at h
  split at h
  · rename_i h0
    have e : readN (msg ++ ext) pos = readN msg pos := by unfold readN readS at h0 ⊢; exact readF_ext msg ext _ _ h0
    have hl : (readN msg pos).2.1 ≤ msg.length := by unfold readN readS at h0 ⊢; exact readF_le msg _ _ h0 (by simp)
    injection h with h; injection h with h1 h2
    unfold nameR
    rw [e, if_pos h0, h1, h2]
    exact ⟨rfl, by omega⟩
  · cases h
theorem numR_ext {msg : List UInt8} {k pos p v : Nat} (ext : List UInt8) (h : numR k msg pos = .ok (v, p)) : numR k (msg ++ ext) pos = .ok (v, p) ∧ p ≤ msg.length := by
  unfold numR at h ⊢
  split at h
  · cases h
  · rename_i h0
    injection h with h; injection h with h1 h2
    rw [if_neg (by rw [List.length_append]; omega), List.drop_append_of_le_length (by omega), List.take_append_of_le_length (by rw [List.length_drop]; omega), h1, h2]
    exact ⟨rfl, by omega⟩
theorem quR_ext {msg : List UInt8} {pos p : Nat} {q : QD} (ext : List UInt8) (h : quR msg pos = .ok (q, p)) : quR (msg ++ ext) pos = .ok (q, p) ∧ p ≤ msg.length := by
  unfold quR at h
  split at h
  · cases h
  rename_i h1
  split at h
  · cases h
  rename_i h2
  split at h
  · cases h
  rename_i h3
  injection h with h; injection h with e1 e2
  unfold quR
  rw [(nameR_ext ext h1).1]; dsimp only
  rw [(numR_ext ext h2).1]; dsimp only
  rw [(numR_ext ext h3).1]; dsimp only
  rw [e1, ← e2]
  exact ⟨rfl, (numR_ext ext h3).2⟩
theorem qusR_ext {msg : List UInt8} (ext : List UInt8) : ∀ {k pos p : Nat} {l : List QD}, qusR msg k pos = .ok (l, p) → pos ≤ msg.length → qusR (msg ++ ext) k pos = .ok (l, p) ∧ p ≤ msg.length
  | 0, pos, p, l, h, hp => by
    unfold qusR at h ⊢
    injection h with h; injection h with e1 e2
    subst e1 e2
    exact ⟨rfl, hp⟩
  | k + 1, pos, p, l, h, hp => by
    unfold qusR at h ⊢
    split at h
    · cases h
    rename_i h1
    split at h
    · cases h
    rename_i h2
    injection h with h; injection h with e1 e2
    obtain ⟨a1, a2⟩ := quR_ext ext h1
    obtain ⟨b1, b2⟩ := qusR_ext ext h2 a2
    rw [a1]; dsimp only
    rw [b1]; dsimp only
    rw [e1, ← e2]
    exact ⟨rfl, b2⟩
theorem recR_ext {msg : List UInt8} (ext : List UInt8) {more : Bool} {ed ed' : Option EdD} {pos p : Nat} {r : Option RecD} (h : recR msg more ed pos = .ok (r, ed', p)) : recR (msg ++ ext) more ed pos = .ok (r, ed', p) ∧ p ≤ msg.length := by
  unfold recR at h
  split at h
  · cases h
  rename_i h1
  split at h
  · cases h
  rename_i h2
  split at h
  · cases h
  rename_i h3
  split at h
  · cases h
  rename_i h4
  split at h
  · cases h
  rename_i p' h5
  split at h
  · cases h
  rename_i h6
  unfold recR
  rw [(nameR_ext ext h1).1]; dsimp only
  rw [(numR_ext ext h2).1]; dsimp only
  rw [(numR_ext ext h3).1]; dsimp only
  rw [(numR_ext ext h4).1]; dsimp only
  rw [(numR_ext ext h5).1]; dsimp only
  have hp' := (numR_ext ext h5).2
  rw [if_neg (by rw [List.length_append]; omega), List.drop_append_of_le_length (by omega), List.take_append_of_le_length (by rw [List.length_drop]; omega), List.take_append_of_le_length (by omega)]
  refine ⟨h, ?_⟩
  split at h
  · split at h
    · cases h
    split at h
    · cases h
    injection h with h; injection h with e1 e2; injection e2 with e2 e3
    omega
  · split at h
    · injection h with h; injection h with e1 e2; injection e2 with e2 e3
      omega
    · cases h
theorem recsR_ext {msg : List UInt8} (ext : List UInt8) {more : Bool} : ∀ {k : Nat} {ed ed' : Option EdD} {pos p : Nat} {l : List RecD}, recsR msg more k ed pos = .ok (l, ed', p) → pos ≤ msg.length → recsR (msg ++ ext) more k ed pos = .ok (l, ed', p) ∧ p ≤ msg.length
  | 0, ed, ed', pos, p, l, h, hp => by
    unfold recsR at h ⊢
    injection h with h; injection h with e1 e2; injection e2 with e2 e3
    subst e1 e2 e3
    exact ⟨rfl, hp⟩
  | k + 1, ed, ed', pos, p, l, h, hp => by
    unfold recsR at h ⊢
    split at h
    · cases h
    rename_i h1
    split at h
    · cases h
    rename_i h2
    injection h with h; injection h with e1 e2; injection e2 with e2 e3
    obtain ⟨a1, a2⟩ := recR_ext ext h1
    obtain ⟨b1, b2⟩ := recsR_ext ext h2 a2
    rw [a1]; dsimp only
    rw [b1]; dsimp only
    rw [e1, e2, ← e3]
    exact ⟨rfl, b2⟩
theorem n16_ext {msg : List UInt8} (ext : List UInt8) {at_ : Nat} (h : at_ + 2 ≤ msg.length) : n16 (msg ++ ext) at_ = n16 msg at_ := by
  unfold n16
  rw [List.drop_append_of_le_length (by omega), List.take_append_of_le_length (by rw [List.length_drop]; omega)]
theorem bodyR_ext {msg : List UInt8} (ext : List UInt8) {m : MsgD} {p : Nat} (h : bodyR msg = .ok (m, p)) (hl : 12 ≤ msg.length) : bodyR (msg ++ ext) = .ok (m, p) ∧ p ≤ msg.length := by
  unfold bodyR at h ⊢
  rw [n16_ext ext (by omega), n16_ext ext (by omega), n16_ext ext (by omega), n16_ext ext (by omega), n16_ext ext (by omega), n16_ext ext (by omega)]
  split at h
  · cases h
  rename_i h1
  split at h
  · cases h
  rename_i h2
  split at h
  · cases h
  rename_i h3
  split at h
  · cases h
  rename_i h4
  injection h with h; injection h with e1 e2
  obtain ⟨a1, a2⟩ := qusR_ext ext h1 hl
  obtain ⟨b1, b2⟩ := recsR_ext ext h2 a2
  obtain ⟨c1, c2⟩ := recsR_ext ext h3 b2
  obtain ⟨d1, d2⟩ := recsR_ext ext h4 c2
  rw [a1]; dsimp only
  rw [b1]; dsimp only
  rw [c1]; dsimp only
  rw [d1]; dsimp only
  rw [e1, ← e2]
  exact ⟨rfl, d2⟩
theorem decR_body {d : List UInt8} {m : MsgD} (h : decR d = .ok m) : 12 ≤ d.length ∧ ∃ p, bodyR d = .ok (m, p) ∧ ¬ p < d.length := by
  unfold decR at h
  split at h
  · cases h
  split at h
  · cases h
  split at h
  · cases h
  rename_i p h1
  split at h
  · cases h
  split at h
  · injection h with h
    subst h
    exact ⟨by omega, p, h1, by omega⟩
  · cases h
/-- More bytes behind a message: it is none. -/
theorem dec_more {d more : List UInt8} {m : MsgD} (h : decR d = .ok m) (hm : more ≠ []) (n : MsgD) : decR (d ++ more) ≠ .ok n := fun e => by
  obtain ⟨l1, p, b1, b2⟩ := decR_body h
  obtain ⟨l2, p', c1, c2⟩ := decR_body e
  obtain ⟨x1, x2⟩ := bodyR_ext more b1 l1
  rw [x1] at c1
  injection c1 with c1; injection c1 with e1 e2
  rw [List.length_append] at c2
  have : 0 < more.length := by rcases more with _ | ⟨a, l⟩; exact absurd rfl hm; simp
  omega
/-- A message cut short: it is none. -/
theorem dec_cut {d : List UInt8} {m : MsgD} (h : decR d = .ok m) {k : Nat} (hk : k < d.length) (n : MsgD) : decR (d.take k) ≠ .ok n := fun e => by
  have hne : d.drop k ≠ [] := fun e => by rw [List.drop_eq_nil_iff] at e; omega
  have := dec_more e hne m
  rw [List.take_append_drop] at this
  exact this h
end Go.Proofs.YtcpikbanghoflaaGreatDoor
namespace Go.Proofs.YtcpikbanghoflaaGreatDoor
set_option linter.unusedSimpArgs false
set_option linter.unusedVariables false
open Go.RowKit
set_option maxRecDepth 100000

def sizedB (n : Int) : Bool := decide (512 ≤ n ∧ n ≤ 4096)
theorem recs_nil (w : World) : Recs w 0 (.slice none 0 0) [] := ⟨none, 0, rfl, Nat.le_refl _, Nat.zero_le _, ⟨rfl, fun h => absurd h (Nat.lt_irrefl _)⟩⟩
theorem opts_nil (w : World) : Opts w 0 (.slice none 0 0) [] := ⟨none, 0, rfl, Nat.le_refl _, Nat.zero_le _, ⟨rfl, fun h => absurd h (Nat.lt_irrefl _)⟩⟩
theorem blank_opts (c : CameD) (code size : Int) : (blankOf c code size).ed.opts = [] := by unfold blankOf edNone; dsimp only; split <;> rfl
theorem blank_qok (c : CameD) (code size : Int) (hn : c.q.name.length ≤ 1048576) : ∀ q ∈ (blankOf c code size).qs, q.name.length ≤ 1048576 := by
  unfold blankOf
  intro q hq
  dsimp only at hq
  split at hq
  · rw [List.mem_singleton] at hq; rw [hq]; exact hn
  · cases hq
theorem blank_msg7 {w : World} {c : CameD} {code size : Int} {q : Value} (h : Qus w 0 q (blankOf c code size).qs) (hn : c.q.name.length ≤ 1048576) : Msg7 w (blankOf c code size) q (.slice none 0 0) (.slice none 0 0) (.slice none 0 0) (.slice none 0 0) :=
  ⟨h, recs_nil w, recs_nil w, recs_nil w, by rw [blank_opts]; exact opts_nil w, blank_qok c code size hn, (fun r (hr : r ∈ ([] : List RecD)) => by cases hr), (fun r (hr : r ∈ ([] : List RecD)) => by cases hr), (fun r (hr : r ∈ ([] : List RecD)) => by cases hr), Nat.zero_le _⟩
def StrPost (s : List UInt8) (w : World) (e : Ending) (w' : World) : Prop := e = .returned (S s) ∧ Ext w w'
end Go.Proofs.YtcpikbanghoflaaGreatDoor
namespace Go.Proofs.YtcpikbanghoflaaGreatDoor
set_option linter.unusedSimpArgs false
set_option linter.unusedVariables false
open Go.RowKit
set_option maxRecDepth 100000

def recs1 (s : SetD) (ttl : Int) (k : Nat) : List RecD := (s.data.take k).map fun d => ⟨s.name, s.typ, s.cls, ttl, d⟩
def AnsBd (l : List SetD) : Prop := l.length ≤ 1048576 ∧ ∀ s ∈ l, s.data.length ≤ 1048576
theorem recsT_len {l : List SetD} (ttl : Int) (h : ∀ s ∈ l, s.data.length ≤ 1048576) : (recsT l ttl).length ≤ l.length * 1048576 := by
  induction l with
  | nil => simp [recsT]
  | cons s l ih =>
    have h1 := h s (by simp)
    have h2 := ih (fun x hx => h x (by simp [hx]))
    simp only [recsT, List.flatMap_cons, List.length_append, List.length_map, List.length_cons, Nat.succ_mul] at h2 ⊢
    omega
theorem recsT_step (l : List SetD) (ttl : Int) (k : Nat) (s : SetD) (h : l[k]? = some s) : recsT (l.take (k + 1)) ttl = recsT (l.take k) ttl ++ recs1 s ttl s.data.length := by
  obtain ⟨hk, rfl⟩ := List.getElem?_eq_some_iff.1 h
  unfold recsT recs1
  rw [take_snoc l k hk, List.flatMap_append, List.take_length]
  simp only [List.flatMap_cons, List.flatMap_nil, List.append_nil]
theorem recs1_step (s : SetD) (ttl : Int) (k : Nat) (d : List UInt8) (h : s.data[k]? = some d) : recs1 s ttl (k + 1) = recs1 s ttl k ++ [⟨s.name, s.typ, s.cls, ttl, d⟩] := by
  obtain ⟨hk, rfl⟩ := List.getElem?_eq_some_iff.1 h
  unfold recs1
  rw [take_snoc s.data k hk, List.map_append]; rfl
def ORec7Post (l : List RecD) (w : World) (e : Ending) (w' : World) : Prop := ∃ v, e = .returned v ∧ ORec7 w' w.heap.size v l ∧ Ext w w'
structure ArInv (w : World) (acc : List RecD) (A : Option Addr) (c : Nat) (wr : World) : Prop where
  own : Own wr w.heap.size 28 5 A acc.length c (acc.flatMap recCells)
  ext : Ext w wr
end Go.Proofs.YtcpikbanghoflaaGreatDoor
namespace Go.Proofs.YtcpikbanghoflaaGreatDoor
set_option linter.unusedSimpArgs false
set_option linter.unusedVariables false
open Go.RowKit
set_option maxRecDepth 100000

structure SetsOk7 (l : List SetD) : Prop where
  len : l.length ≤ 1048576
  bd : ∀ s ∈ l, s.name.length ≤ 1048576 ∧ s.data.length ≤ 65536 ∧ ∀ d ∈ s.data, d.length ≤ 1048576
  wf : ∀ s ∈ l, s.wfT
theorem SetsOk7.ans {l : List SetD} (h : SetsOk7 l) : AnsBd l := ⟨h.len, fun s hs => Nat.le_trans (h.bd s hs).2.1 (by omega)⟩
theorem SetsOk7.recs {l : List SetD} (h : SetsOk7 l) (ttl : Int) : ∀ r ∈ recsT l ttl, Rec7Ok r := by
  intro r hr
  unfold recsT at hr
  obtain ⟨s, hs, hr⟩ := List.mem_flatMap.1 hr
  obtain ⟨d, hd, rfl⟩ := List.mem_map.1 hr
  exact ⟨(h.bd s hs).1, (h.bd s hs).2.2 d hd⟩
/-- A message with answers and authority. -/
def withR (m : MsgD) (a u : List RecD) : MsgD := { m with ans := a, auth := u }
def withT (m : MsgD) : MsgD := { m with hd := { m.hd with tc := true } }
theorem ans_cases {c : CameD} {code : Int} {sets soa : List SetD} {ttl size : Int} (h : ansMay c code sets soa ttl size) :
    (mayM (withR (blankOf c code size) (recsT sets ttl) (recsT soa ttl)) = false ∧ ansOf c code sets soa ttl size = []) ∨
    (mayM (withR (blankOf c code size) (recsT sets ttl) (recsT soa ttl)) = true ∧ encErr (withR (blankOf c code size) (recsT sets ttl) (recsT soa ttl)) = 0 ∧ ((encOf (withR (blankOf c code size) (recsT sets ttl) (recsT soa ttl))).length : Int) ≤ roomOf c size ∧ ansOf c code sets soa ttl size = encOf (withR (blankOf c code size) (recsT sets ttl) (recsT soa ttl))) ∨
    (mayM (withR (blankOf c code size) (recsT sets ttl) (recsT soa ttl)) = true ∧ (encErr (withR (blankOf c code size) (recsT sets ttl) (recsT soa ttl)) ≠ 0 ∨ ¬ ((encOf (withR (blankOf c code size) (recsT sets ttl) (recsT soa ttl))).length : Int) ≤ roomOf c size) ∧ ansOf c code sets soa ttl size = encOf (withT (blankOf c code size))) := by
  have e1 : withR (blankOf c code size) (recsT sets ttl) (recsT soa ttl) = fullOf c code sets soa ttl size := rfl
  have e2 : withT (blankOf c code size) = cutOf c code size := rfl
  rw [e1, e2]
  unfold ansOf
  by_cases hm : mayM (fullOf c code sets soa ttl size) = true
  · rw [if_pos ⟨h, hm⟩]
    by_cases hr : roomy c code sets soa ttl size
    · rw [if_pos hr]
      refine .inr (.inl ⟨hm, hr.1, ?_, rfl⟩)
      rw [(enc_may hr.1).2.2]; exact hr.2
    · rw [if_neg hr]
      refine .inr (.inr ⟨hm, ?_, rfl⟩)
      by_cases he : encErr (fullOf c code sets soa ttl size) = 0
      · right
        intro hl
        rw [(enc_may he).2.2] at hl
        exact hr ⟨he, hl⟩
      · exact .inl he
  · rw [if_neg (fun hh => hm hh.2)]
    exact .inl ⟨by rcases hb : mayM (fullOf c code sets soa ttl size) with _ | _; rfl; exact absurd hb hm, rfl⟩
end Go.Proofs.YtcpikbanghoflaaGreatDoor
namespace Go.Proofs.YtcpikbanghoflaaGreatDoor
set_option linter.unusedSimpArgs false
set_option linter.unusedVariables false
set_option maxRecDepth 100000

def qry28 : List UInt8 := [0, 7, 1, 0, 0, 1, 0, 0, 0, 0, 0, 0, 2, 101, 120, 0, 0, 1, 0, 1]
def adrs (n : Nat) : SetD := ⟨[2, 101, 120, 0], 1, 1, 0, (List.range n).map fun i => [10, 0, 0, UInt8.ofNat (i + 1)]⟩
def came28 : CameD := ⟨3, 0, ⟨7, false, 0, false, false, true, false, false, false, false, 0⟩, true, ⟨[2, 101, 120, 0], 1, 1⟩, false, 0⟩
theorem look28 : lookOf qry28 = came28 := by kernel_rfl
theorem code28 : codeOf came28 2 1232 = [0, 7, 129, 130, 0, 1, 0, 0, 0, 0, 0, 0, 2, 101, 120, 0, 0, 1, 0, 1] := by kernel_rfl
theorem of28 : ansOf came28 0 [adrs 1] [] 5 1232 = [0, 7, 129, 128, 0, 1, 0, 1, 0, 0, 0, 0, 2, 101, 120, 0, 0, 1, 0, 1, 192, 12, 0, 1, 0, 1, 0, 0, 0, 5, 0, 4, 10, 0, 0, 1] := by kernel_rfl
theorem cut28 : ansOf came28 0 [adrs 31] [] 5 1232 = [0, 7, 131, 128, 0, 1, 0, 0, 0, 0, 0, 0, 2, 101, 120, 0, 0, 1, 0, 1] := by kernel_rfl
end Go.Proofs.YtcpikbanghoflaaGreatDoor
namespace Go.Proofs.YtcpikbanghoflaaGreatDoor
set_option linter.unusedSimpArgs false
set_option linter.unusedVariables false
theorem look_noq {d : List UInt8} (h : (lookOf d).hasQ = false) : (lookOf d).q = qNone := by
  unfold lookOf at h ⊢
  split
  · rfl
  · rename_i h1
    rw [if_neg h1] at h
    split
    · rfl
    · rename_i h2
      rw [if_neg h2] at h
      split
      · rfl
      · rename_i h3
        rw [if_neg h3] at h
        cases hm : decR d with
        | error e => rfl
        | ok m =>
          rw [hm] at h
          dsimp only at h ⊢
          unfold lookM at h ⊢
          split
          · rename_i q hq
            rw [hq] at h
            dsimp only at h
            split at h
            · cases h
            · split at h <;> cases h
          · rfl
end Go.Proofs.YtcpikbanghoflaaGreatDoor
namespace Go.Proofs.YtcpikbanghoflaaGreatDoor
set_option linter.unusedSimpArgs false
set_option linter.unusedVariables false
open Go.RowKit
set_option maxRecDepth 100000

def adr (i : Nat) : List UInt8 := [10, 0, 0, UInt8.ofNat (i + 1)]
def adrsTo (k : Nat) : List (List UInt8) := (List.range k).map adr
theorem adrsTo_step (k : Nat) : adrsTo (k + 1) = adrsTo k ++ [adr k] := by unfold adrsTo; rw [List.range_succ, List.map_append]; rfl
theorem adrs_eq (n : Nat) : adrs n = ⟨[2, 101, 120, 0], 1, 1, 0, adrsTo n⟩ := rfl
def AdrPost (n : Nat) (w : World) (e : Ending) (w' : World) : Prop := ∃ v, e = .returned (.agg #[.int .u8 0, v, .slice none 0 0]) ∧ Sets w' 0 v [adrs n] ∧ Ext w w'
theorem came28_wf : came28.wf := ⟨⟨by decide, by decide⟩, ⟨by decide, by decide⟩, ⟨⟨by decide, by decide⟩, by decide, by decide⟩⟩
theorem adrs_ok (n : Nat) (hn : n ≤ 255) : SetsOk7 [adrs n] := by
  have hal : (adrsTo n).length = n := by unfold adrsTo; rw [List.length_map, List.length_range]
  refine ⟨by simp, fun s hs => ?_, fun s hs => ?_⟩
  · rw [List.mem_singleton] at hs
    subst hs
    rw [adrs_eq]
    refine ⟨by dsimp only; simp, by dsimp only; omega, fun d hd => ?_⟩
    dsimp only at hd
    unfold adrsTo at hd
    obtain ⟨i, _, rfl⟩ := List.mem_map.1 hd
    simp [adr]
  · rw [List.mem_singleton] at hs
    subst hs
    rw [adrs_eq]
    exact ⟨⟨(by decide : (0 : Int) ≤ 1), (by decide : (1 : Int) ≤ 65535)⟩, (by decide : (0 : Int) ≤ 1), (by decide : (1 : Int) ≤ 65535)⟩
theorem soa_nil : SetsOk7 [] := ⟨by simp, (fun s hs => by cases hs), (fun s hs => by cases hs)⟩
theorem sets_nil (w : World) : Sets w 0 (.slice none 0 0) [] := ⟨[], none, 0, rfl, rfl, Nat.le_refl _, Nat.zero_le _, ⟨rfl, fun h => absurd h (Nat.lt_irrefl _)⟩, fun p hp => by cases hp⟩
def AwPost (w : World) (e : Ending) (w' : World) : Prop := e = .returned (.bool true) ∧ Ext w w'
end Go.Proofs.YtcpikbanghoflaaGreatDoor
namespace Go.Proofs.YtcpikbanghoflaaGreatDoor
set_option linter.unusedSimpArgs false
set_option linter.unusedVariables false
open Go.RowKit
set_option maxRecDepth 100000

def SmS (s : SetD) : Prop := s.name.length ≤ 400 ∧ s.data.length ≤ 400 ∧ ∀ d ∈ s.data, d.length ≤ 5000
def SmL (l : List SetD) : Prop := l.length ≤ 40 ∧ ∀ s ∈ l, SmS s
theorem all_step {α : Type} {P : α → Prop} {l : List α} {k : Nat} {x : α} (h : ∀ y ∈ l.take k, P y) (hx : l[k]? = some x) (hp : P x) : ∀ y ∈ l.take (k + 1), P y := by
  obtain ⟨hk, rfl⟩ := List.getElem?_eq_some_iff.1 hx
  rw [take_snoc l k hk]
  intro y hy
  rcases List.mem_append.1 hy with h1 | h1
  · exact h y h1
  · rw [List.mem_singleton] at h1; rw [h1]; exact hp
def SmPost (sets soa : List SetD) (w : World) (e : Ending) (w' : World) : Prop := ∃ B, e = .returned (.bool B) ∧ (B = true → SmL sets ∧ SmL soa) ∧ Ext w w'
end Go.Proofs.YtcpikbanghoflaaGreatDoor
namespace Go.Proofs.YtcpikbanghoflaaGreatDoor
set_option linter.unusedSimpArgs false
set_option linter.unusedVariables false
open Go.RowKit
/-- What law28's laws ask of their arguments. -/
structure Arg28 (w : World) (d : List UInt8) (vc ttl : Int) (vs vo : Value) (sets soa : List SetD) : Prop where
  d : d.length ≤ maxLen
  vc : 0 ≤ vc ∧ vc ≤ 255
  ttl : 0 ≤ ttl ∧ ttl ≤ 4294967295
  vs : Sets w 0 vs sets
  vo : Sets w 0 vo soa
  ws : ∀ s ∈ sets, s.wfT
  wo : ∀ s ∈ soa, s.wfT
theorem SmL.ok {l : List SetD} (h : SmL l) (hw : ∀ s ∈ l, s.wfT) : SetsOk7 l :=
  ⟨Nat.le_trans h.1 (by omega), fun s hs => ⟨Nat.le_trans (h.2 s hs).1 (by omega), Nat.le_trans (h.2 s hs).2.1 (by omega), fun d hd => Nat.le_trans ((h.2 s hs).2.2 d hd) (by omega)⟩, hw⟩
end Go.Proofs.YtcpikbanghoflaaGreatDoor
