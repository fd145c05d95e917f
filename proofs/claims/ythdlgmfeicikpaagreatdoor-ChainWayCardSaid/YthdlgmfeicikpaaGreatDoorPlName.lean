/- Plain: what is read out of a message is a name; a name that lies in a message is read. No condition. -/
import Derived.Test.YthdlgmfeicikpaaGreatDoorPlRdata
namespace Go.Proofs.YthdlgmfeicikpaaGreatDoor
set_option linter.unusedSimpArgs false
set_option linter.unusedVariables false
set_option maxRecDepth 100000

theorem parse_label (b : UInt8) (r : List UInt8) (h0 : b.toNat ≠ 0) (h : b.toNat < 64) : (parse (b :: r)).isSome = (parse (r.drop b.toNat)).isSome := by
  rw [parse_cons, if_neg (fun e => h0 (by rw [e]; rfl)), if_neg (by omega), Option.isSome_map]

theorem readS_valid (msg : List UInt8) : ∀ (m : Nat) (s : RdSt), s.meas < m → (∀ t, (parse (s.out ++ t)).isSome = (parse t).isSome) → s.out.length ≤ 254 → (readS msg s).2.2 = 0 → may (readS msg s).1 = true ∧ (readS msg s).1.length ≤ 255
  | 0, _, h, _, _, _ => absurd h (by omega)
  | m + 1, s, hm, hpre, hlen, he => by
    rcases hb : msg[s.pos]? with _ | b
    · rw [readS_end msg s hb] at he; simp at he
    by_cases h0 : b.toNat = 0
    · have hz : b = 0 := UInt8.toNat_inj.1 (by simpa using h0)
      subst hz
      rw [readS_zero msg s hb]
      have hl : (s.out ++ [0]).length ≤ 255 := by simp; omega
      refine ⟨?_, hl⟩
      show may (s.out ++ [0]) = true
      unfold may labelsOf
      rw [if_pos hl, hpre]; rfl
    by_cases h1 : b.toNat < 64
    · by_cases h2 : msg.length < s.pos + 1 + b.toNat
      · rw [readS_short msg s b hb h0 h1 h2] at he; simp at he
      by_cases h3 : 255 < s.out.length + 1 + b.toNat + 1
      · rw [readS_long msg s b hb h0 h1 h2 h3] at he; simp at he
      rw [readS_label msg s b hb h0 h1 h2 h3] at he ⊢
      have hl : ((msg.drop (s.pos + 1)).take b.toNat).length = b.toNat := by simp; omega
      refine readS_valid msg m _ ?_ ?_ ?_ he
      · simp only [RdSt.meas, List.length_append, List.length_cons, hl] at *; omega
      · intro t
        show (parse (s.out ++ b :: (msg.drop (s.pos + 1)).take b.toNat ++ t)).isSome = _
        rw [List.append_assoc, hpre, List.cons_append, parse_label b _ h0 h1, List.drop_append_of_le_length (by omega), List.drop_of_length_le (by omega), List.nil_append]
      · show (s.out ++ b :: (msg.drop (s.pos + 1)).take b.toNat).length ≤ 254
        rw [List.length_append, List.length_cons, hl]; omega
    by_cases h2 : b.toNat < 192
    · rw [readS_form msg s b hb h0 h1 h2] at he; simp at he
    rcases hc : msg[s.pos + 1]? with _ | c
    · rw [readS_cut msg s b hb h0 h2 hc] at he; simp at he
    by_cases h3 : s.lim ≤ (b.toNat - 192) * 256 + c.toNat
    · rw [readS_loop msg s b hb h0 h2 c hc h3] at he; simp at he
    rw [readS_jump msg s b hb h0 h2 c hc h3] at he ⊢
    generalize (b.toNat - 192) * 256 + c.toNat = to at *
    exact readS_valid msg m _ (meas_jump h3 hm) hpre hlen he

theorem readN_valid {msg : List UInt8} {pos : Nat} (h : (readN msg pos).2.2 = 0) : may (readN msg pos).1 = true :=
  (readS_valid msg _ _ (Nat.lt_succ_self _) (fun _ => rfl) (by simp) h).1

theorem readS_plain (msg n : List UInt8) (p : Nat) (hn : (msg.drop p).take n.length = n) (hl : n.length ≤ 255) (lim : Nat) (nx : Option Nat) : ∀ (m k : Nat), n.length - k < m → k ≤ n.length → (parse (n.drop k)).isSome = true →
    readS msg ⟨p + k, lim, nx, n.take k⟩ = (n, nx.getD (p + n.length), 0)
  | 0, _, h, _, _ => absurd h (by omega)
  | m + 1, k, hm, hk, hp => by
    have hat : ∀ j, j < n.length → msg[p + j]? = n[j]? := fun j hj => by
      conv => rhs; rw [← hn]
      rw [List.getElem?_take_of_lt hj, List.getElem?_drop]
    have hml : p + n.length ≤ msg.length := by
      have := congrArg List.length hn
      rw [List.length_take, List.length_drop] at this
      rcases Nat.eq_zero_or_pos n.length with h | h
      · rw [List.eq_nil_of_length_eq_zero h] at hp; simp [parse_nil] at hp
      · omega
    by_cases hlt : k < n.length
    · have hd := drop_cons n k hlt
      have hb : msg[p + k]? = some n[k] := by rw [hat k hlt]; exact List.getElem?_eq_getElem hlt
      generalize hbe : n[k] = b at *
      by_cases h0 : b.toNat = 0
      · have hz : b = 0 := UInt8.toNat_inj.1 (by simpa using h0)
        subst hz
        rw [hd, parse_cons, if_pos rfl] at hp
        have he : n.drop (k + 1) = [] := by
          by_cases e : n.drop (k + 1) = []
          · exact e
          · rw [if_neg e] at hp; simp at hp
        have hk1 : n.length = k + 1 := by
          have := congrArg List.length he
          simp at this; omega
        rw [readS_zero msg _ (by exact hb)]
        have : n.take k ++ [0] = n := by
          conv => rhs; rw [← List.take_append_drop k n, hd, he]
        simp only [this, hk1]
        rfl
      · by_cases h1 : b.toNat < 64
        · have hp2 := hp
          rw [hd, parse_label b _ h0 h1, List.drop_drop] at hp2
          have hlt2 : k + 1 + b.toNat < n.length := by
            rcases Nat.lt_or_ge (k + 1 + b.toNat) n.length with h | h
            · exact h
            · rw [List.drop_of_length_le h] at hp2; simp [parse_nil] at hp2
          rw [readS_label msg _ b (by exact hb) h0 h1 (by show ¬ msg.length < p + k + 1 + b.toNat; omega) (by show ¬ 255 < (n.take k).length + 1 + b.toNat + 1; rw [List.length_take]; omega)]
          have e1 : (⟨p + k + 1 + b.toNat, lim, nx, n.take k ++ b :: (msg.drop (p + k + 1)).take b.toNat⟩ : RdSt) = ⟨p + (k + 1 + b.toNat), lim, nx, n.take (k + 1 + b.toNat)⟩ := by
            have e2 : n.take (k + 1 + b.toNat) = n.take k ++ b :: (msg.drop (p + k + 1)).take b.toNat := by
              apply List.ext_getElem?
              intro j
              rcases Nat.lt_or_ge j (k + 1 + b.toNat) with h | h
              · rw [List.getElem?_take_of_lt h]
                rcases Nat.lt_or_ge j k with h' | h'
                · rw [List.getElem?_append_left (by rw [List.length_take]; omega), List.getElem?_take_of_lt h']
                · rw [List.getElem?_append_right (by rw [List.length_take]; omega), List.length_take, Nat.min_eq_left (by omega)]
                  rcases Nat.eq_or_lt_of_le h' with h'' | h''
                  · subst h''; simp [List.getElem?_eq_getElem hlt, hbe]
                  · rw [show j - k = (j - k - 1) + 1 by omega, List.getElem?_cons_succ, List.getElem?_take_of_lt (by omega), List.getElem?_drop, show p + k + 1 + (j - k - 1) = p + j by omega, hat j (by omega)]
              · rw [List.getElem?_eq_none (by rw [List.length_take]; omega), List.getElem?_eq_none (by rw [List.length_append, List.length_cons, List.length_take, List.length_take, List.length_drop]; omega)]
            rw [e2, Nat.add_assoc p k, Nat.add_assoc p]
          show readS msg (⟨p + k + 1 + b.toNat, lim, nx, n.take k ++ b :: (msg.drop (p + k + 1)).take b.toNat⟩ : RdSt) = _
          rw [e1]
          exact readS_plain msg n p hn hl lim nx m _ (by omega) (by omega) hp2
        · rw [hd, parse_cons, if_neg (fun e => h0 (by rw [e]; rfl)), if_pos (by omega)] at hp
          simp at hp
    · rw [List.drop_of_length_le (by omega)] at hp; simp [parse_nil] at hp

theorem may_parse {n : List UInt8} (h : may n = true) : (parse n).isSome = true := by
  unfold may labelsOf at h
  split at h
  · exact h
  · simp at h
theorem readN_plain {msg n : List UInt8} {p : Nat} (hn : (msg.drop p).take n.length = n) (h : may n = true) : readN msg p = (n, p + n.length, 0) :=
  readS_plain msg n p hn (may_le h) p none (n.length + 1) 0 (by omega) (by omega) (by simpa using may_parse h)

theorem wholeOf_name {k : Int} (hk : k = 2 ∨ k = 5 ∨ k = 12) (d : List UInt8) : wholeOf k d = if may d then some [⟨d, true, d.length⟩] else none := by
  have hc : checksOf k = [⟨1, 0⟩] := by
    unfold checksOf
    rw [if_neg (by omega), if_neg (by omega), if_pos hk]
  have hs : splitOf d 0 k = splitL [⟨1, 0⟩] d 0 := by unfold splitOf; rw [if_neg (by omega), hc]
  unfold wholeOf
  rw [hs]
  by_cases hm : may d = true
  · have hr := readN_plain (msg := d) (n := d) (p := 0) (by simp) hm
    rw [if_pos hm]
    simp [splitL, runChk, hr, textOf]
  · rw [if_neg hm, if_neg]
    rintro ⟨h1, h2⟩
    by_cases he : (readN d 0).2.2 = 0
    · have hv := readN_valid he
      have hr : runChk ⟨1, 0⟩ d 0 = (⟨(readN d 0).1, true, (readN d 0).2.1⟩, 0) := by simp [runChk, he]
      by_cases h3 : (readN d 0).2.1 < d.length
      · simp [splitL, hr, h3] at h1
      · simp [splitL, hr, h3, textOf] at h2
        rw [h2] at hv
        exact hm hv
    · have hr : runChk ⟨1, 0⟩ d 0 = (Pc.zero, (readN d 0).2.2) := by simp [runChk, he]
      simp [splitL, hr, he] at h1
theorem rnames_name {k : Int} (hk : k = 2 ∨ k = 5 ∨ k = 12) (d : List UInt8) : rnames k d = if may d then [d] else [] := by
  unfold rnames partsOf
  rw [wholeOf_name hk]
  split <;> rfl
end Go.Proofs.YthdlgmfeicikpaaGreatDoor
