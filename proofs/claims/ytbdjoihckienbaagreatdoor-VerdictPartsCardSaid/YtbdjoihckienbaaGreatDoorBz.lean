/- Contracts of functions and plain lemmas that the proofs of this seat share (joined texts). No condition. -/
import Derived.Test.YtbdjoihckienbaaGreatDoorBu
import Derived.Test.YtbdjoihckienbaaGreatDoorBw
import Derived.Test.YtbdjoihckienbaaGreatDoorBj
import Derived.Test.YtbdjoihckienbaaGreatDoorBg
import Derived.Test.YtbdjoihckienbaaGreatDoorBu0
namespace Go.Proofs.YtbdjoihckienbaaGreatDoor
set_option linter.unusedSimpArgs false
set_option linter.unusedVariables false
open Go.RowKit

theorem ofNat_inj {a b : Nat} (ha : a < 256) (hb : b < 256) (h : UInt8.ofNat a = UInt8.ofNat b) : a = b := by
  have := congrArg UInt8.toNat h
  rw [UInt8.toNat_ofNat', UInt8.toNat_ofNat'] at this
  omega
theorem num2_app {n m : Nat} {r s : List UInt8} (hn : n < 65536) (hm : m < 65536) (h : num2 n ++ r = num2 m ++ s) : n = m ∧ r = s := by
  simp only [num2, List.cons_append, List.nil_append, List.cons.injEq] at h
  obtain ⟨h1, h2, h3⟩ := h
  have a := congrArg UInt8.toNat h1
  have b := congrArg UInt8.toNat h2
  rw [UInt8.toNat_ofNat', UInt8.toNat_ofNat'] at a b
  exact ⟨by omega, h3⟩
theorem bytesOf_app : ∀ {a b : List (List UInt8)} {r s : List UInt8}, (∀ x ∈ a, 0 < x.length ∧ x.length ≤ 63) → (∀ x ∈ b, 0 < x.length ∧ x.length ≤ 63) → bytesOf a ++ r = bytesOf b ++ s → a = b ∧ r = s
  | [], [], r, s, _, _, h => by simpa [bytesOf] using h
  | [], y :: b, r, s, _, hb, h => by
    exfalso
    rw [bytesOf_cons] at h
    simp only [bytesOf, List.flatMap_nil, List.nil_append, labB, List.cons_append, List.cons.injEq] at h
    have := (hb y (by simp)).1
    have h2 := (hb y (by simp)).2
    have h3 := congrArg UInt8.toNat h.1
    rw [UInt8.toNat_ofNat', Nat.mod_eq_of_lt (by omega)] at h3
    have h4 : (0 : UInt8).toNat = 0 := rfl
    omega
  | x :: a, [], r, s, ha, _, h => by
    exfalso
    rw [bytesOf_cons] at h
    simp only [bytesOf, List.flatMap_nil, List.nil_append, labB, List.cons_append, List.cons.injEq] at h
    have := (ha x (by simp)).1
    have h2 := (ha x (by simp)).2
    have h3 := congrArg UInt8.toNat h.1
    rw [UInt8.toNat_ofNat', Nat.mod_eq_of_lt (by omega)] at h3
    have h4 : (0 : UInt8).toNat = 0 := rfl
    omega
  | x :: a, y :: b, r, s, ha, hb, h => by
    rw [bytesOf_cons, bytesOf_cons] at h
    simp only [labB, List.cons_append, List.append_assoc, List.cons.injEq] at h
    have hx := (ha x (by simp)).2
    have hy := (hb y (by simp)).2
    have hl : x.length = y.length := ofNat_inj (by omega) (by omega) h.1
    obtain ⟨h1, h2⟩ := List.append_inj h.2 hl
    obtain ⟨h3, h4⟩ := bytesOf_app (fun z hz => ha z (by simp [hz])) (fun z hz => hb z (by simp [hz])) h2
    exact ⟨by rw [h1, h3], h4⟩
theorem name_app {a b r s : List UInt8} (ha : may a = true) (hb : may b = true) (h : a ++ r = b ++ s) : a = b ∧ r = s := by
  obtain ⟨x, hx⟩ : ∃ x, labelsOf a = some x := Option.isSome_iff_exists.1 ha
  obtain ⟨y, hy⟩ : ∃ y, labelsOf b = some y := Option.isSome_iff_exists.1 hb
  obtain ⟨_, ea, la⟩ := labels_bytes hx
  obtain ⟨_, eb, lb⟩ := labels_bytes hy
  rw [ea, eb] at h ⊢
  obtain ⟨h1, h2⟩ := bytesOf_app la lb h
  exact ⟨by rw [h1], h2⟩
theorem keyD_app {d e r s : List UInt8} (hd : d.length < 65536) (he : e.length < 65536) (h : keyD d ++ r = keyD e ++ s) : d = e ∧ r = s := by
  unfold keyD at h
  rw [List.append_assoc, List.append_assoc] at h
  obtain ⟨h1, h2⟩ := num2_app hd he h
  exact List.append_inj h2 h1
theorem flat_app {α : Type} (f : α → List UInt8) (Q : α → Prop) (hf : ∀ a b r s, Q a → Q b → f a ++ r = f b ++ s → a = b ∧ r = s) : ∀ (l m : List α) (r s : List UInt8), (∀ x ∈ l, Q x) → (∀ x ∈ m, Q x) → l.length = m.length → l.flatMap f ++ r = m.flatMap f ++ s → l = m ∧ r = s
  | [], [], r, s, _, _, _, h => ⟨rfl, by simpa using h⟩
  | [], y :: m, _, _, _, _, hl, _ => by simp at hl
  | x :: l, [], _, _, _, _, hl, _ => by simp at hl
  | x :: l, y :: m, r, s, hq, hm, hl, h => by
    rw [List.flatMap_cons, List.flatMap_cons, List.append_assoc, List.append_assoc] at h
    obtain ⟨h1, h2⟩ := hf x y _ _ (hq x (by simp)) (hm y (by simp)) h
    obtain ⟨h3, h4⟩ := flat_app f Q hf l m r s (fun z hz => hq z (by simp [hz])) (fun z hz => hm z (by simp [hz])) (by simpa using hl) h2
    exact ⟨by rw [h1, h3], h4⟩
structure KeyGood (s : SetD) : Prop where
  nm : may s.name = true
  ok : SetKeyOk s
  tt : s.ttl = 0
  dn : s.data.length < 65536
  dl : ∀ d ∈ s.data, d.length < 65536
theorem keyS1_app (s t : SetD) (r q : List UInt8) (hs : KeyGood s) (ht : KeyGood t) (h : keyS1 s ++ r = keyS1 t ++ q) : s = t ∧ r = q := by
  obtain ⟨sn, st, sc, sl, sd⟩ := s
  obtain ⟨tn, tt, tc, tl, td⟩ := t
  obtain ⟨a1, ⟨⟨a2, a3⟩, a4, a5⟩, a6, a7, a8⟩ := hs
  obtain ⟨b1, ⟨⟨b2, b3⟩, b4, b5⟩, b6, b7, b8⟩ := ht
  unfold keyS1 at h
  dsimp only at *
  simp only [List.append_assoc] at h
  obtain ⟨e1, h⟩ := name_app a1 b1 h
  obtain ⟨e2, h⟩ := num2_app (by omega) (by omega) h
  obtain ⟨e3, h⟩ := num2_app (by omega) (by omega) h
  obtain ⟨e4, h⟩ := num2_app a7 b7 h
  obtain ⟨e5, h⟩ := flat_app keyD (fun d => d.length < 65536) (fun a b r s ha hb hh => keyD_app ha hb hh) sd td r q a8 b8 e4 h
  refine ⟨?_, h⟩
  have e6 : st = tt := by omega
  have e7 : sc = tc := by omega
  subst e1 e5 e6 e7
  rw [a6, b6]
theorem keySs_app {l m : List SetD} {r q : List UInt8} (hl : l.length < 256) (hm : m.length < 256) (hg : ∀ s ∈ l, KeyGood s) (hg' : ∀ s ∈ m, KeyGood s) (h : keySs l ++ r = keySs m ++ q) : l = m ∧ r = q := by
  unfold keySs at h
  simp only [List.cons_append, List.cons.injEq] at h
  exact flat_app keyS1 KeyGood keyS1_app l m r q hg hg' (ofNat_inj hl hm h.1) h.2
structure VerGood (R : VerR) : Prop where
  code : 0 ≤ R.code ∧ R.code ≤ 255
  sets : R.sets.length < 256 ∧ ∀ s ∈ R.sets, KeyGood s
  soa : R.soa.length < 256 ∧ ∀ s ∈ R.soa, KeyGood s
theorem key_same {R T : VerR} (hR : VerGood R) (hT : VerGood T) : (keyV3 R.code R.sets R.soa == keyV3 T.code T.sets T.soa) = verSame R.code R.sets R.soa T.code T.sets T.soa := by
  rw [Bool.eq_iff_iff, beq_iff_eq]
  unfold verSame
  simp only [Bool.and_eq_true, decide_eq_true_eq]
  constructor
  · intro h
    unfold keyV3 at h
    simp only [List.cons.injEq] at h
    obtain ⟨h1, h2⟩ := h
    have hc := ofNat_inj (by have := hR.code; omega) (by have := hT.code; omega) h1
    obtain ⟨h3, h4⟩ := keySs_app hR.sets.1 hT.sets.1 hR.sets.2 hT.sets.2 h2
    have h5 := keySs_app (r := []) (q := []) hR.soa.1 hT.soa.1 hR.soa.2 hT.soa.2 (by rw [List.append_nil, List.append_nil]; exact h4)
    exact ⟨by have := hR.code; have := hT.code; omega, h3, h5.1⟩
  · rintro ⟨h1, h2, h3⟩
    rw [h1, h2, h3]
end Go.Proofs.YtbdjoihckienbaaGreatDoor
namespace Go.Proofs.YtbdjoihckienbaaGreatDoor
set_option linter.unusedSimpArgs false
set_option linter.unusedVariables false
open Go.RowKit

theorem group_datK {l : List RecD} {s : SetD} (hs : s ∈ groupR l) : s.data = datT (ofK l (keyT s)) := by
  have h := ((group_mem l s).1 hs).2
  exact congrArg SetD.data h
theorem group_inK {l : List RecD} {s : SetD} (hs : s ∈ groupR l) {d : List UInt8} (hd : d ∈ s.data) : ∃ x ∈ l, okRec x = true ∧ recK x = keyT s ∧ rfold x.typ x.data = d := by
  rw [group_datK hs] at hd
  unfold datT at hd
  rw [mem_canon, List.mem_map] at hd
  obtain ⟨x, hx, rfl⟩ := hd
  obtain ⟨h1, h2, h3⟩ := mem_ofK.1 hx
  exact ⟨x, h1, h2, h3, rfl⟩
theorem group_keyOk {l : List RecD} (hok : RecsOk l) {s : SetD} (hs : s ∈ groupR l) : SetKeyOk s := by
  obtain ⟨x, hx⟩ := List.exists_mem_of_ne_nil _ ((group_mem l s).1 hs).1
  obtain ⟨h1, h2, h3⟩ := mem_ofK.1 hx
  have h4 := hok x h1
  have e1 : x.typ = s.typ := congrArg (fun k : KeyD => k.2.1) h3
  have e2 : x.cls = s.cls := congrArg (fun k : KeyD => k.2.2) h3
  rw [e1, e2] at h4
  exact h4
structure Fine (s : SetD) : Prop where
  nm : may s.name = true
  ok : SetKeyOk s
  dn : s.data.length ≤ 334
  dl : ∀ d ∈ s.data, d.length ≤ 4000
theorem group_fine {l : List RecD} (hw : wsum l < 4000) (hok : RecsOk l) {s : SetD} (hs : s ∈ groupR l) : Fine s := by
  refine ⟨(group_name hs).1, group_keyOk hok hs, ?_, fun d hd => ?_⟩
  · have h1 := (groupTo_bd l l.length (Nat.le_refl _) s ((group_perm l).1.mem_iff.1 hs)).2
    have h2 := wsum_len l
    omega
  · obtain ⟨x, h1, _, _, rfl⟩ := group_inK hs hd
    have h4 := rfold_len x.typ x.data
    have h5 := wsum_mem h1
    unfold wght at h5
    omega
theorem Fine.ttl0 {s : SetD} (h : Fine s) : Fine (ttl0 s) := ⟨h.nm, h.ok, h.dn, h.dl⟩
theorem Fine.key {s : SetD} (h : Fine s) (ht : s.ttl = 0) : KeyGood s := ⟨h.nm, h.ok, ht, by have := h.dn; omega, fun d hd => by have := h.dl d hd; omega⟩
theorem flat_le {α : Type} (f : α → List UInt8) (B : Nat) : ∀ (l : List α), (∀ x ∈ l, (f x).length ≤ B) → (l.flatMap f).length ≤ l.length * B
  | [], _ => by simp
  | x :: l, h => by
    have h1 := flat_le f B l (fun y hy => h y (by simp [hy]))
    have h2 := h x (by simp)
    rw [List.flatMap_cons, List.length_append, List.length_cons, Nat.add_mul]
    omega
theorem Fine.len {s : SetD} (h : Fine s) : (keyS1 s).length ≤ 1400000 := by
  rw [keyS1_len]
  have h1 := may_le h.nm
  have h2 := flat_le keyD 4002 s.data (fun d hd => by have := h.dl d hd; unfold keyD; rw [List.length_append, num2_len]; omega)
  have h3 := h.dn
  have h4 : s.data.length * 4002 ≤ 334 * 4002 := Nat.mul_le_mul_right _ h3
  omega
/-- What holds of a verdict that a message has. -/
structure VerFine (R : VerR) : Prop where
  code : 0 ≤ R.code ∧ R.code ≤ 255
  sn : R.sets.length ≤ 9
  on : R.soa.length ≤ 1
  sets : ∀ s ∈ R.sets, Fine s ∧ s.ttl = 0
  soa : ∀ s ∈ R.soa, Fine s ∧ s.ttl = 0
theorem VerFine.bad (e : Nat) : VerFine (VerR.bad e) := ⟨⟨Int.le_refl 0, show (0 : Int) ≤ 255 by omega⟩, by simp [VerR.bad], by simp [VerR.bad], by simp [VerR.bad], by simp [VerR.bad]⟩
theorem fine_map {l m : List SetD} (h : ∀ s ∈ m, Fine s) (hl : ∀ s ∈ l, s ∈ m) : ∀ s ∈ l.map Go.Proofs.YtbdjoihckienbaaGreatDoor.ttl0, Fine s ∧ s.ttl = 0 := fun s hs => by
  obtain ⟨t, ht, rfl⟩ := List.mem_map.1 hs
  exact ⟨(h t (hl t ht)).ttl0, rfl⟩
theorem ver_fine {n : List UInt8} {ty cls code : Int} {ans auth : List RecD} (h1 : wsum ans < 4000) (h2 : wsum auth < 4000) (k1 : RecsOk ans) (k2 : RecsOk auth) : VerFine (verOf n ty cls code ans auth) := by
  unfold verOf
  split
  · rename_i hc
    have hcode : 0 ≤ code ∧ code ≤ 255 := by rcases hc.2 with e | e <;> omega
    have hi := follow_in (groupR ans) n ty cls
    have hf : ∀ s ∈ groupR ans, Fine s := fun s hs => group_fine h1 k1 hs
    unfold verFol
    split
    · split
      · unfold verSoa
        split
        · rcases hs : (soaFind (groupR auth) (followOf n ty cls (groupR ans)).here cls).set with _ | s
          · exact ⟨hcode, by rw [List.length_map]; have := hi.len; omega, by simp, fine_map hf hi.path, by simp⟩
          · refine ⟨hcode, by dsimp only; rw [List.length_map]; have := hi.len; omega, by simp, fine_map hf hi.path, fun t ht => ?_⟩
            rw [List.mem_singleton] at ht
            subst ht
            exact ⟨(group_fine h2 k2 (soa_mem hs).1).ttl0, rfl⟩
        · exact VerFine.bad _
      · unfold verEnd
        split
        · exact VerFine.bad _
        · exact ⟨hcode, by dsimp only; rw [List.length_map, List.length_append]; have := hi.len; have := hi.one; omega, by simp, fine_map hf (fun s hs => by
            rcases List.mem_append.1 hs with h | h
            · exact hi.path s h
            · exact hi.fin s h), by simp⟩
    · exact VerFine.bad _
  · exact VerFine.bad _
theorem VerFine.good {R : VerR} (h : VerFine R) : VerGood R :=
  ⟨h.code, ⟨by have := h.sn; omega, fun s hs => (h.sets s hs).1.key (h.sets s hs).2⟩, ⟨by have := h.on; omega, fun s hs => (h.soa s hs).1.key (h.soa s hs).2⟩⟩
theorem VerFine.len {R : VerR} (h : VerFine R) : 4 + (R.sets.flatMap keyS1).length + (R.soa.flatMap keyS1).length ≤ 1073741824 := by
  have h1 := flat_le keyS1 1400000 R.sets (fun s hs => (h.sets s hs).1.len)
  have h2 := flat_le keyS1 1400000 R.soa (fun s hs => (h.soa s hs).1.len)
  have h3 : R.sets.length * 1400000 ≤ 9 * 1400000 := Nat.mul_le_mul_right _ h.sn
  have h4 : R.soa.length * 1400000 ≤ 1 * 1400000 := Nat.mul_le_mul_right _ h.on
  omega
end Go.Proofs.YtbdjoihckienbaaGreatDoor
