/- The walks of package rdata: split. -/
import Derived.Test.YthdlgmfeicikpaaGreatDoorRdata2
import Derived.Deep.DeepMust
namespace Go.Proofs.YthdlgmfeicikpaaGreatDoor
set_option linter.unusedSimpArgs false
set_option linter.unusedVariables false
open Go.RowKit
set_option maxRecDepth 100000

/-! ### Plain: bounds of what a check reads -/
theorem readF_bd (msg : List UInt8) (n : Nat) : ∀ (s : RdSt), (∀ k, s.nx = some k → k ≤ msg.length) → s.out.length ≤ 254 → (readF msg n s).2.1 ≤ msg.length ∧ (readF msg n s).1.length ≤ 255 := by
  induction n with
  | zero => intro s _ _; simp [readF]
  | succ n ih =>
    intro s h1 h2
    simp only [readF]
    split
    · simp
    · rename_i b hb
      have hlt : s.pos < msg.length := (List.getElem?_eq_some_iff.1 hb).1
      split
      · rcases hn : s.nx with _ | k
        · simp; omega
        · have := h1 k hn; simp; omega
      · split
        · split
          · simp
          · split
            · simp
            · rename_i h0 hb64 hl h255
              have hlen : ((msg.drop (s.pos + 1)).take b.toNat).length = b.toNat := by simp; omega
              exact ih _ h1 (by simp only [List.length_append, List.length_cons, hlen]; omega)
        · split
          · simp
          · split
            · simp
            · rename_i c hc
              have hlt2 : s.pos + 1 < msg.length := (List.getElem?_eq_some_iff.1 hc).1
              split
              · simp
              · refine ih _ (fun k hk => ?_) h2
                rcases hn : s.nx with _ | k'
                · simp [hn] at hk; omega
                · have := h1 k' hn; simp [hn] at hk; omega
theorem readN_bd (msg : List UInt8) (pos : Nat) : (readN msg pos).2.1 ≤ msg.length ∧ (readN msg pos).1.length ≤ 255 := readF_bd msg _ _ (by simp) (by simp)
theorem runChk_bd (c : Chk) (msg : List UInt8) (pos : Nat) (hp : pos ≤ msg.length) (h : (runChk c msg pos).2 = 0) : (runChk c msg pos).1.next ≤ msg.length ∧ (runChk c msg pos).1.text.length ≤ msg.length + 255 := by
  have hr := readN_bd msg pos
  unfold runChk at h ⊢
  match hk : c.kind with
  | 0 =>
    simp only [hk] at h ⊢
    split
    · rename_i h'; simp [h'] at h
    · simp; omega
  | 1 =>
    simp only [hk] at h ⊢
    split
    · rename_i h'; simp [h'] at h
    · exact ⟨hr.1, Nat.le_trans hr.2 (Nat.le_add_left _ _)⟩
  | 2 =>
    simp only [hk] at h ⊢
    split
    · simp; omega
    · rename_i h'; simp [h'] at h
  | _ + 3 => simp; omega

/-- What the parts so far and the rest come to. -/
def comb (pcs : List Pc) (r : List Pc × Nat) : List Pc × Nat := if r.2 ≠ 0 then ([], r.2) else (pcs ++ r.1, 0)
theorem comb_nil (r : List Pc × Nat) (h : r.2 ≠ 0 → r.1 = []) : comb [] r = r := by
  unfold comb
  split
  · rename_i h'; rw [← h h']
  · rename_i h'; rw [List.nil_append]; have : r.2 = 0 := by omega
    rw [← this]
theorem splitL_err (cs : List Chk) (msg : List UInt8) (pos : Nat) (h : (splitL cs msg pos).2 ≠ 0) : (splitL cs msg pos).1 = [] := by
  rcases cs with _ | ⟨c, cs⟩
  · simp only [splitL]; split <;> rfl
  · simp only [splitL] at h ⊢
    split
    · rfl
    · split
      · rfl
      · rename_i h1 h2; rw [if_neg h1, if_neg h2] at h; exact absurd rfl h
theorem comb_bad (pcs : List Pc) (c : Chk) (cs : List Chk) (msg : List UInt8) (pos : Nat) (h : (runChk c msg pos).2 ≠ 0) : comb pcs (splitL (c :: cs) msg pos) = ([], (runChk c msg pos).2) := by
  simp only [splitL, if_pos h, comb]
theorem comb_good (pcs : List Pc) (c : Chk) (cs : List Chk) (msg : List UInt8) (pos : Nat) (h : (runChk c msg pos).2 = 0) :
    comb pcs (splitL (c :: cs) msg pos) = comb (pcs ++ [(runChk c msg pos).1]) (splitL cs msg (runChk c msg pos).1.next) := by
  simp only [splitL, h]
  rw [if_neg (by simp)]
  by_cases h2 : (splitL cs msg (runChk c msg pos).1.next).2 = 0
  · rw [if_neg (by simp [h2])]
    unfold comb
    rw [if_neg (by simp), if_neg (by simp [h2])]
    simp
  · rw [if_pos h2]
    unfold comb
    rw [if_pos h2, if_pos h2]

/-- A row of parts. -/
def Pcs (w : World) (lo : Nat) (v : Value) (l : List Pc) : Prop := ∃ A c, v = .slice A l.length c ∧ Own w lo 76 3 A l.length c (l.flatMap Pc.cells)

theorem info_pc : (Tryz.prog.info? 76).map (fun i => (i.zero, i.size, i.bytes)) = some (some (.agg #[.string ⟨#[]⟩, .bool false, .int .i64 0]), 3, 32) := by kernel_rfl

theorem chks_at {w : World} {v : Value} {l : List Chk} (h : ChksV w v l) (k : Nat) (hk : k < 3) :
    ∃ vk, (∀ W, (Instr.index 123 v (.int .i64 k)).run Tryz.prog W = .ok vk W) ∧ ChkV w vk l[k]? := by
  obtain ⟨v0, v1, v2, rfl, _, h0, h1, h2⟩ := h
  match k, hk with
  | 0, _ => exact ⟨v0, fun _ => by kernel_rfl, h0⟩
  | 1, _ => exact ⟨v1, fun _ => by kernel_rfl, h1⟩
  | 2, _ => exact ⟨v2, fun _ => by kernel_rfl, h2⟩

theorem eql_nilF (W : World) : (binOp BinOp.eql 122 .nilFunc .nilFunc).run Tryz.prog W = .ok (.bool true) W := by kernel_rfl
theorem eql_func (f : Fn) (a b : Array Value) (W : World) : (binOp BinOp.eql 122 (.func f a b) .nilFunc).run Tryz.prog W = .ok (.bool false) W := by kernel_rfl
theorem rd_new (w : World) (g : Nat) (hg : g = w.heap.size) (t : TypeId) (cs : List Value) (n sz : Nat) (hl : cs.length = n * sz) : Rd (w.alloc (.cells cs.toArray t)) 0 sz (some ⟨g, 0, none⟩) n cs := by
  subst hg
  refine ⟨hl, fun _ => ⟨w.heap.size, 0, rfl, Nat.zero_le _, by simp, fun j u hu => ?_⟩⟩
  rw [Nat.zero_add, World.cell?_alloc_mark]
  simpa using hu
theorem pc_one (p : Pc) : ∀ u ∈ p.cells, u.oneCell' = true := by
  intro u hu
  simp [Pc.cells] at hu
  rcases hu with rfl | rfl | rfl <;> rfl
theorem drop_at {α : Type} {l : List α} {k : Nat} {x : α} (h : l[k]? = some x) : l.drop k = x :: l.drop (k + 1) := by
  obtain ⟨h1, h2⟩ := List.getElem?_eq_some_iff.1 h
  rw [List.drop_eq_getElem_cons h1, h2]

theorem checksOf_n (k : Int) : ∀ c ∈ checksOf k, c.n ≤ 20 := by
  intro c hc
  unfold checksOf at hc
  repeat' split at hc
  all_goals (simp at hc; first | (subst hc; simp) | (rcases hc with rfl | rfl <;> simp))
theorem chk_call (msg : List UInt8) (pos : Nat) (hl : msg.length ≤ 140737488351232) (hp : pos ≤ msg.length) {w : World} {v : Value} {ck : Chk} (h : ChkV w v (some ck)) (hn : ck.n ≤ 20) (hg : Laid w) :
    ∃ f cap, v = .func (.func f) #[] cap ∧ (∀ args W, (callFunc f args).run Tryz.prog W = .ok (.enter f args) W) ∧ Calls Tryz.prog f (#[S msg, .int .i64 pos] ++ cap) w fun e w' => e = .returned (.tuple #[(runChk ck msg pos).1.val, .int .i64 (runChk ck msg pos).2]) ∧ Ext w w' := by
  obtain ⟨kd, n⟩ := ck
  match kd, h with
  | 0, ⟨b, e, hc⟩ =>
    refine ⟨_, _, e, fun args W => by kernel_rfl, ?_⟩
    by_cases hs : msg.length - pos < n
    · have := chk_num_short msg pos n b w hl hp (by dsimp only at hn; omega) hc hs
      simpa [runChk, hs] using this
    · have := chk_num msg pos n b w hl hp (by dsimp only at hn; omega) hc hs
      simpa [runChk, hs] using this
  | 1, e =>
    refine ⟨_, _, e, fun args W => by kernel_rfl, ?_⟩
    by_cases hs : (readN msg pos).2.2 = 0
    · have := chk_named msg pos w hg hl hp hs
      simpa [runChk, hs] using this
    · have := chk_named_bad msg pos w hg hl hp hs
      simpa [runChk, hs] using this
  | 2, e =>
    refine ⟨_, _, e, fun args W => by kernel_rfl, ?_⟩
    have := chk_texts msg pos w hl hp
    by_cases hs : textsOk (msg.drop pos) = true
    · simpa [runChk, hs] using this
    · simpa [runChk, hs] using this
  | m + 3, e =>
    refine ⟨_, _, e, fun args W => by kernel_rfl, ?_⟩
    have := chk_rest msg pos w hl hp
    simpa [runChk] using this

def SplitPost (R : List Pc × Nat) (w : World) (e : Ending) (w' : World) : Prop := ∃ v, e = .returned (.tuple #[v, .int .i64 R.2]) ∧ Pcs w' w.heap.size v R.1 ∧ Ext w w'

/-- What holds at a round's head of rdata.split. -/
structure SpInv (w1 : World) (msg : List UInt8) (cs : List Chk) (R : List Pc × Nat) (k p : Nat) (pcs : List Pc) (A : Option Addr) (c : Nat) (wr : World) : Prop where
  k3 : k ≤ 3
  pos : p ≤ msg.length
  len : pcs.length ≤ k
  own : Own wr w1.heap.size 76 3 A pcs.length c (pcs.flatMap Pc.cells)
  ext : Ext w1 wr
  eq : R = comb pcs (splitL (cs.drop k) msg p)

set_option maxHeartbeats 1000000 in
theorem rdata_split (msg : List UInt8) (pos : Nat) (kind : Int) (w : World) (hg : Laid w) (hl : msg.length ≤ 1048576) (hp : pos ≤ msg.length) :
    Calls Tryz.prog 70 #[S msg, .int .i64 pos, .int .u16 kind] w (SplitPost (splitOf msg pos kind) w) := by
  have hl' : msg.length ≤ 140737488351232 := by omega
  by_cases h41 : kind = 41
  · subst h41
    go_enter Tryz.func70, Tryz.ntmps70
    go_wp2
    go_ret2
    exact ⟨_, rfl, ⟨none, 0, rfl, Own.nil _ _ _ _⟩, Ext.refl _⟩
  have f41 : (kind == 41) = false := by rw [beq_eq_false_iff_ne]; exact h41
  have hR : splitOf msg pos kind = splitL (checksOf kind) msg pos := by unfold splitOf; rw [if_neg h41]
  rw [hR]
  clear hR h41
  obtain ⟨R, hR⟩ : ∃ R, R = splitL (checksOf kind) msg pos := ⟨_, rfl⟩
  rw [← hR]
  have HR := Lib.hid hR
  clear hR
  obtain ⟨i0, hi0, hz0, hz1, hz2⟩ := info_parts info_pc
  go_enter Tryz.func70, Tryz.ntmps70
  go_wp2_with fail
  refine (rdata_checks kind w).mono ?_; rintro e w1 ⟨V, rfl, hV, hE1⟩
  have hcn := checksOf_n kind
  generalize checksOf kind = cs at *
  have hcl : cs.length ≤ 3 := by obtain ⟨_, _, _, _, h, _⟩ := hV; exact h
  go_wp2_with fail
  go_loopw [1, 8, 17] (fun p o i wr => ∃ (k pos' : Nat) (pcs : List Pc) (A : Option Addr) (c : Nat), i = .int .i64 k ∧ p = .int .i64 pos' ∧ o = .slice A pcs.length c ∧ SpInv w1 msg cs R k pos' pcs A c wr) (fun _ _ i _ => 3 - (intOf i).toNat)
  case atStart => exact ⟨0, pos, [], none, 0, rfl, rfl, rfl, ⟨by omega, hp, by simp, Own.nil _ _ _ _, Ext.refl _, by rw [HR.out, List.drop_zero, comb_nil _ (splitL_err _ _ _)]⟩⟩
  case round =>
    obtain ⟨k, pos', pcs, A, c, rfl, rfl, rfl, hI⟩ := hrel
    obtain ⟨wo, rfl⟩ : ∃ wo : World, wo = wr := ⟨_, rfl⟩
    have hk3 := hI.k3
    have hpos := hI.pos
    by_cases hk : k < 3
    · obtain ⟨vk, hidx, hvk⟩ := chks_at hV k hk
      have hvk' := hvk.ext hI.ext
      rcases hck : cs[k]? with _ | ck
      · rw [hck] at hvk'
        obtain rfl : vk = .nilFunc := hvk'
        have hE := Lib.hid (show R = comb pcs (if pos' < msg.length then ([], 3) else ([], 0)) by rw [hI.eq, List.drop_of_length_le (List.getElem?_eq_none_iff.1 hck)]; rfl)
        have hn1 := eql_nilF
        clear hvk hck
        by_cases hlt : pos' < msg.length
        · go_wp2_with fail
          go_ret2
          refine ⟨_, by rw [hE.out, if_pos hlt]; rfl, by rw [hE.out, if_pos hlt]; exact ⟨none, 0, rfl, Own.nil _ _ _ _⟩, hE1.trans hI.ext⟩
        · go_wp2_with fail
          go_ret2
          refine ⟨_, by rw [hE.out, if_neg hlt]; rfl, ?_, hE1.trans hI.ext⟩
          rw [hE.out, if_neg hlt]
          refine ⟨A, c, ?_, ?_⟩
          · simp [comb]
          · simpa [comb] using hI.own.lower hE1.size
      · rw [hck] at hvk'
        have Hd := Lib.hid (drop_at hck)
        have hn2 := eql_func
        have hgo := (hg.ext hE1).ext hI.ext
        obtain ⟨f, cap, rfl, hcf, hcall⟩ := chk_call msg pos' hl' hpos hvk' (hcn ck (List.mem_of_getElem? hck)) hgo
        have hbd := runChk_bd ck msg pos' hpos
        have hcb := comb_bad pcs ck (cs.drop (k + 1)) msg pos'
        have hcg := comb_good pcs ck (cs.drop (k + 1)) msg pos'
        have hEq := hI.eq
        rw [Hd.out] at hEq
        generalize hX : runChk ck msg pos' = X at *
        have Hcall := Lib.hid hcall
        have HEq := Lib.hid hEq
        clear hcall hX hEq hvk hvk' hck
        obtain ⟨⟨pt, pn, px⟩, er⟩ := X
        dsimp only at *
        have hlen := hI.len
        by_cases her : er = 0
        · subst her
          have hb1 := (hbd rfl).1
          have Hg := Lib.hid (HEq.out.trans (hcg rfl))
          clear hbd hcb hcg HEq
          go_wp2_with fail
          refine Hcall.out.mono ?_; rintro e w2 ⟨rfl, hE2⟩
          have hw2 := hI.own.ext hE2
          have hz2' : w1.heap.size ≤ w2.heap.size := (hI.ext.trans hE2).size
          go_wp2_with (first
            | (at_builtin
               go_must (refine wpList_app _ rfl (.tmp 32) (.tmp 34) _ rfl w1.heap.size 76 i0 _ 3 32 Tryz.underlying71 hi0 hz0 hz1 hz2 rfl (by omega) A pcs.length c (pcs.flatMap Pc.cells) rfl ((hw2.ext ((Ext.refl _).alloc _)).ext ((Ext.refl _).alloc _)) 0 _ 1 1 (Pc.cells ⟨pt, pn, px⟩) rfl (rd_new _ _ (by simp) _ _ 1 3 rfl) (pc_one _) (by omega) (by omega) (by simp; omega) ?_)
               intro A3 c3 w3 hown3 hg3 hb3 _
               have hq3 : w3.cell? ⟨w2.heap.size, 2, none⟩ = some (.int .i64 px) := hg3.cell (by simp [go_sem]) (fun e => absurd (hw2.blk _ e.symm).2 (Nat.lt_irrefl _))))
          have hE3 : Ext w1 w3 := (((hI.ext.trans hE2).alloc _).alloc _).then hb3 (Nat.le_refl _)
          go_roundw
          case rel =>
            refine ⟨k + 1, px, pcs ++ [⟨pt, pn, px⟩], A3, c3, by go_num, rfl, by simp, ⟨by omega, hb1, by simp; omega, ?_, hE3, Hg.out⟩⟩
            simpa using hown3
          case measure => simp [intOf]; omega
        · have f1 : ((er : Int) == 0) = false := len_ne her
          have f2 : ((er : Int) != 0) = true := by rw [bne, f1]; rfl
          have Hb := Lib.hid (HEq.out.trans (hcb her))
          clear hbd hcb hcg HEq
          go_wp2_with fail
          refine Hcall.out.mono ?_; rintro e w2 ⟨rfl, hE2⟩
          go_wp2_with fail
          go_ret2
          refine ⟨_, by rw [Hb.out]; rfl, by rw [Hb.out]; exact ⟨none, 0, rfl, Own.nil _ _ _ _⟩, (hE1.trans (hI.ext.trans hE2)).alloc _⟩
    · obtain rfl : k = 3 := by omega
      have hE := Lib.hid (show R = comb pcs (if pos' < msg.length then ([], 3) else ([], 0)) by rw [hI.eq, List.drop_of_length_le hcl]; rfl)
      by_cases hlt : pos' < msg.length
      · go_wp2_with fail
        go_ret2
        refine ⟨_, by rw [hE.out, if_pos hlt]; rfl, by rw [hE.out, if_pos hlt]; exact ⟨none, 0, rfl, Own.nil _ _ _ _⟩, hE1.trans hI.ext⟩
      · go_wp2_with fail
        go_ret2
        refine ⟨_, by rw [hE.out, if_neg hlt]; rfl, ?_, hE1.trans hI.ext⟩
        rw [hE.out, if_neg hlt]
        refine ⟨A, c, ?_, ?_⟩
        · simp [comb]
        · simpa [comb] using hI.own.lower hE1.size
end Go.Proofs.YthdlgmfeicikpaaGreatDoor
