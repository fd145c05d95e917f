/- The walk of comp.Read. -/
import Derived.Test.YthdlgmfeicikpaaGreatDoorCursor2
import Derived.Test.YthdlgmfeicikpaaGreatDoorPlRead
namespace Go.Proofs.YthdlgmfeicikpaaGreatDoor
set_option linter.unusedSimpArgs false
set_option linter.unusedVariables false
open Go.RowKit
set_option maxRecDepth 100000

/-- What holds at a round's head of comp.Read. -/
structure RdInv (w0 : World) (g : Nat) (msg : List UInt8) (s0 s : RdSt) (A : Option Addr) (c : Nat) (wr : World) : Prop where
  pos : s.pos ≤ msg.length
  out : s.out.length ≤ 254
  lim : s.lim ≤ msg.length
  cur : Cur wr g msg s.pos
  own : Own wr (g + 1) 5 1 A s.out.length c (s.out.map U8)
  ext : Ext w0 wr
  laid : Laid wr
  eq : readS msg s0 = readS msg s

theorem u8_one (l : List UInt8) : ∀ u ∈ l.map U8, u.oneCell' = true := by
  intro u hu
  obtain ⟨b, _, rfl⟩ := List.mem_map.1 hu
  rfl
theorem and63 (b : UInt8) (h : ¬ b.toNat < 192) : bits BinOp.and IntKind.u8 (b.toNat : Int) 63 = ((b.toNat - 192 : Nat) : Int) := by
  have hb := b.toNat_lt
  have := u8_and_nat b.toNat 63 (by omega) (by omega)
  rw [show (63 : Int) = ((63 : Nat) : Int) from rfl, this]
  congr 1
  have e := Nat.and_two_pow_sub_one_eq_mod b.toNat 6
  simp at e
  rw [e]; omega
theorem or_i64 (x : Nat) (c : UInt8) (hx : x < 64) : bits BinOp.or IntKind.i64 ((x : Int) * 256) (c.toNat : Int) = ((x * 256 + c.toNat : Nat) : Int) := by
  have hc := c.toNat_lt
  have := i64_or_nat (x * 256) c.toNat (by omega) (by omega)
  rw [or_low _ _ (by omega), show ((x * 256 : Nat) : Int) = (x : Int) * 256 by omega] at this
  exact this

set_option maxHeartbeats 1000000 in
theorem comp_read (msg : List UInt8) (pos : Nat) (w : World) (hg : Laid w) (hl : msg.length ≤ 140737488351232) (hp : pos ≤ msg.length) :
    Calls Tryz.prog 124 #[S msg, .int .i64 pos] w fun e w' => e = .returned (.tuple #[S (readN msg pos).1, .int .i64 (readN msg pos).2.1, .int .i64 (readN msg pos).2.2]) ∧ Ext w w' := by
  have hl' : msg.length ≤ maxLen := by unfold maxLen; omega
  obtain ⟨R, hR⟩ : ∃ R, R = readN msg pos := ⟨_, rfl⟩
  rw [← hR]
  have Hn : Hid (R = readS msg ⟨pos, pos, none, []⟩) := hR
  clear hR
  obtain ⟨i0, hi0, hz0, hz1, hz2⟩ := info_parts info_u8
  go_enter Tryz.func124, Tryz.ntmps124
  go_wp2_with fail
  refine (cur_new msg w).mono ?_; rintro e w1 ⟨rfl, rfl⟩
  go_wp2_with fail
  refine (curC_seek (Cur.new w msg 0) hl' _ (by omega) (by omega)).mono ?_; rintro e w1 ⟨rfl, hc1, ho1⟩
  have hE1 : Ext w w1 := Ext.only ((Ext.refl _).alloc _) ho1 (Nat.le_refl _)
  go_wp2_with fail
  rw [Int.toNat_natCast] at hc1
  go_loopw [5, 8, 9, 10] (fun nx lim pt out wr => ∃ (s : RdSt) (A : Option Addr) (c : Nat), nx = .int .i64 (s.nx.getD 0) ∧ lim = .int .i64 s.lim ∧ pt = .bool s.nx.isSome ∧ out = .slice A s.out.length c ∧ RdInv w w.heap.size msg ⟨pos, pos, none, []⟩ s A c wr) (fun _ lim _ out _ => (intOf lim).toNat * 300 + (256 - lenOf out))
  case atStart => exact ⟨⟨pos, pos, none, []⟩, none, 0, rfl, rfl, rfl, rfl, ⟨hp, by simp, hp, hc1, Own.nil _ _ _ _, hE1, hg.ext hE1, rfl⟩⟩
  case round =>
    obtain ⟨⟨pos', lim, nx, out⟩, A, c, rfl, rfl, rfl, rfl, hI⟩ := hrel
    obtain ⟨wo, rfl⟩ : ∃ wo : World, wo = wr := ⟨_, rfl⟩
    dsimp only at hI ⊢
    have hout : out.length ≤ 254 := hI.out
    have hlim : lim ≤ msg.length := hI.lim
    have hpos : pos' ≤ msg.length := hI.pos
    rcases hb : msg[pos']? with _ | b
    · have Hb := Lib.hid hb
      clear hb
      go_wp2_with fail
      refine (curC_byte_short hI.cur hI.laid hl' hI.pos Hb.out).mono ?_; rintro e w2 ⟨rfl, hE2⟩
      go_wp2_with fail
      go_ret3
      refine ⟨?_, hI.ext.trans hE2⟩
      rw [Hn.out, hI.eq, readS_end _ _ Hb.out]; rfl
    have Hb := Lib.hid hb
    have hlt : pos' < msg.length := (List.getElem?_eq_some_iff.1 hb).1
    clear hb
    have hbb : (b.toNat : Int) ≤ 255 := by have := b.toNat_lt; omega
    by_cases h0 : b.toNat = 0
    · have H0 := Lib.hid (show b = 0 from UInt8.toNat_inj.1 (by simpa using h0))
      have f1 : ((b.toNat : Int) / 64 == 0) = true := by rw [h0]; rfl
      have f2 : ((b.toNat : Int) == 0) = true := by rw [h0]; rfl
      clear h0
      rcases nx with _ | nx
      all_goals
        dsimp only [Option.getD, Option.isSome] at hI ⊢
        go_wp2_with fail
        refine (curC_byte hI.cur hl' b Hb.out).mono ?_; rintro e w2 ⟨rfl, hc2, ho2⟩
        have hE2 : Ext w w2 := hI.ext.only ho2 (Nat.le_refl _)
        have hw2 := hI.own.only ho2 (by omega)
        go_wp2_with (first
          | (go_at_call 130; refine (curC_at hc2).mono ?_; rintro e w' ⟨rfl, rfl⟩)
          | (at_builtin
             refine wpList_app _ rfl (.tmp 43) (.tmp 44) _ rfl (w.heap.size + 1) 5 i0 _ 1 1 Tryz.underlying74 hi0 hz0 hz1 hz2 rfl (by omega) A out.length c (out.map U8) rfl (hw2.ext ((Ext.refl _).alloc _)) 0 _ 1 1 ([(0 : UInt8)].map U8) rfl (rd_new1 w2 0 _ _ (Nat.zero_le _)) (u8_one _) (by omega) (by omega) (by have := hc2.lt; simp; omega) ?_
             intro A3 c3 w3 hown3 hg3 hb3 _
             have hcv := conv_str c3 (l := out ++ [0]) (by rw [List.map_append]; exact hown3.rd)))
        go_ret3
        refine ⟨?_, (hE2.alloc _).then hb3 (by omega)⟩
        rw [Hn.out, hI.eq, readS_zero _ _ (by rw [H0.out] at Hb; exact Hb.out)]; rfl
    have f2 : ((b.toNat : Int) == 0) = false := len_ne h0
    have hb1 : (1 : Int) ≤ b.toNat := by omega
    by_cases h1 : b.toNat < 64
    · have f1 : ((b.toNat : Int) / 64 == 0) = true := by rw [beq_iff_eq]; omega
      by_cases h2 : msg.length < pos' + 1 + b.toNat
      · go_wp2_with fail
        refine (curC_byte hI.cur hl' b Hb.out).mono ?_; rintro e w2 ⟨rfl, hc2, ho2⟩
        have hE2 : Ext w w2 := hI.ext.only ho2 (Nat.le_refl _)
        go_wp2_with fail
        refine (curC_take_short hc2 (hg.ext hE2) hl' b.toNat (by unfold maxLen; omega) (by omega) (by omega)).mono ?_; rintro e w3 ⟨rfl, hE3⟩
        go_wp2_with fail
        go_ret3
        refine ⟨?_, hE2.trans hE3⟩
        rw [Hn.out, hI.eq, readS_short _ _ b Hb.out h0 h1 h2]; rfl
      have hlab : (((msg.drop (pos' + 1)).take b.toNat).length) = b.toNat := by simp; omega
      have Hlab := Lib.hid hlab
      by_cases h3 : 255 < out.length + 1 + b.toNat + 1
      · go_wp2_with fail
        refine (curC_byte hI.cur hl' b Hb.out).mono ?_; rintro e w2 ⟨rfl, hc2, ho2⟩
        have hE2 : Ext w w2 := hI.ext.only ho2 (Nat.le_refl _)
        go_wp2_with fail
        refine (curC_take hc2 hl' b.toNat (by omega)).mono ?_; rintro e w3 ⟨rfl, hc3, ho3⟩
        generalize (msg.drop (pos' + 1)).take b.toNat = lab at *
        have g1 : 255 < (out.length : Int) + 1 + lab.length + 1 := by rw [Hlab.out]; omega
        have g0 : (lab.length : Int) ≤ 63 := by rw [Hlab.out]; omega
        clear hlab
        go_wp2_with fail
        go_ret3
        refine ⟨?_, hE2.only ho3 (Nat.le_refl _)⟩
        rw [Hn.out, hI.eq, readS_long _ _ b Hb.out h0 h1 h2 h3]; rfl
      · go_wp2_with fail
        refine (curC_byte hI.cur hl' b Hb.out).mono ?_; rintro e w2 ⟨rfl, hc2, ho2⟩
        have hE2 : Ext w w2 := hI.ext.only ho2 (Nat.le_refl _)
        have hw2 := hI.own.only ho2 (by omega)
        have HL := Lib.hid (readS_label msg ⟨pos', lim, nx, out⟩ b Hb.out h0 h1 h2 h3)
        go_wp2_with fail
        refine (curC_take hc2 hl' b.toNat (by omega)).mono ?_; rintro e w3 ⟨rfl, hc3, ho3⟩
        have hw3 := hw2.only ho3 (by omega)
        have hE3 : Ext w w3 := hE2.only ho3 (Nat.le_refl _)
        generalize (msg.drop (pos' + 1)).take b.toNat = lab at *
        have g1 : (lab.length : Int) ≤ 63 := by rw [Hlab.out]; omega
        have g2 : (out.length : Int) + 1 + lab.length + 1 ≤ 255 := by rw [Hlab.out]; omega
        clear hlab
        go_wp2_with (first
          | (at_builtin
             refine wpList_app _ rfl (.tmp 66) (.tmp 68) _ rfl (w.heap.size + 1) 5 i0 _ 1 1 Tryz.underlying74 hi0 hz0 hz1 hz2 rfl (by omega) A out.length c (out.map U8) rfl (hw3.ext ((Ext.refl _).alloc _)) 0 _ 1 1 ([b].map U8) rfl (rd_new1 w3 0 _ _ (Nat.zero_le _)) (u8_one _) (by omega) (by omega) (by have := hc3.lt; simp; omega) ?_
             intro A4 c4 w4 hown4 hg4 hb4 _
             have hz4 : w.heap.size + 1 ≤ w4.heap.size := by have h1 := hb4.size; have h2 := hc3.lt; simp at h1; omega)
          | (refine wpList_app_str _ rfl (.tmp 69) (.tmp 70) _ _ rfl (w.heap.size + 1) 5 i0 Tryz.underlying74 Tryz.underlying9 hi0 hz0 hz1 hz2 A4 (out.length + 1) c4 (out.map U8 ++ [b].map U8) rfl hown4 lab rfl (by omega) hz4 ?_
             intro A5 c5 w5 hown5 hg5 hb5))
        have e1 : (out ++ b :: lab).length = out.length + 1 + lab.length := by simp; omega
        have E1 := Lib.hid e1
        clear e1
        go_roundw
        case rel =>
          refine ⟨⟨pos' + 1 + b.toNat, lim, nx, out ++ b :: lab⟩, A5, c5, rfl, rfl, rfl, by dsimp only; rw [E1.out], ⟨by dsimp only; omega, by dsimp only; rw [E1.out]; omega, hlim, ?_, ?_, ?_, ?_, hI.eq.trans HL.out⟩⟩
          · exact ((hc3.ext ((Ext.refl _).alloc _)).below hb4 (by omega)).below hb5 (by omega)
          · dsimp only
            rw [E1.out]
            simpa using hown5
          · exact ((hE3.alloc _).then hb4 (by omega)).then hb5 (by omega)
          · exact hg.ext (((hE3.alloc _).then hb4 (by omega)).then hb5 (by omega))
        case measure =>
          simp only [intOf, lenOf]
          simp; omega
    have f1 : ((b.toNat : Int) / 64 == 0) = false := by rw [beq_eq_false_iff_ne]; omega
    by_cases h2 : b.toNat < 192
    · have f3 : ((b.toNat : Int) / 64 == 3) = false := by rw [beq_eq_false_iff_ne]; omega
      go_wp2_with fail
      refine (curC_byte hI.cur hl' b Hb.out).mono ?_; rintro e w2 ⟨rfl, hc2, ho2⟩
      go_wp2_with fail
      go_ret3
      refine ⟨?_, hI.ext.only ho2 (Nat.le_refl _)⟩
      rw [Hn.out, hI.eq, readS_form _ _ b Hb.out h0 h1 h2]; rfl
    have f3 : ((b.toNat : Int) / 64 == 3) = true := by rw [beq_iff_eq]; omega
    rcases hc : msg[pos' + 1]? with _ | c'
    · have Hc := Lib.hid hc
      clear hc
      go_wp2_with fail
      refine (curC_byte hI.cur hl' b Hb.out).mono ?_; rintro e w2 ⟨rfl, hc2, ho2⟩
      have hE2 : Ext w w2 := hI.ext.only ho2 (Nat.le_refl _)
      go_wp2_with fail
      refine (curC_byte_short hc2 (hg.ext hE2) hl' (by omega) Hc.out).mono ?_; rintro e w3 ⟨rfl, hE3⟩
      go_wp2_with fail
      go_ret3
      refine ⟨?_, hE2.trans hE3⟩
      rw [Hn.out, hI.eq, readS_cut _ _ b Hb.out h0 h2 Hc.out]; rfl
    have Hc := Lib.hid hc
    have hlt2 : pos' + 1 < msg.length := (List.getElem?_eq_some_iff.1 hc).1
    have hcb : (c'.toNat : Int) ≤ 255 := by have := c'.toNat_lt; omega
    clear hc
    have ha := and63 b h2
    have hxlt : b.toNat - 192 < 64 := by omega
    have HX := Lib.hid (rfl : (b.toNat - 192) = (b.toNat - 192))
    obtain ⟨x, hx⟩ : ∃ x, x = b.toNat - 192 := ⟨_, rfl⟩
    rw [← hx] at ha hxlt
    have ho := or_i64 x c' hxlt
    obtain ⟨to, hto⟩ : ∃ to, to = x * 256 + c'.toNat := ⟨_, rfl⟩
    rw [← hto] at ho
    have Hto := Lib.hid (show to = (b.toNat - 192) * 256 + c'.toNat by rw [hto, hx])
    have htb : (to : Int) < 16384 := by omega
    clear HX hx hto
    by_cases h3 : lim ≤ to
    · have h3' : (lim : Int) ≤ to := by omega
      rcases nx with _ | nx
      all_goals
        dsimp only [Option.getD, Option.isSome] at hI ⊢
        go_wp2_with fail
        refine (curC_byte hI.cur hl' b Hb.out).mono ?_; rintro e w2 ⟨rfl, hc2, ho2⟩
        have hE2 : Ext w w2 := hI.ext.only ho2 (Nat.le_refl _)
        go_wp2_with fail
        refine (curC_byte hc2 hl' c' Hc.out).mono ?_; rintro e w3 ⟨rfl, hc3, ho3⟩
        have hE3 : Ext w w3 := hE2.only ho3 (Nat.le_refl _)
        go_wp2_with (go_at_call 130; refine (curC_at hc3).mono ?_; rintro e w' ⟨rfl, rfl⟩)
        go_ret3
        refine ⟨?_, hE3⟩
        rw [Hn.out, hI.eq, readS_loop _ _ b Hb.out h0 h2 c' Hc.out (by rw [← Hto.out]; exact h3)]; rfl
    · have h3' : (to : Int) < lim := by omega
      have hto2 : to ≤ msg.length := by omega
      have hJ := readS_jump msg ⟨pos', lim, nx, out⟩ b Hb.out h0 h2 c' Hc.out (by rw [← Hto.out]; exact h3)
      rw [← Hto.out] at hJ
      have HJ := Lib.hid hJ
      clear hJ
      rcases nx with _ | nx
      all_goals
        dsimp only [Option.getD, Option.isSome] at hI ⊢
        go_wp2_with fail
        refine (curC_byte hI.cur hl' b Hb.out).mono ?_; rintro e w2 ⟨rfl, hc2, ho2⟩
        have hE2 : Ext w w2 := hI.ext.only ho2 (Nat.le_refl _)
        go_wp2_with fail
        refine (curC_byte hc2 hl' c' Hc.out).mono ?_; rintro e w3 ⟨rfl, hc3, ho3⟩
        have hE3 : Ext w w3 := hE2.only ho3 (Nat.le_refl _)
        go_wp2_with (first | (go_at_call 130; refine (curC_at hc3).mono ?_; rintro e w' ⟨rfl, rfl⟩) | (go_at_call 128; refine (curC_seek hc3 hl' _ (by omega) (by omega)).mono ?_; rintro e w4 ⟨rfl, hc4, ho4⟩))
        have hE4 : Ext w w4 := hE3.only ho4 (Nat.le_refl _)
        rw [Int.toNat_natCast] at hc4
        go_roundw
        case rel =>
          refine ⟨⟨to, to, some _, out⟩, A, c, ?_, rfl, rfl, rfl, ⟨hto2, hout, hto2, hc4, ((hI.own.only ho2 (by omega)).only ho3 (by omega)).only ho4 (by omega), hE4, hg.ext hE4, hI.eq.trans HJ.out⟩⟩
          simp <;> omega
        case measure =>
          simp only [intOf, lenOf]
          simp; omega
end Go.Proofs.YthdlgmfeicikpaaGreatDoor
