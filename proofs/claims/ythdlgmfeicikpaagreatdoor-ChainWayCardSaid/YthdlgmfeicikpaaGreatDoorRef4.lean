/- The walk of hustingsref04.Read. -/
import Derived.Test.YthdlgmfeicikpaaGreatDoorRef1
namespace Go.Proofs.YthdlgmfeicikpaaGreatDoor
set_option linter.unusedSimpArgs false
set_option linter.unusedVariables false
open Go.RowKit
set_option maxRecDepth 100000

/-- The length of a string in a slot. -/
def strLenOf : Value → Nat | .string s => s.size | _ => 0
/-- The reference's 'next': -1 where no pointer was met. -/
def nxOf (o : Option Nat) : Int := match o with | some k => k | none => -1

structure RfInv (msg : List UInt8) (s0 s : RdSt) : Prop where
  pos : s.pos ≤ msg.length
  out : s.out.length ≤ 254
  lim : s.lim ≤ msg.length
  nxb : ∀ k, s.nx = some k → k ≤ msg.length
  eq : readS msg s0 = readS msg s

set_option maxHeartbeats 1000000 in
theorem ref_read (msg : List UInt8) (pos : Nat) (w : World) (hl : msg.length ≤ 1048576) (hp : pos ≤ msg.length) :
    Calls Tryz.prog 119 #[S msg, .int .i64 pos] w fun e w' => e = .returned (.tuple #[S (readN msg pos).1, .int .i64 (readN msg pos).2.1, .int .i64 (readN msg pos).2.2]) ∧ w = w' := by
  obtain ⟨R, hR⟩ : ∃ R, R = readN msg pos := ⟨_, rfl⟩
  rw [← hR]
  have Hn : Hid (R = readS msg ⟨pos, pos, none, []⟩) := hR
  clear hR
  have hp1 : ¬ (msg.length : Int) < (pos : Int) := by omega
  go_enter Tryz.func119, Tryz.ntmps119
  go_wp2_with fail
  go_loop [1, 7, 8, 9] (fun p o nx lim => ∃ s : RdSt, p = .int .i64 s.pos ∧ o = S s.out ∧ nx = .int .i64 (nxOf s.nx) ∧ lim = .int .i64 s.lim ∧ RfInv msg ⟨pos, pos, none, []⟩ s) (fun _ o _ lim => (intOf lim).toNat * 300 + (256 - strLenOf o))
  case atStart => exact ⟨⟨pos, pos, none, []⟩, rfl, rfl, rfl, rfl, ⟨hp, by simp, hp, by simp, rfl⟩⟩
  case round =>
    obtain ⟨⟨pos', lim, nx, out⟩, rfl, rfl, rfl, rfl, hI⟩ := hrel
    dsimp only at hI ⊢
    have hout : out.length ≤ 254 := hI.out
    have hlim : lim ≤ msg.length := hI.lim
    have hpos : pos' ≤ msg.length := hI.pos
    rcases hb : msg[pos']? with _ | b
    · have Hb := Lib.hid hb
      have hge : msg.length ≤ pos' := List.getElem?_eq_none_iff.1 hb
      have hge' : (msg.length : Int) ≤ (pos' : Int) := by omega
      clear hb
      go_wp2_with fail
      go_ret3
      refine ⟨?_, rfl⟩
      rw [Hn.out, hI.eq, readS_end _ _ Hb.out]; rfl
    have Hb := Lib.hid hb
    obtain ⟨hlt, hbe⟩ := List.getElem?_eq_some_iff.1 hb
    clear hb
    obtain ⟨b', Hb', hget, hwb, hbd⟩ := byte_at msg pos' hlt
    obtain rfl : b = b' := by rw [← hbe]; exact Hb'.out
    have hbe' := Lib.hid hbe
    clear hbe Hb'
    by_cases h0 : b.toNat = 0
    · have H0 := Lib.hid (show b = 0 from UInt8.toNat_inj.1 (by simpa using h0))
      have f2 : ((b.toNat : Int) == 0) = true := by rw [h0]; rfl
      clear h0
      rcases nx with _ | nx
      · dsimp only [nxOf] at hI ⊢
        go_wp2_with fail
        go_ret3
        refine ⟨?_, rfl⟩
        rw [Hn.out, hI.eq, readS_zero _ _ (by rw [H0.out] at Hb; exact Hb.out)]; rfl
      · dsimp only [nxOf] at hI ⊢
        go_wp2_with fail
        go_ret3
        refine ⟨?_, rfl⟩
        rw [Hn.out, hI.eq, readS_zero _ _ (by rw [H0.out] at Hb; exact Hb.out)]; rfl
    have f2 : ((b.toNat : Int) == 0) = false := len_ne h0
    by_cases h192 : b.toNat < 192
    · have g192 : ¬ (192 : Int) ≤ (b.toNat : Int) := by omega
      by_cases h1 : b.toNat < 64
      · have g64 : ¬ (64 : Int) ≤ (b.toNat : Int) := by omega
        by_cases h2 : msg.length < pos' + 1 + b.toNat
        · have g2 : (msg.length : Int) < (pos' : Int) + 1 + (b.toNat : Int) := by omega
          go_wp2_with fail
          go_ret3
          refine ⟨?_, rfl⟩
          rw [Hn.out, hI.eq, readS_short _ _ b Hb.out h0 h1 h2]; rfl
        · have g2 : ¬ (msg.length : Int) < (pos' : Int) + 1 + (b.toNat : Int) := by omega
          have e2 : ((pos' : Int) + 1 + (b.toNat : Int)).toNat = pos' + 1 + b.toNat := by omega
          have e3 : pos' + 1 + b.toNat - pos' = b.toNat + 1 := by omega
          have hlab : ((msg.drop pos').take (b.toNat + 1)).length = b.toNat + 1 := by simp; omega
          have hcons : (msg.drop pos').take (b.toNat + 1) = b :: (msg.drop (pos' + 1)).take b.toNat := by rw [drop_cons msg pos' hlt, hbe'.out]; rfl
          have Hcons := Lib.hid hcons
          have Hlab := Lib.hid hlab
          clear hcons hlab
          by_cases h3 : 255 < out.length + 1 + b.toNat + 1
          · go_wp2_with fail
            go_ret3
            refine ⟨?_, rfl⟩
            rw [Hn.out, hI.eq, readS_long _ _ b Hb.out h0 h1 h2 h3]; rfl
          · have HL := Lib.hid (readS_label msg ⟨pos', lim, nx, out⟩ b Hb.out h0 h1 h2 h3)
            go_wp2_with fail
            go_round
            case rel =>
              refine ⟨⟨pos' + 1 + b.toNat, lim, nx, out ++ b :: (msg.drop (pos' + 1)).take b.toNat⟩, by go_num, ?_, rfl, rfl, ⟨by dsimp only; omega, ?_, hlim, hI.nxb, hI.eq.trans HL.out⟩⟩
              · rw [Hcons.out]
              · dsimp only
                rw [← Hcons.out, List.length_append, Hlab.out]; omega
            case measure =>
              simp only [intOf, strLenOf, size_mk]
              simp
              omega
      · have g64 : (64 : Int) ≤ (b.toNat : Int) := by omega
        go_wp2_with fail
        go_ret3
        refine ⟨?_, rfl⟩
        rw [Hn.out, hI.eq, readS_form _ _ b Hb.out h0 h1 h192]; rfl
    · have g192 : (192 : Int) ≤ (b.toNat : Int) := by omega
      rcases hc : msg[pos' + 1]? with _ | c'
      · have Hc := Lib.hid hc
        have hge : msg.length ≤ pos' + 1 := List.getElem?_eq_none_iff.1 hc
        have hge' : (msg.length : Int) ≤ (pos' : Int) + 1 := by omega
        clear hc
        go_wp2_with fail
        go_ret3
        refine ⟨?_, rfl⟩
        rw [Hn.out, hI.eq, readS_cut _ _ b Hb.out h0 h192 Hc.out]; rfl
      have Hc := Lib.hid hc
      obtain ⟨hlt2, hce⟩ := List.getElem?_eq_some_iff.1 hc
      clear hc
      obtain ⟨c'', Hc', hget2, hwb2, hcd⟩ := byte_at msg (pos' + 1) hlt2
      obtain rfl : c' = c'' := by rw [← hce]; exact Hc'.out
      clear hce Hc'
      have hnge : ¬ (msg.length : Int) ≤ (pos' : Int) + 1 := by omega
      have et : ((pos' : Int) + 1).toNat = pos' + 1 := by omega
      by_cases h3 : lim ≤ (b.toNat - 192) * 256 + c'.toNat
      · have h3' : (lim : Int) ≤ ((b.toNat : Int) - 192) * 256 + (c'.toNat : Int) := by omega
        rcases nx with _ | nx
        all_goals
          dsimp only [nxOf] at hI ⊢
          go_wp2_with fail
          go_ret3
          refine ⟨?_, rfl⟩
          rw [Hn.out, hI.eq, readS_loop _ _ b Hb.out h0 h192 c' Hc.out h3]; rfl
      · have h3' : ¬ (lim : Int) ≤ ((b.toNat : Int) - 192) * 256 + (c'.toNat : Int) := by omega
        have hJ := readS_jump msg ⟨pos', lim, nx, out⟩ b Hb.out h0 h192 c' Hc.out h3
        have HJ := Lib.hid hJ
        clear hJ
        have e5 : ((b.toNat : Int) - 192) * 256 + (c'.toNat : Int) = (((b.toNat - 192) * 256 + c'.toNat : Nat) : Int) := by omega
        have E5 := Lib.hid e5
        clear e5
        rcases nx with _ | nx
        · dsimp only [nxOf] at hI ⊢
          go_wp2_with fail
          go_round
          case rel =>
            refine ⟨⟨(b.toNat - 192) * 256 + c'.toNat, (b.toNat - 192) * 256 + c'.toNat, some (pos' + 2), out⟩, by rw [E5.out], rfl, by go_num, by rw [E5.out], ⟨by dsimp only; omega, hout, by dsimp only; omega, ?_, hI.eq.trans HJ.out⟩⟩
            intro k hk
            dsimp only at hk
            injection hk with hk
            omega
          case measure =>
            simp only [intOf, strLenOf, size_mk]
            simp
            omega
        · dsimp only [nxOf] at hI ⊢
          go_wp2_with fail
          go_round
          case rel =>
            exact ⟨⟨(b.toNat - 192) * 256 + c'.toNat, (b.toNat - 192) * 256 + c'.toNat, some nx, out⟩, by rw [E5.out], rfl, rfl, by rw [E5.out], ⟨by dsimp only; omega, hout, by dsimp only; omega, hI.nxb, hI.eq.trans HJ.out⟩⟩
          case measure =>
            simp only [intOf, strLenOf, size_mk]
            simp
            omega
end Go.Proofs.YthdlgmfeicikpaaGreatDoor
