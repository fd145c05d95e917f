/- Contracts of functions and plain lemmas that the proofs of this seat share (joined texts). No condition. -/
import Derived.Test.YtbmjfjgfognimaaGreatDoorJrz
import Derived.Test.YtbmjfjgfognimaaGreatDoorJrx
import Derived.Test.YtbmjfjgfognimaaGreatDoorJs
import Derived.Test.YtbmjfjgfognimaaGreatDoorJa
import Derived.WalkKit
import Derived.Lib.Hide
import Derived.LaidEql
import Derived.Stop.Asserts
import Derived.RowKitTokens
import Derived.Test.YtbmjfjgfognimaaGreatDoorJwy
import Derived.Test.YtbmjfjgfognimaaGreatDoorJv
import Derived.Test.YtbmjfjgfognimaaGreatDoorJhx
namespace Go.Proofs.YtbmjfjgfognimaaGreatDoor
set_option linter.unusedSimpArgs false
set_option linter.unusedVariables false

/-- What is read is short. -/
theorem dec_short {d : List UInt8} {m : MsgD} (h : decR d = .ok m) : (∀ r ∈ m.ans, r.name.length ≤ 300000 ∧ r.data.length ≤ 300000) ∧ (∀ r ∈ m.auth, r.name.length ≤ 300000 ∧ r.data.length ≤ 300000) := by
  obtain ⟨hl, p, hb, _⟩ := decR_body h
  have hdl := (decR_ok h).2.2.2.2.2
  unfold bodyR at hb
  split at hb
  · cases hb
  split at hb
  · cases hb
  rename_i h1
  split at hb
  · cases hb
  rename_i h2
  split at hb
  · cases hb
  rename_i h3
  injection hb with hb; injection hb with e1 e2
  have g1 := recsR_bd hdl h1
  have g2 := recsR_bd hdl h2
  subst e1
  exact ⟨fun r hr => by have := g1.2 r hr; omega, fun r hr => by have := g2.2 r hr; omega⟩
theorem dec_code {d : List UInt8} {m : MsgD} (h : decR d = .ok m) : m.hd.code ≤ 15 := by
  have h1 := (enc_may (decR_ok h).2.1).1
  unfold mayM hdOk at h1
  simp only [Bool.and_eq_true, decide_eq_true_eq] at h1
  obtain ⟨⟨⟨⟨⟨⟨h2, _⟩, _⟩, _⟩, _⟩, _⟩, _⟩ := h1
  omega
/-- The code of 12 bits. -/
def code12 (m : MsgD) : Int := (if m.he = true then m.ed.ext else 0) * 16 + m.hd.code % 16
/-- Does a message have just this question? -/
def asksB (m : MsgD) (n : List UInt8) (ty cls : Int) : Bool := match m.qs with
  | [x] => sameN x.name n && (decide (x.typ = ty) && decide (x.cls = cls))
  | _ => false
/-- What bytes are: 1 bad, 2 a pass, 3 a vote. -/
structure ReplyD where
  kind : Int
  ver : VerR
def ReplyD.bad : ReplyD := ⟨1, VerR.bad 0⟩
def ReplyD.pass : ReplyD := ⟨2, VerR.bad 0⟩
def replyM (m : MsgD) (n : List UInt8) (ty cls : Int) : ReplyD :=
  if m.hd.qr = true ∧ m.hd.op = 0 ∧ asksB m n ty cls = true then
    (if m.hd.tc = true ∨ (code12 m ≠ 0 ∧ code12 m ≠ 3) then .pass
     else if (verOf n ty cls m.hd.code m.ans m.auth).err = 0 then ⟨3, verOf n ty cls m.hd.code m.ans m.auth⟩ else .bad)
  else .bad
theorem replyM_not {m : MsgD} {n : List UInt8} {ty cls : Int} (h : ¬ (m.hd.qr = true ∧ m.hd.op = 0 ∧ asksB m n ty cls = true)) : replyM m n ty cls = .bad := by unfold replyM; rw [if_neg h]
theorem replyM_pass {m : MsgD} {n : List UInt8} {ty cls : Int} (h : m.hd.qr = true ∧ m.hd.op = 0 ∧ asksB m n ty cls = true) (h2 : m.hd.tc = true ∨ (code12 m ≠ 0 ∧ code12 m ≠ 3)) : replyM m n ty cls = .pass := by unfold replyM; rw [if_pos h, if_pos h2]
theorem replyM_vote {m : MsgD} {n : List UInt8} {ty cls : Int} (h : m.hd.qr = true ∧ m.hd.op = 0 ∧ asksB m n ty cls = true) (ht : m.hd.tc = false) (hc : code12 m = 0 ∨ code12 m = 3) :
    replyM m n ty cls = if (verOf n ty cls m.hd.code m.ans m.auth).err = 0 then ⟨3, verOf n ty cls m.hd.code m.ans m.auth⟩ else .bad := by
  unfold replyM
  rw [if_pos h, if_neg]
  rintro (h2 | ⟨h2, h3⟩)
  · rw [ht] at h2; cases h2
  · exact hc.elim h2 h3
def replyOf (d : List UInt8) (n : List UInt8) (ty cls : Int) : ReplyD := match decR d with
  | .error _ => .bad
  | .ok m => replyM m n ty cls
end Go.Proofs.YtbmjfjgfognimaaGreatDoor
namespace Go.Proofs.YtbmjfjgfognimaaGreatDoor
set_option linter.unusedSimpArgs false
set_option linter.unusedVariables false
open Go.RowKit Go.Extern.Stop Go.Stop Go.Extern
theorem isTypeOf (v : Value) (w : World) : (ReflectliteType.typeOf #[.iface 378 v]).run Tryz.prog w = .ok (.iface 322 (.agg #[.pointer (some ⟨5, 378, none⟩)])) w := by kernel_rfl
theorem isComparable (w : World) : ((ReflectliteType.method fun t => do Rtype.noPackHeld "Comparable" t; (fun a => Value.bool a.comparable) <$> typeInfo t) #[.agg #[.pointer (some ⟨5, 378, none⟩)]]).run Tryz.prog w = .ok (.bool true) w := by kernel_rfl
theorem isMethodComparable (v : Value) (w : World) : (Go.method 508 322 v "Comparable").run Tryz.prog w = .ok (291, v) w := by kernel_rfl
theorem isComp : (Tryz.prog.info? 378).map (·.comparable) = some true := by kernel_rfl
theorem isSize : (Tryz.prog.info? 397).map (·.size) = some 1 := by kernel_rfl
theorem noIsE (v : Value) (xT : TypeId) (w : World) : (Instr.typeAssert (.iface 378 v) xT 324 true).run Tryz.prog w = .ok (.tuple #[.nilIface, .bool false]) w := run_typeAssert_lacksB Tryz.underlying324 (by kernel_rfl) (by kernel_rfl) v xT w
theorem noUnwrapE (v : Value) (xT : TypeId) (w : World) : (Instr.typeAssert (.iface 378 v) xT 327 true).run Tryz.prog w = .ok (.tuple #[.nilIface, .bool false]) w := run_typeAssert_lacksB Tryz.underlying327 (by kernel_rfl) (by kernel_rfl) v xT w
theorem noUnwrapsE (v : Value) (xT : TypeId) (w : World) : (Instr.typeAssert (.iface 378 v) xT 329 true).run Tryz.prog w = .ok (.tuple #[.nilIface, .bool false]) w := run_typeAssert_lacksB Tryz.underlying329 (by kernel_rfl) (by kernel_rfl) v xT w
set_option maxRecDepth 100000
set_option maxHeartbeats 4000000 in
/-- errors.Is(x, x). -/
theorem is_same (a : Addr) (w : World) :
    Calls Tryz.prog 93 #[.iface 378 (.pointer (some a)), .iface 378 (.pointer (some a))] w fun e w' => e = .returned (.bool true) ∧ w' = w := by
  obtain ⟨i, hi, hcmp⟩ := Option.map_eq_some_iff.1 isComp
  obtain ⟨j, hj, hjs⟩ := Option.map_eq_some_iff.1 isSize
  have h8 := @run_callFunc_extern Tryz.prog 165 _ ReflectliteType.typeOf Tryz.func165 (by kernel_rfl) (by kernel_rfl) (by kernel_rfl) (by kernel_rfl)
  have h32 := @run_callFunc_extern Tryz.prog 291 _ (ReflectliteType.method fun t => do Rtype.noPackHeld "Comparable" t; pure (.bool (← typeInfo t).comparable)) Tryz.func291 (by kernel_rfl) (by kernel_rfl) (by kernel_rfl) (by kernel_rfl)
  have tT := isTypeOf
  have cT := isComparable
  have mR := isMethodComparable
  have heq := run_eql_iface_ptr_same (P := Tryz.prog) w a Tryz.underlying160 Tryz.underlying378 hi hcmp hj
  go_enter Tryz.func93, Tryz.ntmps93
  go_wp2
  refine wp_loop_rounds 1 ?_
  rw [rounds_succ]
  go_wp2
  go_ret
  exact ⟨rfl, rfl⟩
set_option maxHeartbeats 4000000 in
/-- errors.Is(nil, x). -/
theorem is_nil (b : Addr) (w : World) :
    Calls Tryz.prog 93 #[.nilIface, .iface 378 (.pointer (some b))] w fun e w' => e = .returned (.bool false) ∧ w' = w := by
  have hn := run_eql_iface_nil_left (P := Tryz.prog) w 378 (.pointer (some b)) Tryz.underlying160
  go_enter Tryz.func93, Tryz.ntmps93
  go_wp2
  go_ret
  exact ⟨rfl, rfl⟩
set_option maxHeartbeats 4000000 in
/-- errors.Is(x, y), two different pointers. -/
theorem is_other (a b : Addr) (ca cb : Array Value) (ta tb : TypeId) (w : World) (hne : a ≠ b) (ha : w.heap[a.block]? = some (.cells ca ta (0, 0))) (hb : w.heap[b.block]? = some (.cells cb tb (0, 0))) :
    Calls Tryz.prog 93 #[.iface 378 (.pointer (some a)), .iface 378 (.pointer (some b))] w fun e w' => e = .returned (.bool false) ∧ w' = w := by
  obtain ⟨i, hi, hcmp⟩ := Option.map_eq_some_iff.1 isComp
  obtain ⟨j, hj, hjs⟩ := Option.map_eq_some_iff.1 isSize
  have h8 := @run_callFunc_extern Tryz.prog 165 _ ReflectliteType.typeOf Tryz.func165 (by kernel_rfl) (by kernel_rfl) (by kernel_rfl) (by kernel_rfl)
  have h32 := @run_callFunc_extern Tryz.prog 291 _ (ReflectliteType.method fun t => do Rtype.noPackHeld "Comparable" t; pure (.bool (← typeInfo t).comparable)) Tryz.func291 (by kernel_rfl) (by kernel_rfl) (by kernel_rfl) (by kernel_rfl)
  have tT := isTypeOf
  have cT := isComparable
  have mR := isMethodComparable
  have nE := noIsE
  have uE := noUnwrapE
  have vE := noUnwrapsE
  have heq := run_eql_iface_ptr_other (P := Tryz.prog) w Tryz.underlying160 Tryz.underlying378 hi hcmp hj (by rw [hjs]; decide) hne ha hb
  go_enter Tryz.func93, Tryz.ntmps93
  go_wp2
  refine wp_loop_rounds 1 ?_
  rw [rounds_succ]
  go_wp2
  go_ret
  exact ⟨rfl, rfl⟩
end Go.Proofs.YtbmjfjgfognimaaGreatDoor
namespace Go.Proofs.YtbmjfjgfognimaaGreatDoor
set_option linter.unusedSimpArgs false
set_option linter.unusedVariables false
open Go.RowKit
set_option maxRecDepth 100000

set_option maxHeartbeats 4000000 in
theorem heard_asks (m : MsgD) (q a u x o : Value) (n : List UInt8) (ty cls : Int) (w : World) (hq : Qus w 0 q m.qs) (hn : n.length ≤ maxLen) (hok : ∀ q ∈ m.qs, q.name.length ≤ 1048576) :
    Calls Tryz.prog 163 #[msg7V m.hd q a u x m.he m.ed o, .agg #[S n, .int .u16 ty, .int .u16 cls]] w fun e w' => e = .returned (.bool (asksB m n ty cls)) ∧ Ext w w' := by
  obtain ⟨A, c, rfl, h1, h2, hrd⟩ := hq
  unfold maxLen at h2
  obtain ⟨X1, hX1⟩ : ∃ X1, X1 = w.alloc (.cells #[.int .u16 m.hd.id, .bool m.hd.qr, .int .u8 m.hd.op, .bool m.hd.aa, .bool m.hd.tc, .bool m.hd.rd, .bool m.hd.ra, .bool m.hd.z, .bool m.hd.ad, .bool m.hd.cd, .int .u8 m.hd.code, .slice A m.qs.length c, a, u, x, .bool m.he, .int .u16 m.ed.size, .int .u8 m.ed.ext, .int .u8 m.ed.ver, .int .u16 m.ed.flags, o] 45) := ⟨_, rfl⟩
  obtain ⟨X0, hX0⟩ : ∃ X0, X0 = X1.alloc (.cells #[S n, .int .u16 ty, .int .u16 cls] 32) := ⟨_, rfl⟩
  obtain ⟨g1, hg1⟩ : ∃ g1, g1 = X1.heap.size := ⟨_, rfl⟩
  have r1 : X1.heap[w.heap.size]? = some (.cells #[.int .u16 m.hd.id, .bool m.hd.qr, .int .u8 m.hd.op, .bool m.hd.aa, .bool m.hd.tc, .bool m.hd.rd, .bool m.hd.ra, .bool m.hd.z, .bool m.hd.ad, .bool m.hd.cd, .int .u8 m.hd.code, .slice A m.qs.length c, a, u, x, .bool m.he, .int .u16 m.ed.size, .int .u8 m.ed.ext, .int .u8 m.ed.ver, .int .u16 m.ed.flags, o] 45) := by rw [hX1]; exact heap_alloc_new _ _
  have r0 : X0.heap[g1]? = some (.cells #[S n, .int .u16 ty, .int .u16 cls] 32) := by rw [hX0, hg1]; exact heap_alloc_new _ _
  have hE01 : Ext X1 X0 := by rw [hX0]; exact (Ext.refl _).alloc _
  have hE0 : Ext w X0 := Ext.trans (by rw [hX1]; exact (Ext.refl _).alloc _) hE01
  have r10 := (hE01.block _ (Array.getElem?_eq_some_iff.1 r1).1).trans r1
  have hsz : w.heap.size + 1 = g1 := by rw [hg1, hX1]; simp
  have HSz := Lib.hid hsz
  clear hsz
  go_enter Tryz.func163, Tryz.ntmps163
  go_upto_region 1 with fail
  rw [← hX1, ← hX0]
  have e1 : (w.heap.size + 1) = g1 := HSz.out
  try rw [e1]
  try rw [← hg1]
  clear e1 hX1 hX0 hg1 hE01
  have z11 := box_cell (j := 11) r10 rfl
  have y0 := box_cell (j := 0) r0 rfl
  have y1 := box_cell (j := 1) r0 rfl
  have y2 := box_cell (j := 2) r0 rfl
  by_cases hl : m.qs.length = 1
  · obtain ⟨x0, hx⟩ := List.length_eq_one_iff.1 hl
    have hB := Lib.hid (show asksB m n ty cls = (sameN x0.name n && (decide (x0.typ = ty) && decide (x0.cls = cls))) from by unfold asksB; rw [hx])
    obtain ⟨b, off, rfl, _, hbz, hc⟩ := (hrd.ext hE0).2 (by omega)
    obtain ⟨q0, q1, q2⟩ := qus_cells hc 0 x0 (by rw [hx]; rfl)
    have hxl := hok x0 (by rw [hx]; simp)
    rw [hl] at z11
    rw [Nat.zero_mul, Nat.add_zero] at q0 q1 q2
    have HNs := Lib.hid (fun V => name_same x0.name n V (by unfold maxLen; omega) hn)
    generalize sameN x0.name n = sm at *
    clear hc hbz hok hrd h1
    obtain ⟨xn, xt, xc⟩ := x0
    dsimp only at *
    rw [hl]
    obtain ⟨X2, hX2⟩ : ∃ X2, X2 = X0.alloc (.cells #[S xn, .int .u16 xt, .int .u16 xc] 32) := ⟨_, rfl⟩
    obtain ⟨g2, hg2⟩ : ∃ g2, g2 = X0.heap.size := ⟨_, rfl⟩
    have r2 : X2.heap[g2]? = some (.cells #[S xn, .int .u16 xt, .int .u16 xc] 32) := by rw [hX2, hg2]; exact heap_alloc_new _ _
    have hE2 : Ext X0 X2 := by rw [hX2]; exact (Ext.refl _).alloc _
    have r02 := (hE2.block _ (Array.getElem?_eq_some_iff.1 r0).1).trans r0
    go_upto_region 4 with fail
    rw [← hX2, ← hg2]
    clear hX2 hg2 z11 y0 y1 y2 q0 q1 q2
    have y0 := box_cell (j := 0) r02 rfl
    have p0 := box_cell (j := 0) r2 rfl
    go_wp2_with fail
    refine (HNs.out _).mono ?_
    rintro e w1 ⟨rfl, hE1⟩
    clear y0 p0
    have r03 := (hE1.block _ (Array.getElem?_eq_some_iff.1 r02).1).trans r02
    have r3 := (hE1.block _ (Array.getElem?_eq_some_iff.1 r2).1).trans r2
    have y1 := box_cell (j := 1) r03 rfl
    have y2 := box_cell (j := 2) r03 rfl
    have p1 := box_cell (j := 1) r3 rfl
    have p2 := box_cell (j := 2) r3 rfl
    have hEw : Ext w w1 := (hE0.trans hE2).trans hE1
    rcases sm with _ | _
    · go_wp2_with fail
      go_ret
      exact ⟨by rw [hB.out]; rfl, hEw⟩
    by_cases ht : xt = ty
    · have ht1 : (xt == ty) = true := by rw [ht]; exact beq_self_eq_true _
      by_cases hc : xc = cls
      · have hc1 : (xc == cls) = true := by rw [hc]; exact beq_self_eq_true _
        have hBv := Lib.hid (show asksB m n ty cls = true from by rw [hB.out, decide_eq_true ht, decide_eq_true hc]; rfl)
        clear ht hc
        go_wp2_with fail
        go_ret
        exact ⟨by rw [hBv.out]; rfl, hEw⟩
      · have hc1 : (xc == cls) = false := by rw [beq_eq_false_iff_ne]; exact hc
        have hBv := Lib.hid (show asksB m n ty cls = false from by rw [hB.out, decide_eq_false hc]; cases decide (xt = ty) <;> rfl)
        clear ht hc
        go_wp2_with fail
        go_ret
        exact ⟨by rw [hBv.out]; rfl, hEw⟩
    · have ht1 : (xt == ty) = false := by rw [beq_eq_false_iff_ne]; exact ht
      have hBv := Lib.hid (show asksB m n ty cls = false from by rw [hB.out, decide_eq_false ht]; rfl)
      clear ht
      go_wp2_with fail
      go_ret
      exact ⟨by rw [hBv.out]; rfl, hEw⟩
  · have hl1 : ((m.qs.length : Int) == 1) = false := by rw [beq_eq_false_iff_ne]; omega
    have hB := Lib.hid (show asksB m n ty cls = false from by
      unfold asksB
      split
      · rename_i y hy; rw [hy] at hl; exact absurd rfl hl
      · rfl)
    clear hl
    go_wp2_with fail
    go_ret
    exact ⟨by rw [hB.out]; rfl, hE0⟩
theorem and_maskh (n k : Nat) : n &&& (2 ^ k - 1) = n % 2 ^ k := Nat.and_two_pow_sub_one_eq_mod n k
theorem or_low16h (x c : Nat) (hc : c < 16) : x * 16 ||| c = x * 16 + c := by
  have := Nat.shiftLeft_add_eq_or_of_lt (i := 4) (b := c) hc x
  rw [Nat.shiftLeft_eq] at this
  exact this.symm
set_option maxHeartbeats 1000000 in
theorem edns_code7 (c e : Nat) (w : World) (hc : c ≤ 255) (he : e ≤ 255) : Calls Tryz.prog 22 #[.int .u8 c, .int .u8 e] w fun x w' => x = .returned (.int .i64 ((e * 16 + c % 16 : Nat) : Int)) ∧ w = w' := by
  have a1 : bits .and .u8 (c : Int) 15 = ((c % 16 : Nat) : Int) := by
    rw [show (15 : Int) = ((15 : Nat) : Int) from rfl, u8_and_nat c 15 (by omega) (by omega), show (15 : Nat) = 2 ^ 4 - 1 from rfl, and_maskh]
  have a2 : bits .or .i64 ((e : Int) * 16) ((c % 16 : Nat) : Int) = ((e * 16 + c % 16 : Nat) : Int) := by
    have h1 := i64_or_nat (e * 16) (c % 16) (by omega) (by omega)
    rw [or_low16h _ _ (by omega), Int.natCast_mul] at h1
    exact h1
  have hci : (c : Int) ≤ 255 := by omega
  have hei : (e : Int) ≤ 255 := by omega
  have m1 : ((c % 16 : Nat) : Int) ≤ 15 := by omega
  have HA := Lib.hid a2
  generalize c % 16 = c16 at *
  go_enter Tryz.func22, Tryz.ntmps22
  go_wp2_with fail
  go_ret
  exact ⟨rfl, rfl⟩
set_option maxHeartbeats 4000000 in
theorem heard_code (m : MsgD) (q a u x o : Value) (w : World) (hwf : m.wf) (hcl : m.hd.code ≤ 15) :
    Calls Tryz.prog 164 #[msg7V m.hd q a u x m.he m.ed o] w fun e w' => e = .returned (.int .i64 (code12 m)) ∧ Ext w w' := by
  obtain ⟨X0, hX0⟩ : ∃ X0, X0 = w.alloc (.cells #[.int .u16 m.hd.id, .bool m.hd.qr, .int .u8 m.hd.op, .bool m.hd.aa, .bool m.hd.tc, .bool m.hd.rd, .bool m.hd.ra, .bool m.hd.z, .bool m.hd.ad, .bool m.hd.cd, .int .u8 m.hd.code, q, a, u, x, .bool m.he, .int .u16 m.ed.size, .int .u8 m.ed.ext, .int .u8 m.ed.ver, .int .u16 m.ed.flags, o] 45) := ⟨_, rfl⟩
  have r0 : X0.heap[w.heap.size]? = some (.cells #[.int .u16 m.hd.id, .bool m.hd.qr, .int .u8 m.hd.op, .bool m.hd.aa, .bool m.hd.tc, .bool m.hd.rd, .bool m.hd.ra, .bool m.hd.z, .bool m.hd.ad, .bool m.hd.cd, .int .u8 m.hd.code, q, a, u, x, .bool m.he, .int .u16 m.ed.size, .int .u8 m.ed.ext, .int .u8 m.ed.ver, .int .u16 m.ed.flags, o] 45) := by rw [hX0]; exact heap_alloc_new _ _
  have hE0 : Ext w X0 := by rw [hX0]; exact (Ext.refl _).alloc _
  go_enter Tryz.func164, Tryz.ntmps164
  go_upto_region 1 with fail
  rw [← hX0]
  clear hX0
  have z10 := box_cell (j := 10) r0 rfl
  have z15 := box_cell (j := 15) r0 rfl
  have z17 := box_cell (j := 17) r0 rfl
  have hc := hwf.code
  have hx := hwf.ext
  obtain ⟨cn, hcn⟩ : ∃ cn : Nat, m.hd.code = (cn : Int) := ⟨m.hd.code.toNat, by omega⟩
  obtain ⟨xn, hxn⟩ : ∃ xn : Nat, m.ed.ext = (xn : Int) := ⟨m.ed.ext.toNat, by omega⟩
  rw [hcn] at z10
  rw [hxn] at z17
  have HC := Lib.hid (show code12 m = (if m.he = true then ((xn * 16 + cn % 16 : Nat) : Int) else ((0 * 16 + cn % 16 : Nat) : Int)) from by
    unfold code12; rw [hcn, hxn]; split <;> omega)
  have HE1 := Lib.hid (fun V => edns_code7 cn xn V (by omega) (by omega))
  have HE0 := Lib.hid (fun V => edns_code7 cn 0 V (by omega) (by omega))
  clear hcn hxn hc hx
  rcases he : m.he with _ | _
  · rw [he] at z15
    go_wp2_with fail
    refine (HE0.out _).mono ?_
    rintro e w1 ⟨rfl, rfl⟩
    go_wp2_with fail
    go_ret
    exact ⟨by rw [HC.out, he]; simp, hE0⟩
  · rw [he] at z15
    go_wp2_with fail
    refine (HE1.out _).mono ?_
    rintro e w1 ⟨rfl, rfl⟩
    go_wp2_with fail
    go_ret
    exact ⟨by rw [HC.out, he]; simp, hE0⟩
end Go.Proofs.YtbmjfjgfognimaaGreatDoor
namespace Go.Proofs.YtbmjfjgfognimaaGreatDoor
set_option linter.unusedSimpArgs false
set_option linter.unusedVariables false
open Go.RowKit
set_option maxRecDepth 100000

abbrev errV (a : Addr) : Value := .iface 378 (.pointer (some a))
/-- The two sentinels, as laid. -/
structure ErrsAt (w : World) (a b : Addr) : Prop where
  bad : w.cell? ⟨0, 0, none⟩ = some (errV a)
  pass : w.cell? ⟨1, 0, none⟩ = some (errV b)
  ha : ∃ ca ta, w.heap[a.block]? = some (.cells ca ta (0, 0))
  hb : ∃ ca ta, w.heap[b.block]? = some (.cells ca ta (0, 0))
  ne : a ≠ b
theorem cell_lt {w : World} {p : Addr} {v : Value} (h : w.cell? p = some v) : p.block < w.heap.size := by
  rcases Nat.lt_or_ge p.block w.heap.size with h' | h'
  · exact h'
  · simp [World.cell?, Array.getElem?_eq_none h'] at h
theorem ErrsAt.ext {w w' : World} {a b : Addr} (h : ErrsAt w a b) (hE : Ext w w') : ErrsAt w' a b := by
  obtain ⟨ca, ta, hA⟩ := h.ha
  obtain ⟨cb, tb, hB⟩ := h.hb
  exact ⟨(hE.cell (cell_lt h.bad)).trans h.bad, (hE.cell (cell_lt h.pass)).trans h.pass, ⟨ca, ta, (hE.block _ (Array.getElem?_eq_some_iff.1 hA).1).trans hA⟩, ⟨cb, tb, (hE.block _ (Array.getElem?_eq_some_iff.1 hB).1).trans hB⟩, h.ne⟩
/-- What heard.read tells of a reply. -/
def ReadH (R : ReplyD) (a b : Addr) (w : World) (e : Ending) (w' : World) : Prop :=
  ∃ vs vo er, e = .returned (.tuple #[.agg #[.int .u8 R.ver.code, vs, vo], .int .u32 R.ver.time, er]) ∧ ((R.kind = 1 ∧ er = errV a) ∨ (R.kind = 2 ∧ er = errV b) ∨ (R.kind = 3 ∧ er = .nilIface)) ∧
    OSets w' w.heap.size vs R.ver.sets ∧ OSets w' w.heap.size vo R.ver.soa ∧ (vo.ownBlock = none ∨ vo.ownBlock ≠ vs.ownBlock) ∧ Ext w w'
theorem readH_bad {w w' : World} {a b : Addr} (h : Ext w w') : ReadH .bad a b w (.returned (.tuple #[.agg #[.int .u8 0, .slice none 0 0, .slice none 0 0], .int .u32 0, errV a])) w' :=
  ⟨_, _, _, rfl, .inl ⟨rfl, rfl⟩, OSets.nil _ _, OSets.nil _ _, .inl rfl, h⟩
theorem readH_pass {w w' : World} {a b : Addr} (h : Ext w w') : ReadH .pass a b w (.returned (.tuple #[.agg #[.int .u8 0, .slice none 0 0, .slice none 0 0], .int .u32 0, errV b])) w' :=
  ⟨_, _, _, rfl, .inr (.inl ⟨rfl, rfl⟩), OSets.nil _ _, OSets.nil _ _, .inl rfl, h⟩
/-- A message's parts for verdict.Of. -/
def xOf (m : MsgD) (qA xA oA : Option Addr) (qc xc oc : Nat) : MsgX := ⟨m.hd.id, m.hd.qr, m.hd.op, m.hd.aa, m.hd.tc, m.hd.rd, m.hd.ra, m.hd.z, m.hd.ad, m.hd.cd, qA, m.qs.length, qc, xA, m.extra.length, xc, m.he, m.ed.size, m.ed.ext, m.ed.ver, m.ed.flags, oA, m.ed.opts.length, oc⟩
section
variable {P : Program}
theorem results_rowH {fn : Func} {p u x : Tmp} {ty : TypeId} (h : fn.results = #[.cell p ty, .tmp u, .tmp x]) (tmps : Array Value) (w : World) (g : Nat) (t : TypeId) (cs : Array Value) (fr : Nat × Nat) (d : TypeDesc)
    (hp : tmps.getD p undef = .pointer (some ⟨g, 0, none⟩)) (hg : w.heap[g]? = some (.cells cs t fr))
    (hu : P.underlying ty = some d) (hd : (match d with | .struct _ | .array _ _ => true | _ => false) = true) (hi : (P.info? ty).map (·.size) = some cs.size) :
    (results fn tmps).run P w = .ok (.tuple #[.agg cs, tmps.getD u undef, tmps.getD x undef]) w := by
  have hp' : tmps[p]?.getD undef = .pointer (some ⟨g, 0, none⟩) := by simpa using hp
  simp [results, h, hp', asAddr, run_loadVar_row w g t ty cs fr d hg hu hd hi]
theorem results_rowL {fn : Func} {p : Tmp} {ty : TypeId} (h : fn.results = #[.cell p ty]) (tmps : Array Value) (w : World) (g : Nat) (t : TypeId) (cs : Array Value) (fr : Nat × Nat) (d : TypeDesc)
    (hp : tmps.getD p undef = .pointer (some ⟨g, 0, none⟩)) (hg : w.heap[g]? = some (.cells cs t fr))
    (hu : P.underlying ty = some d) (hd : (match d with | .struct _ | .array _ _ => true | _ => false) = true) (hi : (P.info? ty).map (·.size) = some cs.size) :
    (results fn tmps).run P w = .ok (.agg cs) w := by
  have hp' : tmps[p]?.getD undef = .pointer (some ⟨g, 0, none⟩) := by simpa using hp
  simp [results, h, hp', asAddr, run_loadVar_row w g t ty cs fr d hg hu hd hi]
end
theorem cell3 {Z : World} {g : Nat} {p : Addr} {v x y z : Value} (h : Z.cell? p = some v) (hne : p.block ≠ g) : (((Z.setCell ⟨g, 0, none⟩ x).setCell ⟨g, 1, none⟩ y).setCell ⟨g, 2, none⟩ z).cell? p = some v := by
  have k : ∀ (V : World) (j : Nat) (u : Value), (V.setCell ⟨g, j, none⟩ u).cell? p = V.cell? p := fun V j u => World.cell?_setCell_other V ⟨g, j, none⟩ p u (by intro e; subst e; exact hne rfl)
  rw [k, k, k]; exact h
theorem alloc_setRowH (w : World) (zs cs : Array Value) (t : TypeId) (g : Nat) (hg : g = w.heap.size) : (w.alloc (.cells zs t)).setRow g cs = w.alloc (.cells cs t) := by
  subst hg
  unfold World.setRow World.alloc
  simp only
  congr 1
  apply Array.ext_getElem?
  intro i
  simp only [Array.getElem?_modify, Array.getElem?_push]
  by_cases h : i = w.heap.size
  · subst h; simp
  · rw [if_neg (fun e => h e.symm), if_neg h, if_neg h]

end Go.Proofs.YtbmjfjgfognimaaGreatDoor
namespace Go.Proofs.YtbmjfjgfognimaaGreatDoor
set_option linter.unusedSimpArgs false
set_option linter.unusedVariables false
open Go.RowKit
set_option maxRecDepth 100000

/-- What heard.Look tells of a reply. -/
def LookH (R : ReplyD) (w : World) (e : Ending) (w' : World) : Prop :=
  ∃ vs vo, e = .returned (.agg #[.int .u8 R.kind, .int .u8 R.ver.code, vs, vo, .int .u32 R.ver.time]) ∧ OSets w' w.heap.size vs R.ver.sets ∧ OSets w' w.heap.size vo R.ver.soa ∧ (vo.ownBlock = none ∨ vo.ownBlock ≠ vs.ownBlock) ∧ Ext w w'
theorem reply_kind (d n : List UInt8) (ty cls : Int) : replyOf d n ty cls = .bad ∨ replyOf d n ty cls = .pass ∨ (replyOf d n ty cls).kind = 3 := by
  unfold replyOf
  split
  · exact .inl rfl
  unfold replyM
  split
  · split
    · exact .inr (.inl rfl)
    · split
      · exact .inr (.inr rfl)
      · exact .inl rfl
  · exact .inl rfl
theorem osets_set5 {w : World} {lo g : Nat} {v : Value} {l : List SetD} (h : OSets w lo v l) (hg : g < lo) (a b c d e : Value) : OSets (((((w.setCell ⟨g, 0, none⟩ a).setCell ⟨g, 1, none⟩ b).setCell ⟨g, 2, none⟩ c).setCell ⟨g, 3, none⟩ d).setCell ⟨g, 4, none⟩ e) lo v l :=
  osets_set (osets_set (osets_set3 h hg a b c) hg d) hg e
end Go.Proofs.YtbmjfjgfognimaaGreatDoor
