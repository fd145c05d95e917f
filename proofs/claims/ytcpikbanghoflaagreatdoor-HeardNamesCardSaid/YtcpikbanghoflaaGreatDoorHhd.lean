/- Contracts of functions and plain lemmas that the proofs of this seat share (joined texts). No condition. -/
import Derived.Test.YtcpikbanghoflaaGreatDoorHrz
import Derived.Test.YtcpikbanghoflaaGreatDoorHrx
import Derived.Test.YtcpikbanghoflaaGreatDoorHs
import Derived.Test.YtcpikbanghoflaaGreatDoorHa
import Derived.WalkKit
import Derived.Lib.Hide
import Derived.LaidEql
import Derived.Stop.Asserts
import Derived.RowKitTokens
import Derived.Test.YtcpikbanghoflaaGreatDoorHwy
import Derived.Test.YtcpikbanghoflaaGreatDoorHv
import Derived.Test.YtcpikbanghoflaaGreatDoorHhx
namespace Go.Proofs.YtcpikbanghoflaaGreatDoor
set_option linter.unusedSimpArgs false
set_option linter.unusedVariables false
set_option maxRecDepth 10000 in
theorem readF_ge (msg : List UInt8) (p0 : Nat) : ∀ (n : Nat) (s : RdSt), s.meas < n → (readF msg n s).2.2 = 0 → (∀ k, s.nx = some k → p0 ≤ k) → (s.nx = none → p0 ≤ s.pos) → p0 ≤ (readF msg n s).2.1
  | 0, _, hm, _, _, _ => absurd hm (Nat.not_lt_zero _)
  | n + 1, s, hm, h, hk, hp => by
    unfold readF at h ⊢
    unfold RdSt.meas at hm
    rcases hg : msg[s.pos]? with _ | b
    · rw [hg] at h; cases h
    · rw [hg] at h
      dsimp only at h ⊢
      split
      · dsimp only
        rcases hn : s.nx with _ | k
        · show p0 ≤ s.pos + 1; have := hp hn; omega
        · exact hk k hn
      · rename_i h0
        rw [if_neg h0] at h
        split
        · rename_i h1
          rw [if_pos h1] at h
          split at h
          · cases h
          · rename_i h2
            rw [if_neg h2]
            split at h
            · cases h
            · rename_i h3
              rw [if_neg h3]
              refine readF_ge msg p0 n _ ?_ h hk fun e => ?_
              · unfold RdSt.meas
                dsimp only
                rw [List.length_append, List.length_cons]
                generalize s.lim * 300 = z at *
                omega
              · have := hp e; show p0 ≤ s.pos + 1 + b.toNat; omega
        · rename_i h1
          rw [if_neg h1] at h
          split at h
          · cases h
          · rename_i h2
            rw [if_neg h2]
            rcases hc : msg[s.pos + 1]? with _ | c
            · rw [hc] at h; cases h
            · rw [hc] at h
              dsimp only at h ⊢
              split at h
              · cases h
              · rename_i h3
                rw [if_neg h3]
                refine readF_ge msg p0 n _ ?_ h (fun k hk' => ?_) (fun e => by cases e)
                · unfold RdSt.meas
                  exact meas_jump h3 hm
                · dsimp only at hk'
                  injection hk' with hk'
                  rcases hn : s.nx with _ | k'
                  · rw [hn] at hk'; simp at hk'; have := hp hn; omega
                  · rw [hn] at hk'; simp at hk'; have := hk k' hn; omega
theorem nameR_ge {msg : List UInt8} {pos p : Nat} {n : List UInt8} (h : nameR msg pos = .ok (n, p)) : pos ≤ p := by
  unfold nameR at h
  split at h
  · rename_i h0
    injection h with h; injection h with h1 h2
    rw [← h2]
    unfold readN at h0 ⊢
    exact readF_ge msg pos _ _ (Nat.lt_succ_self _) h0 (fun k e => by cases e) (fun _ => Nat.le_refl _)
  · cases h
theorem recR_ge {msg : List UInt8} {more : Bool} {ed ed' : Option EdD} {pos p : Nat} {r : Option RecD} (h : recR msg more ed pos = .ok (r, ed', p)) : pos + 10 ≤ p := by
  rcases h1 : nameR msg pos with x | ⟨n, p1⟩
  · rw [rec_no1 h1] at h; cases h
  have g1 := nameR_ge h1
  rcases h2 : numR 2 msg p1 with x | ⟨ty, p2⟩
  · rw [rec_no2 h1 h2] at h; cases h
  have g2 := numR_ok h2
  rcases h3 : numR 2 msg p2 with x | ⟨cl, p3⟩
  · rw [rec_no3 h1 h2 h3] at h; cases h
  have g3 := numR_ok h3
  rcases h4 : numR 4 msg p3 with x | ⟨tt, p4⟩
  · rw [rec_no4 h1 h2 h3 h4] at h; cases h
  have g4 := numR_ok h4
  rcases h5 : numR 2 msg p4 with x | ⟨sz, p5⟩
  · rw [rec_no5 h1 h2 h3 h4 h5] at h; cases h
  have g5 := numR_ok h5
  rw [rec_all h1 h2 h3 h4 h5] at h
  have key : p = p5 + sz := by
    split at h
    · cases h
    split at h
    · split at h
      · cases h
      · split at h
        · cases h
        · injection h with h; injection h with _ h; injection h with _ h; exact h.symm
    · split at h
      · injection h with h; injection h with _ h; injection h with _ h; exact h.symm
      · cases h
  omega
theorem recsR_ge {msg : List UInt8} {more : Bool} : ∀ {k : Nat} {ed ed' : Option EdD} {pos p : Nat} {l : List RecD}, recsR msg more k ed pos = .ok (l, ed', p) → pos + 10 * l.length ≤ p
  | 0, ed, ed', pos, p, l, h => by
    unfold recsR at h
    injection h with h; injection h with e1 e2; injection e2 with e2 e3
    subst e1 e2 e3
    exact Nat.le_refl _
  | k + 1, ed, ed', pos, p, l, h => by
    unfold recsR at h
    split at h
    · cases h
    rename_i h1
    split at h
    · cases h
    rename_i h2
    injection h with h; injection h with e1 e2; injection e2 with e2 e3
    have a1 := recR_ge h1
    have b1 := recsR_ge h2
    rw [← e1, ← e3, List.length_append]
    rename_i r _ _ _ _ _ _
    have hr : r.toList.length ≤ 1 := by cases r <;> simp
    omega
theorem dec_few {d : List UInt8} {m : MsgD} (h : decR d = .ok m) : 10 * m.ans.length + 10 * m.auth.length ≤ d.length := by
  obtain ⟨hl, p, hb, _⟩ := decR_body h
  have hp := (bodyR_ext [] hb hl).2
  unfold bodyR at hb
  split at hb
  · cases hb
  split at hb
  · cases hb
  rename_i h1
  split at hb
  · cases hb
  rename_i h2
  split at hb
  · cases hb
  rename_i h3
  injection hb with hb; injection hb with e1 e2
  have g1 := recsR_ge h1
  have g2 := recsR_ge h2
  have g3 := recsR_ge h3
  subst e1
  dsimp only
  omega
theorem dec_short {d : List UInt8} {m : MsgD} (h : decR d = .ok m) : (∀ r ∈ m.ans, r.name.length ≤ 300000 ∧ r.data.length ≤ 300000) ∧ (∀ r ∈ m.auth, r.name.length ≤ 300000 ∧ r.data.length ≤ 300000) := by
  obtain ⟨hl, p, hb, _⟩ := decR_body h
  have hdl := (decR_ok h).2.2.2.2.2
  unfold bodyR at hb
  split at hb
  · cases hb
  split at hb
  · cases hb
  rename_i h1
  split at hb
  · cases hb
  rename_i h2
  split at hb
  · cases hb
  rename_i h3
  injection hb with hb; injection hb with e1 e2
  have g1 := recsR_bd hdl h1
  have g2 := recsR_bd hdl h2
  subst e1
  exact ⟨fun r hr => by have := g1.2 r hr; omega, fun r hr => by have := g2.2 r hr; omega⟩
theorem dec_code {d : List UInt8} {m : MsgD} (h : decR d = .ok m) : m.hd.code ≤ 15 := by
  have h1 := (enc_may (decR_ok h).2.1).1
  unfold mayM hdOk at h1
  simp only [Bool.and_eq_true, decide_eq_true_eq] at h1
  obtain ⟨⟨⟨⟨⟨⟨h2, _⟩, _⟩, _⟩, _⟩, _⟩, _⟩ := h1
  omega
def code12 (m : MsgD) : Int := (if m.he = true then m.ed.ext else 0) * 16 + m.hd.code % 16
def asksB (m : MsgD) (n : List UInt8) (ty cls : Int) : Bool := match m.qs with
  | [x] => sameN x.name n && (decide (x.typ = ty) && decide (x.cls = cls))
  | _ => false
structure ReplyD where
  kind : Int
  ver : VerR
def ReplyD.bad : ReplyD := ⟨1, VerR.bad 0⟩
def ReplyD.pass : ReplyD := ⟨2, VerR.bad 0⟩
def replyM (m : MsgD) (n : List UInt8) (ty cls : Int) : ReplyD :=
  if m.hd.qr = true ∧ m.hd.op = 0 ∧ asksB m n ty cls = true then
    (if m.hd.tc = true ∨ (code12 m ≠ 0 ∧ code12 m ≠ 3) then .pass
     else if (verOf n ty cls m.hd.code m.ans m.auth).err = 0 then ⟨3, verOf n ty cls m.hd.code m.ans m.auth⟩ else .bad)
  else .bad
theorem replyM_not {m : MsgD} {n : List UInt8} {ty cls : Int} (h : ¬ (m.hd.qr = true ∧ m.hd.op = 0 ∧ asksB m n ty cls = true)) : replyM m n ty cls = .bad := by unfold replyM; rw [if_neg h]
theorem replyM_pass {m : MsgD} {n : List UInt8} {ty cls : Int} (h : m.hd.qr = true ∧ m.hd.op = 0 ∧ asksB m n ty cls = true) (h2 : m.hd.tc = true ∨ (code12 m ≠ 0 ∧ code12 m ≠ 3)) : replyM m n ty cls = .pass := by unfold replyM; rw [if_pos h, if_pos h2]
theorem replyM_vote {m : MsgD} {n : List UInt8} {ty cls : Int} (h : m.hd.qr = true ∧ m.hd.op = 0 ∧ asksB m n ty cls = true) (ht : m.hd.tc = false) (hc : code12 m = 0 ∨ code12 m = 3) :
    replyM m n ty cls = if (verOf n ty cls m.hd.code m.ans m.auth).err = 0 then ⟨3, verOf n ty cls m.hd.code m.ans m.auth⟩ else .bad := by
  unfold replyM
  rw [if_pos h, if_neg]
  rintro (h2 | ⟨h2, h3⟩)
  · rw [ht] at h2; cases h2
  · exact hc.elim h2 h3
def replyOf (d : List UInt8) (n : List UInt8) (ty cls : Int) : ReplyD := match decR d with
  | .error _ => .bad
  | .ok m => replyM m n ty cls
end Go.Proofs.YtcpikbanghoflaaGreatDoor
namespace Go.Proofs.YtcpikbanghoflaaGreatDoor
set_option linter.unusedSimpArgs false
set_option linter.unusedVariables false
open Go.RowKit Go.Extern.Stop Go.Stop Go.Extern
theorem isTypeOf (v : Value) (w : World) : (ReflectliteType.typeOf #[.iface 293 v]).run Tryz.prog w = .ok (.iface 205 (.agg #[.pointer (some ⟨5, 293, none⟩)])) w := by kernel_rfl
theorem isComparable (w : World) : ((ReflectliteType.method fun t => do Rtype.noPackHeld "Comparable" t; (fun a => Value.bool a.comparable) <$> typeInfo t) #[.agg #[.pointer (some ⟨5, 293, none⟩)]]).run Tryz.prog w = .ok (.bool true) w := by kernel_rfl
theorem isMethodComparable (v : Value) (w : World) : (Go.method 423 205 v "Comparable").run Tryz.prog w = .ok (200, v) w := by kernel_rfl
theorem isComp : (Tryz.prog.info? 293).map (·.comparable) = some true := by kernel_rfl
theorem isSize : (Tryz.prog.info? 312).map (·.size) = some 1 := by kernel_rfl
theorem noIsE (v : Value) (xT : TypeId) (w : World) : (Instr.typeAssert (.iface 293 v) xT 207 true).run Tryz.prog w = .ok (.tuple #[.nilIface, .bool false]) w := run_typeAssert_lacksB Tryz.underlying207 (by kernel_rfl) (by kernel_rfl) v xT w
theorem noUnwrapE (v : Value) (xT : TypeId) (w : World) : (Instr.typeAssert (.iface 293 v) xT 210 true).run Tryz.prog w = .ok (.tuple #[.nilIface, .bool false]) w := run_typeAssert_lacksB Tryz.underlying210 (by kernel_rfl) (by kernel_rfl) v xT w
theorem noUnwrapsE (v : Value) (xT : TypeId) (w : World) : (Instr.typeAssert (.iface 293 v) xT 212 true).run Tryz.prog w = .ok (.tuple #[.nilIface, .bool false]) w := run_typeAssert_lacksB Tryz.underlying212 (by kernel_rfl) (by kernel_rfl) v xT w
set_option maxRecDepth 100000
set_option maxHeartbeats 4000000 in
theorem is_same (a : Addr) (w : World) :
    Calls Tryz.prog 44 #[.iface 293 (.pointer (some a)), .iface 293 (.pointer (some a))] w fun e w' => e = .returned (.bool true) ∧ w' = w := by
  obtain ⟨i, hi, hcmp⟩ := Option.map_eq_some_iff.1 isComp
  obtain ⟨j, hj, hjs⟩ := Option.map_eq_some_iff.1 isSize
  have h8 := @run_callFunc_extern Tryz.prog 81 _ ReflectliteType.typeOf Tryz.func81 (by kernel_rfl) (by kernel_rfl) (by kernel_rfl) (by kernel_rfl)
  have h32 := @run_callFunc_extern Tryz.prog 200 _ (ReflectliteType.method fun t => do Rtype.noPackHeld "Comparable" t; pure (.bool (← typeInfo t).comparable)) Tryz.func200 (by kernel_rfl) (by kernel_rfl) (by kernel_rfl) (by kernel_rfl)
  have tT := isTypeOf
  have cT := isComparable
  have mR := isMethodComparable
  have heq := run_eql_iface_ptr_same (P := Tryz.prog) w a Tryz.underlying102 Tryz.underlying293 hi hcmp hj
  go_enter Tryz.func44, Tryz.ntmps44
  go_wp2
  refine wp_loop_rounds 1 ?_
  rw [rounds_succ]
  go_wp2
  go_ret
  exact ⟨rfl, rfl⟩
set_option maxHeartbeats 4000000 in
theorem is_nil (b : Addr) (w : World) :
    Calls Tryz.prog 44 #[.nilIface, .iface 293 (.pointer (some b))] w fun e w' => e = .returned (.bool false) ∧ w' = w := by
  have hn := run_eql_iface_nil_left (P := Tryz.prog) w 293 (.pointer (some b)) Tryz.underlying102
  go_enter Tryz.func44, Tryz.ntmps44
  go_wp2
  go_ret
  exact ⟨rfl, rfl⟩
set_option maxHeartbeats 4000000 in
theorem is_other (a b : Addr) (ca cb : Array Value) (ta tb : TypeId) (w : World) (hne : a ≠ b) (ha : w.heap[a.block]? = some (.cells ca ta (0, 0))) (hb : w.heap[b.block]? = some (.cells cb tb (0, 0))) :
    Calls Tryz.prog 44 #[.iface 293 (.pointer (some a)), .iface 293 (.pointer (some b))] w fun e w' => e = .returned (.bool false) ∧ w' = w := by
  obtain ⟨i, hi, hcmp⟩ := Option.map_eq_some_iff.1 isComp
  obtain ⟨j, hj, hjs⟩ := Option.map_eq_some_iff.1 isSize
  have h8 := @run_callFunc_extern Tryz.prog 81 _ ReflectliteType.typeOf Tryz.func81 (by kernel_rfl) (by kernel_rfl) (by kernel_rfl) (by kernel_rfl)
  have h32 := @run_callFunc_extern Tryz.prog 200 _ (ReflectliteType.method fun t => do Rtype.noPackHeld "Comparable" t; pure (.bool (← typeInfo t).comparable)) Tryz.func200 (by kernel_rfl) (by kernel_rfl) (by kernel_rfl) (by kernel_rfl)
  have tT := isTypeOf
  have cT := isComparable
  have mR := isMethodComparable
  have nE := noIsE
  have uE := noUnwrapE
  have vE := noUnwrapsE
  have heq := run_eql_iface_ptr_other (P := Tryz.prog) w Tryz.underlying102 Tryz.underlying293 hi hcmp hj (by rw [hjs]; decide) hne ha hb
  go_enter Tryz.func44, Tryz.ntmps44
  go_wp2
  refine wp_loop_rounds 1 ?_
  rw [rounds_succ]
  go_wp2
  go_ret
  exact ⟨rfl, rfl⟩
end Go.Proofs.YtcpikbanghoflaaGreatDoor
namespace Go.Proofs.YtcpikbanghoflaaGreatDoor
set_option linter.unusedSimpArgs false
set_option linter.unusedVariables false
open Go.RowKit
set_option maxRecDepth 100000
set_option maxHeartbeats 4000000 in
theorem heard_asks (m : MsgD) (q a u x o : Value) (n : List UInt8) (ty cls : Int) (w : World) (hq : Qus w 0 q m.qs) (hn : n.length ≤ maxLen) (hok : ∀ q ∈ m.qs, q.name.length ≤ 1048576) :
    Calls Tryz.prog 79 #[msg7V m.hd q a u x m.he m.ed o, .agg #[S n, .int .u16 ty, .int .u16 cls]] w fun e w' => e = .returned (.bool (asksB m n ty cls)) ∧ Ext w w' := by
  obtain ⟨A, c, rfl, h1, h2, hrd⟩ := hq
  unfold maxLen at h2
  obtain ⟨X1, hX1⟩ : ∃ X1, X1 = w.alloc (.cells #[.int .u16 m.hd.id, .bool m.hd.qr, .int .u8 m.hd.op, .bool m.hd.aa, .bool m.hd.tc, .bool m.hd.rd, .bool m.hd.ra, .bool m.hd.z, .bool m.hd.ad, .bool m.hd.cd, .int .u8 m.hd.code, .slice A m.qs.length c, a, u, x, .bool m.he, .int .u16 m.ed.size, .int .u8 m.ed.ext, .int .u8 m.ed.ver, .int .u16 m.ed.flags, o] 38) := ⟨_, rfl⟩
  obtain ⟨X0, hX0⟩ : ∃ X0, X0 = X1.alloc (.cells #[S n, .int .u16 ty, .int .u16 cls] 25) := ⟨_, rfl⟩
  obtain ⟨g1, hg1⟩ : ∃ g1, g1 = X1.heap.size := ⟨_, rfl⟩
  have r1 : X1.heap[w.heap.size]? = some (.cells #[.int .u16 m.hd.id, .bool m.hd.qr, .int .u8 m.hd.op, .bool m.hd.aa, .bool m.hd.tc, .bool m.hd.rd, .bool m.hd.ra, .bool m.hd.z, .bool m.hd.ad, .bool m.hd.cd, .int .u8 m.hd.code, .slice A m.qs.length c, a, u, x, .bool m.he, .int .u16 m.ed.size, .int .u8 m.ed.ext, .int .u8 m.ed.ver, .int .u16 m.ed.flags, o] 38) := by rw [hX1]; exact heap_alloc_new _ _
  have r0 : X0.heap[g1]? = some (.cells #[S n, .int .u16 ty, .int .u16 cls] 25) := by rw [hX0, hg1]; exact heap_alloc_new _ _
  have hE01 : Ext X1 X0 := by rw [hX0]; exact (Ext.refl _).alloc _
  have hE0 : Ext w X0 := Ext.trans (by rw [hX1]; exact (Ext.refl _).alloc _) hE01
  have r10 := (hE01.block _ (Array.getElem?_eq_some_iff.1 r1).1).trans r1
  have hsz : w.heap.size + 1 = g1 := by rw [hg1, hX1]; simp
  have HSz := Lib.hid hsz
  clear hsz
  go_enter Tryz.func79, Tryz.ntmps79
  go_upto_region 1 with fail
  rw [← hX1, ← hX0]
  have e1 : (w.heap.size + 1) = g1 := HSz.out
  try rw [e1]
  try rw [← hg1]
  clear e1 hX1 hX0 hg1 hE01
  have z11 := box_cell (j := 11) r10 rfl
  have y0 := box_cell (j := 0) r0 rfl
  have y1 := box_cell (j := 1) r0 rfl
  have y2 := box_cell (j := 2) r0 rfl
  by_cases hl : m.qs.length = 1
  · obtain ⟨x0, hx⟩ := List.length_eq_one_iff.1 hl
    have hB := Lib.hid (show asksB m n ty cls = (sameN x0.name n && (decide (x0.typ = ty) && decide (x0.cls = cls))) from by unfold asksB; rw [hx])
    obtain ⟨b, off, rfl, _, hbz, hc⟩ := (hrd.ext hE0).2 (by omega)
    obtain ⟨q0, q1, q2⟩ := qus_cells hc 0 x0 (by rw [hx]; rfl)
    have hxl := hok x0 (by rw [hx]; simp)
    rw [hl] at z11
    rw [Nat.zero_mul, Nat.add_zero] at q0 q1 q2
    have HNs := Lib.hid (fun V => name_same x0.name n V (by unfold maxLen; omega) hn)
    generalize sameN x0.name n = sm at *
    clear hc hbz hok hrd h1
    obtain ⟨xn, xt, xc⟩ := x0
    dsimp only at *
    rw [hl]
    obtain ⟨X2, hX2⟩ : ∃ X2, X2 = X0.alloc (.cells #[S xn, .int .u16 xt, .int .u16 xc] 25) := ⟨_, rfl⟩
    obtain ⟨g2, hg2⟩ : ∃ g2, g2 = X0.heap.size := ⟨_, rfl⟩
    have r2 : X2.heap[g2]? = some (.cells #[S xn, .int .u16 xt, .int .u16 xc] 25) := by rw [hX2, hg2]; exact heap_alloc_new _ _
    have hE2 : Ext X0 X2 := by rw [hX2]; exact (Ext.refl _).alloc _
    have r02 := (hE2.block _ (Array.getElem?_eq_some_iff.1 r0).1).trans r0
    go_upto_region 4 with fail
    rw [← hX2, ← hg2]
    clear hX2 hg2 z11 y0 y1 y2 q0 q1 q2
    have y0 := box_cell (j := 0) r02 rfl
    have p0 := box_cell (j := 0) r2 rfl
    go_wp2_with fail
    refine (HNs.out _).mono ?_
    rintro e w1 ⟨rfl, hE1⟩
    clear y0 p0
    have r03 := (hE1.block _ (Array.getElem?_eq_some_iff.1 r02).1).trans r02
    have r3 := (hE1.block _ (Array.getElem?_eq_some_iff.1 r2).1).trans r2
    have y1 := box_cell (j := 1) r03 rfl
    have y2 := box_cell (j := 2) r03 rfl
    have p1 := box_cell (j := 1) r3 rfl
    have p2 := box_cell (j := 2) r3 rfl
    have hEw : Ext w w1 := (hE0.trans hE2).trans hE1
    rcases sm with _ | _
    · go_wp2_with fail
      go_ret
      exact ⟨by rw [hB.out]; rfl, hEw⟩
    by_cases ht : xt = ty
    · have ht1 : (xt == ty) = true := by rw [ht]; exact beq_self_eq_true _
      by_cases hc : xc = cls
      · have hc1 : (xc == cls) = true := by rw [hc]; exact beq_self_eq_true _
        have hBv := Lib.hid (show asksB m n ty cls = true from by rw [hB.out, decide_eq_true ht, decide_eq_true hc]; rfl)
        clear ht hc
        go_wp2_with fail
        go_ret
        exact ⟨by rw [hBv.out]; rfl, hEw⟩
      · have hc1 : (xc == cls) = false := by rw [beq_eq_false_iff_ne]; exact hc
        have hBv := Lib.hid (show asksB m n ty cls = false from by rw [hB.out, decide_eq_false hc]; cases decide (xt = ty) <;> rfl)
        clear ht hc
        go_wp2_with fail
        go_ret
        exact ⟨by rw [hBv.out]; rfl, hEw⟩
    · have ht1 : (xt == ty) = false := by rw [beq_eq_false_iff_ne]; exact ht
      have hBv := Lib.hid (show asksB m n ty cls = false from by rw [hB.out, decide_eq_false ht]; rfl)
      clear ht
      go_wp2_with fail
      go_ret
      exact ⟨by rw [hBv.out]; rfl, hEw⟩
  · have hl1 : ((m.qs.length : Int) == 1) = false := by rw [beq_eq_false_iff_ne]; omega
    have hB := Lib.hid (show asksB m n ty cls = false from by
      unfold asksB
      split
      · rename_i y hy; rw [hy] at hl; exact absurd rfl hl
      · rfl)
    clear hl
    go_wp2_with fail
    go_ret
    exact ⟨by rw [hB.out]; rfl, hE0⟩
theorem and_maskh (n k : Nat) : n &&& (2 ^ k - 1) = n % 2 ^ k := Nat.and_two_pow_sub_one_eq_mod n k
theorem or_low16h (x c : Nat) (hc : c < 16) : x * 16 ||| c = x * 16 + c := by
  have := Nat.shiftLeft_add_eq_or_of_lt (i := 4) (b := c) hc x
  rw [Nat.shiftLeft_eq] at this
  exact this.symm
set_option maxHeartbeats 1000000 in
theorem edns_code7 (c e : Nat) (w : World) (hc : c ≤ 255) (he : e ≤ 255) : Calls Tryz.prog 113 #[.int .u8 c, .int .u8 e] w fun x w' => x = .returned (.int .i64 ((e * 16 + c % 16 : Nat) : Int)) ∧ w = w' := by
  have a1 : bits .and .u8 (c : Int) 15 = ((c % 16 : Nat) : Int) := by
    rw [show (15 : Int) = ((15 : Nat) : Int) from rfl, u8_and_nat c 15 (by omega) (by omega), show (15 : Nat) = 2 ^ 4 - 1 from rfl, and_maskh]
  have a2 : bits .or .i64 ((e : Int) * 16) ((c % 16 : Nat) : Int) = ((e * 16 + c % 16 : Nat) : Int) := by
    have h1 := i64_or_nat (e * 16) (c % 16) (by omega) (by omega)
    rw [or_low16h _ _ (by omega), Int.natCast_mul] at h1
    exact h1
  have hci : (c : Int) ≤ 255 := by omega
  have hei : (e : Int) ≤ 255 := by omega
  have m1 : ((c % 16 : Nat) : Int) ≤ 15 := by omega
  have HA := Lib.hid a2
  generalize c % 16 = c16 at *
  go_enter Tryz.func113, Tryz.ntmps113
  go_wp2_with fail
  go_ret
  exact ⟨rfl, rfl⟩
set_option maxHeartbeats 4000000 in
theorem heard_code (m : MsgD) (q a u x o : Value) (w : World) (hwf : m.wf) (hcl : m.hd.code ≤ 15) :
    Calls Tryz.prog 80 #[msg7V m.hd q a u x m.he m.ed o] w fun e w' => e = .returned (.int .i64 (code12 m)) ∧ Ext w w' := by
  obtain ⟨X0, hX0⟩ : ∃ X0, X0 = w.alloc (.cells #[.int .u16 m.hd.id, .bool m.hd.qr, .int .u8 m.hd.op, .bool m.hd.aa, .bool m.hd.tc, .bool m.hd.rd, .bool m.hd.ra, .bool m.hd.z, .bool m.hd.ad, .bool m.hd.cd, .int .u8 m.hd.code, q, a, u, x, .bool m.he, .int .u16 m.ed.size, .int .u8 m.ed.ext, .int .u8 m.ed.ver, .int .u16 m.ed.flags, o] 38) := ⟨_, rfl⟩
  have r0 : X0.heap[w.heap.size]? = some (.cells #[.int .u16 m.hd.id, .bool m.hd.qr, .int .u8 m.hd.op, .bool m.hd.aa, .bool m.hd.tc, .bool m.hd.rd, .bool m.hd.ra, .bool m.hd.z, .bool m.hd.ad, .bool m.hd.cd, .int .u8 m.hd.code, q, a, u, x, .bool m.he, .int .u16 m.ed.size, .int .u8 m.ed.ext, .int .u8 m.ed.ver, .int .u16 m.ed.flags, o] 38) := by rw [hX0]; exact heap_alloc_new _ _
  have hE0 : Ext w X0 := by rw [hX0]; exact (Ext.refl _).alloc _
  go_enter Tryz.func80, Tryz.ntmps80
  go_upto_region 1 with fail
  rw [← hX0]
  clear hX0
  have z10 := box_cell (j := 10) r0 rfl
  have z15 := box_cell (j := 15) r0 rfl
  have z17 := box_cell (j := 17) r0 rfl
  have hc := hwf.code
  have hx := hwf.ext
  obtain ⟨cn, hcn⟩ : ∃ cn : Nat, m.hd.code = (cn : Int) := ⟨m.hd.code.toNat, by omega⟩
  obtain ⟨xn, hxn⟩ : ∃ xn : Nat, m.ed.ext = (xn : Int) := ⟨m.ed.ext.toNat, by omega⟩
  rw [hcn] at z10
  rw [hxn] at z17
  have HC := Lib.hid (show code12 m = (if m.he = true then ((xn * 16 + cn % 16 : Nat) : Int) else ((0 * 16 + cn % 16 : Nat) : Int)) from by
    unfold code12; rw [hcn, hxn]; split <;> omega)
  have HE1 := Lib.hid (fun V => edns_code7 cn xn V (by omega) (by omega))
  have HE0 := Lib.hid (fun V => edns_code7 cn 0 V (by omega) (by omega))
  clear hcn hxn hc hx
  rcases he : m.he with _ | _
  · rw [he] at z15
    go_wp2_with fail
    refine (HE0.out _).mono ?_
    rintro e w1 ⟨rfl, rfl⟩
    go_wp2_with fail
    go_ret
    exact ⟨by rw [HC.out, he]; simp, hE0⟩
  · rw [he] at z15
    go_wp2_with fail
    refine (HE1.out _).mono ?_
    rintro e w1 ⟨rfl, rfl⟩
    go_wp2_with fail
    go_ret
    exact ⟨by rw [HC.out, he]; simp, hE0⟩
end Go.Proofs.YtcpikbanghoflaaGreatDoor
namespace Go.Proofs.YtcpikbanghoflaaGreatDoor
set_option linter.unusedSimpArgs false
set_option linter.unusedVariables false
open Go.RowKit
set_option maxRecDepth 100000
abbrev errV (a : Addr) : Value := .iface 293 (.pointer (some a))
structure ErrsAt (w : World) (a b : Addr) : Prop where
  bad : w.cell? ⟨0, 0, none⟩ = some (errV a)
  pass : w.cell? ⟨1, 0, none⟩ = some (errV b)
  ha : ∃ ca ta, w.heap[a.block]? = some (.cells ca ta (0, 0))
  hb : ∃ ca ta, w.heap[b.block]? = some (.cells ca ta (0, 0))
  ne : a ≠ b
theorem cell_lt {w : World} {p : Addr} {v : Value} (h : w.cell? p = some v) : p.block < w.heap.size := by
  rcases Nat.lt_or_ge p.block w.heap.size with h' | h'
  · exact h'
  · simp [World.cell?, Array.getElem?_eq_none h'] at h
theorem ErrsAt.ext {w w' : World} {a b : Addr} (h : ErrsAt w a b) (hE : Ext w w') : ErrsAt w' a b := by
  obtain ⟨ca, ta, hA⟩ := h.ha
  obtain ⟨cb, tb, hB⟩ := h.hb
  exact ⟨(hE.cell (cell_lt h.bad)).trans h.bad, (hE.cell (cell_lt h.pass)).trans h.pass, ⟨ca, ta, (hE.block _ (Array.getElem?_eq_some_iff.1 hA).1).trans hA⟩, ⟨cb, tb, (hE.block _ (Array.getElem?_eq_some_iff.1 hB).1).trans hB⟩, h.ne⟩
def ReadH (R : ReplyD) (a b : Addr) (w : World) (e : Ending) (w' : World) : Prop :=
  ∃ vs vo er, e = .returned (.tuple #[.agg #[.int .u8 R.ver.code, vs, vo], .int .u32 R.ver.time, er]) ∧ ((R.kind = 1 ∧ er = errV a) ∨ (R.kind = 2 ∧ er = errV b) ∨ (R.kind = 3 ∧ er = .nilIface)) ∧
    OSets w' w.heap.size vs R.ver.sets ∧ OSets w' w.heap.size vo R.ver.soa ∧ (vo.ownBlock = none ∨ vo.ownBlock ≠ vs.ownBlock) ∧ Ext w w'
theorem readH_bad {w w' : World} {a b : Addr} (h : Ext w w') : ReadH .bad a b w (.returned (.tuple #[.agg #[.int .u8 0, .slice none 0 0, .slice none 0 0], .int .u32 0, errV a])) w' :=
  ⟨_, _, _, rfl, .inl ⟨rfl, rfl⟩, OSets.nil _ _, OSets.nil _ _, .inl rfl, h⟩
theorem readH_pass {w w' : World} {a b : Addr} (h : Ext w w') : ReadH .pass a b w (.returned (.tuple #[.agg #[.int .u8 0, .slice none 0 0, .slice none 0 0], .int .u32 0, errV b])) w' :=
  ⟨_, _, _, rfl, .inr (.inl ⟨rfl, rfl⟩), OSets.nil _ _, OSets.nil _ _, .inl rfl, h⟩
def xOf (m : MsgD) (qA xA oA : Option Addr) (qc xc oc : Nat) : MsgX := ⟨m.hd.id, m.hd.qr, m.hd.op, m.hd.aa, m.hd.tc, m.hd.rd, m.hd.ra, m.hd.z, m.hd.ad, m.hd.cd, qA, m.qs.length, qc, xA, m.extra.length, xc, m.he, m.ed.size, m.ed.ext, m.ed.ver, m.ed.flags, oA, m.ed.opts.length, oc⟩
section
variable {P : Program}
theorem results_rowH {fn : Func} {p u x : Tmp} {ty : TypeId} (h : fn.results = #[.cell p ty, .tmp u, .tmp x]) (tmps : Array Value) (w : World) (g : Nat) (t : TypeId) (cs : Array Value) (fr : Nat × Nat) (d : TypeDesc)
    (hp : tmps.getD p undef = .pointer (some ⟨g, 0, none⟩)) (hg : w.heap[g]? = some (.cells cs t fr))
    (hu : P.underlying ty = some d) (hd : (match d with | .struct _ | .array _ _ => true | _ => false) = true) (hi : (P.info? ty).map (·.size) = some cs.size) :
    (results fn tmps).run P w = .ok (.tuple #[.agg cs, tmps.getD u undef, tmps.getD x undef]) w := by
  have hp' : tmps[p]?.getD undef = .pointer (some ⟨g, 0, none⟩) := by simpa using hp
  simp [results, h, hp', asAddr, run_loadVar_row w g t ty cs fr d hg hu hd hi]
theorem results_rowL {fn : Func} {p : Tmp} {ty : TypeId} (h : fn.results = #[.cell p ty]) (tmps : Array Value) (w : World) (g : Nat) (t : TypeId) (cs : Array Value) (fr : Nat × Nat) (d : TypeDesc)
    (hp : tmps.getD p undef = .pointer (some ⟨g, 0, none⟩)) (hg : w.heap[g]? = some (.cells cs t fr))
    (hu : P.underlying ty = some d) (hd : (match d with | .struct _ | .array _ _ => true | _ => false) = true) (hi : (P.info? ty).map (·.size) = some cs.size) :
    (results fn tmps).run P w = .ok (.agg cs) w := by
  have hp' : tmps[p]?.getD undef = .pointer (some ⟨g, 0, none⟩) := by simpa using hp
  simp [results, h, hp', asAddr, run_loadVar_row w g t ty cs fr d hg hu hd hi]
end
theorem cell3 {Z : World} {g : Nat} {p : Addr} {v x y z : Value} (h : Z.cell? p = some v) (hne : p.block ≠ g) : (((Z.setCell ⟨g, 0, none⟩ x).setCell ⟨g, 1, none⟩ y).setCell ⟨g, 2, none⟩ z).cell? p = some v := by
  have k : ∀ (V : World) (j : Nat) (u : Value), (V.setCell ⟨g, j, none⟩ u).cell? p = V.cell? p := fun V j u => World.cell?_setCell_other V ⟨g, j, none⟩ p u (by intro e; subst e; exact hne rfl)
  rw [k, k, k]; exact h
theorem alloc_setRowH (w : World) (zs cs : Array Value) (t : TypeId) (g : Nat) (hg : g = w.heap.size) : (w.alloc (.cells zs t)).setRow g cs = w.alloc (.cells cs t) := by
  subst hg
  unfold World.setRow World.alloc
  simp only
  congr 1
  apply Array.ext_getElem?
  intro i
  simp only [Array.getElem?_modify, Array.getElem?_push]
  by_cases h : i = w.heap.size
  · subst h; simp
  · rw [if_neg (fun e => h e.symm), if_neg h, if_neg h]

set_option maxHeartbeats 8000000 in
theorem heard_read (d n : List UInt8) (ty cls : Int) (a b : Addr) (w : World) (hg : Laid w) (hb : BitsAt w) (he : ErrsAt w a b) (hd : d.length ≤ 16384) (hn : n.length ≤ 1048576) :
    Calls Tryz.prog 43 #[.agg #[S n, .int .u16 ty, .int .u16 cls], S d] w (ReadH (replyOf d n ty cls) a b w) := by
  obtain ⟨X1, hX1⟩ : ∃ X1, X1 = w.alloc (.cells #[S n, .int .u16 ty, .int .u16 cls] 25) := ⟨_, rfl⟩
  obtain ⟨X0, hX0⟩ : ∃ X0, X0 = X1.alloc (.cells #[.int .u8 0, .slice none 0 0, .slice none 0 0] 44) := ⟨_, rfl⟩
  obtain ⟨g1, hg1⟩ : ∃ g1, g1 = X1.heap.size := ⟨_, rfl⟩
  have r1 : X1.heap[w.heap.size]? = some (.cells #[S n, .int .u16 ty, .int .u16 cls] 25) := by rw [hX1]; exact heap_alloc_new _ _
  have r0 : X0.heap[g1]? = some (.cells #[.int .u8 0, .slice none 0 0, .slice none 0 0] 44) := by rw [hX0, hg1]; exact heap_alloc_new _ _
  have hE01 : Ext X1 X0 := by rw [hX0]; exact (Ext.refl _).alloc _
  have hE0 : Ext w X0 := Ext.trans (by rw [hX1]; exact (Ext.refl _).alloc _) hE01
  have r10 := (hE01.block _ (Array.getElem?_eq_some_iff.1 r1).1).trans r1
  have hsz : w.heap.size + 1 = g1 := by rw [hg1, hX1]; simp
  have hgw : w.heap.size ≤ g1 := by omega
  have HSz := Lib.hid hsz
  have HD := Lib.hid (wire_decode d X0 (hg.ext hE0) (hb.ext hE0) (by omega))
  clear hsz
  go_enter Tryz.func43, Tryz.ntmps43
  go_upto_region 1 with fail
  rw [← hX1, ← hX0]
  have e1 : (w.heap.size + 1) = g1 := HSz.out
  try rw [e1]
  try rw [← hg1]
  clear e1 hX1 hX0 hg1 hE01
  have HEr := Lib.hid (fun V (hV : Ext w V) => he.ext hV)
  go_wp2_with fail
  refine HD.out.mono ?_
  rintro e Y ⟨hor, hEd⟩
  rcases hor with ⟨k, hk, hx, rfl⟩ | ⟨m, q, a', u, x, o, hm, rfl, hMO, hBd⟩
  · have hR := Lib.hid (show replyOf d n ty cls = .bad from by unfold replyOf; rw [hx])
    have hk1 : ((k : Int) == 0) = false := by rw [beq_eq_false_iff_ne]; omega
    clear hx hk
    generalize (k : Int) = z at *
    have hk2 : ¬ z = 0 := by rw [beq_eq_false_iff_ne] at hk1; exact hk1
    have hk3 : decide (z = 0) = false := decide_eq_false hk2
    dsimp only
    iterate 10 go_step
    obtain ⟨g7, hg7⟩ : ∃ g7, g7 = Y.heap.size := ⟨_, rfl⟩
    have hz : (Y.alloc (.cells msgZ 38)).heap[g7]? = some (.cells msgZ 38) := by rw [hg7]; exact heap_alloc_new _ _
    refine Go.Great.wpList_allocTo rfl (some 7) rfl (.pointer (some ⟨Y.heap.size, 0, none⟩)) (.cells msgZ 38) (by kernel_rfl) ?_
    rw [← hg7]
    refine Go.wpList_store_rowTo rfl 38 (.tmp 7) (.tmp 15) rfl rfl g7 msgZ rfl rfl 38 _ hz (by kernel_rfl) rfl (by kernel_rfl) ?_
    rw [alloc_setRowH Y msgZ msgZ 38 g7 hg7]
    iterate 3 go_step
    refine wpList_nil ?_
    rw [← hg7]
    have r7 : (Y.alloc (.cells msgZ 38)).heap[g7]? = some (.cells msgZ 38) := by rw [hg7]; exact heap_alloc_new _ _
    have hEY : Ext Y (Y.alloc (.cells msgZ 38)) := (Ext.refl _).alloc _
    have hg7s : Y.heap.size ≤ g7 := by rw [hg7]; exact Nat.le_refl _
    obtain ⟨Z, hZ⟩ : ∃ Z, Z = Y.alloc (.cells msgZ 38) := ⟨_, rfl⟩
    rw [← hZ] at r7 hEY ⊢
    have hEZ : Ext X0 Z := hEd.trans hEY
    clear hZ hz hg7
    have rr := (hEZ.block _ (Array.getElem?_eq_some_iff.1 r0).1).trans r0
    have y0 := box_cell (j := 0) rr rfl
    have y1 := box_cell (j := 1) rr rfl
    have y2 := box_cell (j := 2) rr rfl
    have f0 := box_free (j := 0) rr
    have f1 := box_free (j := 1) rr
    have f2 := box_free (j := 2) rr
    have eb := (HEr.out Z (hE0.trans hEZ)).bad
    have ep := (HEr.out Z (hE0.trans hEZ)).pass
    have hg1eb : 0 < g1 := Nat.lt_of_lt_of_le (cell_lt he.bad) hgw
    have hg1ep : 1 < g1 := Nat.lt_of_lt_of_le (cell_lt he.pass) hgw
    go_upto_region 3 with fail
    have hS : Z.drew.cell? ⟨0, 0, none⟩ = some (errV a) := eb
    refine wp_region_noPanic ?_
    refine wp_region_tree (S := (fun V => V.cell? ⟨0, 0, none⟩ = some (errV a))) (.take 0 (.take 1 (.run 2 (.take 3 (.take 4 (.done)))))) (by kernel_rfl) (by kernel_rfl) (fun _ _ _ _ _ h => h) (hS) ?_
    repeat ((with_reducible refine treeIs ?_); first
      | (refine treeTakeX (a' := ?_) ⟨_, hS⟩ (by rfl) rfl (by kernel_rfl) rfl ?_ ?_; rotate_left; (focus (intro V Q' hV hq; (repeat (first | go_guarded | go_skip | go_step)); (first | exact hq | exact wpList_nil hq)))))
    refine treeRun (by rfl) (fun K hK => ?_)
    go_simp
    refine hK.out _ _ ?_ ?_
    · exact cell3 eb (Nat.ne_of_lt hg1eb)
    clear hK K
    (try simp only [Act.put, List.setIfInBounds_toArray, List.set_cons_zero, List.set_cons_succ])
    repeat ((with_reducible refine treeIs ?_); first
      | (refine treeTakeX (a' := ?_) ⟨_, hS⟩ (by rfl) rfl (by kernel_rfl) rfl ?_ ?_; rotate_left; (focus (intro V Q' hV hq; (repeat (first | go_guarded | go_skip | go_step)); (first | exact hq | exact wpList_nil hq)))))
    refine treeDone ?_
    refine NoPanic.normal ?_
    obtain ⟨U, hU⟩ : ∃ U, U = (((Z.setCell ⟨g1, 0, none⟩ (.int .u8 0)).setCell ⟨g1, 1, none⟩ (.slice none 0 0)).setCell ⟨g1, 2, none⟩ (.slice none 0 0)).drew := ⟨_, rfl⟩
    rw [← hU]
    have ru : U.heap[g1]? = some (.cells #[.int .u8 0, .slice none 0 0, .slice none 0 0] 44) := by rw [hU]; exact row_set (row_set (row_set rr 0 _) 1 _) 2 _
    have hEU : Ext w U := by rw [hU]; exact ((((hE0.trans hEZ).setCell hgw _).setCell hgw _).setCell hgw _).drew
    have u0 := box_cell (j := 0) ru rfl
    have u1 := box_cell (j := 1) ru rfl
    have u2 := box_cell (j := 2) ru rfl
    clear hU rr y0 y1 y2 f0 f1 f2
    go_wp2_with fail
    refine bodyPost_ret (results_rowH rfl _ _ g1 _ _ _ _ rfl ru Tryz.underlying44 rfl (by kernel_rfl)) rfl ?_
    show ReadH (replyOf d n ty cls) a b w (.returned (.tuple #[.agg #[.int .u8 0, .slice none 0 0, .slice none 0 0], .int .u32 0, errV a])) U
    rw [hR.out]
    exact readH_bad hEU
  · have hR := Lib.hid (show replyOf d n ty cls = replyM m n ty cls from by unfold replyOf; rw [hm])
    obtain ⟨d1, -, -, -, -, d6⟩ := decR_ok hm
    have hcl := dec_code hm
    have hfew := dec_few hm
    obtain ⟨hsh1, hsh2⟩ := dec_short hm
    have HMO := Lib.hid hMO
    have HBd := Lib.hid hBd
    obtain ⟨⟨qA, qc, rfl, _⟩, ⟨aA, ac, rfl, _⟩, ⟨uA, uc, rfl, _⟩, ⟨xA, xc, rfl, _⟩, ⟨oA, oc, rfl, _⟩⟩ := hMO
    clear hm
    dsimp only
    iterate 10 go_step
    obtain ⟨g7, hg7⟩ : ∃ g7, g7 = Y.heap.size := ⟨_, rfl⟩
    have hz : (Y.alloc (.cells msgZ 38)).heap[g7]? = some (.cells msgZ 38) := by rw [hg7]; exact heap_alloc_new _ _
    refine Go.Great.wpList_allocTo rfl (some 7) rfl (.pointer (some ⟨Y.heap.size, 0, none⟩)) (.cells msgZ 38) (by kernel_rfl) ?_
    rw [← hg7]
    refine Go.wpList_store_rowTo rfl 38 (.tmp 7) (.tmp 15) rfl rfl g7 #[.int .u16 m.hd.id, .bool m.hd.qr, .int .u8 m.hd.op, .bool m.hd.aa, .bool m.hd.tc, .bool m.hd.rd, .bool m.hd.ra, .bool m.hd.z, .bool m.hd.ad, .bool m.hd.cd, .int .u8 m.hd.code, .slice qA m.qs.length qc, .slice aA m.ans.length ac, .slice uA m.auth.length uc, .slice xA m.extra.length xc, .bool m.he, .int .u16 m.ed.size, .int .u8 m.ed.ext, .int .u8 m.ed.ver, .int .u16 m.ed.flags, .slice oA m.ed.opts.length oc] rfl rfl 38 _ hz (by kernel_rfl) rfl (by kernel_rfl) ?_
    rw [alloc_setRowH Y msgZ #[.int .u16 m.hd.id, .bool m.hd.qr, .int .u8 m.hd.op, .bool m.hd.aa, .bool m.hd.tc, .bool m.hd.rd, .bool m.hd.ra, .bool m.hd.z, .bool m.hd.ad, .bool m.hd.cd, .int .u8 m.hd.code, .slice qA m.qs.length qc, .slice aA m.ans.length ac, .slice uA m.auth.length uc, .slice xA m.extra.length xc, .bool m.he, .int .u16 m.ed.size, .int .u8 m.ed.ext, .int .u8 m.ed.ver, .int .u16 m.ed.flags, .slice oA m.ed.opts.length oc] 38 g7 hg7]
    iterate 3 go_step
    refine wpList_nil ?_
    rw [← hg7]
    have r7 : (Y.alloc (.cells #[.int .u16 m.hd.id, .bool m.hd.qr, .int .u8 m.hd.op, .bool m.hd.aa, .bool m.hd.tc, .bool m.hd.rd, .bool m.hd.ra, .bool m.hd.z, .bool m.hd.ad, .bool m.hd.cd, .int .u8 m.hd.code, .slice qA m.qs.length qc, .slice aA m.ans.length ac, .slice uA m.auth.length uc, .slice xA m.extra.length xc, .bool m.he, .int .u16 m.ed.size, .int .u8 m.ed.ext, .int .u8 m.ed.ver, .int .u16 m.ed.flags, .slice oA m.ed.opts.length oc] 38)).heap[g7]? = some (.cells #[.int .u16 m.hd.id, .bool m.hd.qr, .int .u8 m.hd.op, .bool m.hd.aa, .bool m.hd.tc, .bool m.hd.rd, .bool m.hd.ra, .bool m.hd.z, .bool m.hd.ad, .bool m.hd.cd, .int .u8 m.hd.code, .slice qA m.qs.length qc, .slice aA m.ans.length ac, .slice uA m.auth.length uc, .slice xA m.extra.length xc, .bool m.he, .int .u16 m.ed.size, .int .u8 m.ed.ext, .int .u8 m.ed.ver, .int .u16 m.ed.flags, .slice oA m.ed.opts.length oc] 38) := by rw [hg7]; exact heap_alloc_new _ _
    have hEY : Ext Y (Y.alloc (.cells #[.int .u16 m.hd.id, .bool m.hd.qr, .int .u8 m.hd.op, .bool m.hd.aa, .bool m.hd.tc, .bool m.hd.rd, .bool m.hd.ra, .bool m.hd.z, .bool m.hd.ad, .bool m.hd.cd, .int .u8 m.hd.code, .slice qA m.qs.length qc, .slice aA m.ans.length ac, .slice uA m.auth.length uc, .slice xA m.extra.length xc, .bool m.he, .int .u16 m.ed.size, .int .u8 m.ed.ext, .int .u8 m.ed.ver, .int .u16 m.ed.flags, .slice oA m.ed.opts.length oc] 38)) := (Ext.refl _).alloc _
    have hg7s : Y.heap.size ≤ g7 := by rw [hg7]; exact Nat.le_refl _
    obtain ⟨Z, hZ⟩ : ∃ Z, Z = Y.alloc (.cells #[.int .u16 m.hd.id, .bool m.hd.qr, .int .u8 m.hd.op, .bool m.hd.aa, .bool m.hd.tc, .bool m.hd.rd, .bool m.hd.ra, .bool m.hd.z, .bool m.hd.ad, .bool m.hd.cd, .int .u8 m.hd.code, .slice qA m.qs.length qc, .slice aA m.ans.length ac, .slice uA m.auth.length uc, .slice xA m.extra.length xc, .bool m.he, .int .u16 m.ed.size, .int .u8 m.ed.ext, .int .u8 m.ed.ver, .int .u16 m.ed.flags, .slice oA m.ed.opts.length oc] 38) := ⟨_, rfl⟩
    rw [← hZ] at r7 hEY ⊢
    have hEZ : Ext X0 Z := hEd.trans hEY
    clear hZ hz hg7
    have rr := (hEZ.block _ (Array.getElem?_eq_some_iff.1 r0).1).trans r0
    have y0 := box_cell (j := 0) rr rfl
    have y1 := box_cell (j := 1) rr rfl
    have y2 := box_cell (j := 2) rr rfl
    have f0 := box_free (j := 0) rr
    have f1 := box_free (j := 1) rr
    have f2 := box_free (j := 2) rr
    have eb := (HEr.out Z (hE0.trans hEZ)).bad
    have ep := (HEr.out Z (hE0.trans hEZ)).pass
    have hg1eb : 0 < g1 := Nat.lt_of_lt_of_le (cell_lt he.bad) hgw
    have hg1ep : 1 < g1 := Nat.lt_of_lt_of_le (cell_lt he.pass) hgw
    have r1q := (hEZ.block _ (Array.getElem?_eq_some_iff.1 r10).1).trans r10
    have k0 := box_cell (j := 0) r1q rfl
    have k1 := box_cell (j := 1) r1q rfl
    have k2 := box_cell (j := 2) r1q rfl
    have HAs := Lib.hid (fun V (hV : Ext Z V) => heard_asks m (.slice qA m.qs.length qc) (.slice aA m.ans.length ac) (.slice uA m.auth.length uc) (.slice xA m.extra.length xc) (.slice oA m.ed.opts.length oc) n ty cls V (by
      obtain ⟨A, c, e, ho⟩ := HMO.out.qs
      exact Qus.ext ⟨A, c, e, ho.cap.1, ho.cap.2, ho.rd.lower (Nat.zero_le _)⟩ (hEY.trans hV)) (by unfold maxLen; omega) HBd.out.qok)
    have HCd := Lib.hid (fun V => heard_code m (.slice qA m.qs.length qc) (.slice aA m.ans.length ac) (.slice uA m.auth.length uc) (.slice xA m.extra.length xc) (.slice oA m.ed.opts.length oc) V d1 hcl)
    have HVo := Lib.hid (fun V (hV : Ext Z V) => ver_of (xOf m qA xA oA qc xc oc) n ty cls m.hd.code 0 aA ac uA uc m.ans m.auth V (hg.ext ((hE0.trans hEZ).trans hV)) ((HMO.out.ans.recs.lower (Nat.zero_le _)).ext (hEY.trans hV)) ((HMO.out.auth.recs.lower (Nat.zero_le _)).ext (hEY.trans hV)) ⟨by omega, hsh1⟩ ⟨by omega, hsh2⟩ (fun r hr => ⟨(d1.ans r hr).1, (d1.ans r hr).2.1⟩) (fun r hr => ⟨(d1.auth r hr).1, (d1.auth r hr).2.1⟩) hn)
    have z1 := box_cell (j := 1) r7 rfl
    have z2 := box_cell (j := 2) r7 rfl
    by_cases hits : m.hd.qr = true ∧ m.hd.op = 0 ∧ asksB m n ty cls = true
    · have Hits := Lib.hid hits
      obtain ⟨i1, i2, i3⟩ := hits
      rw [i1] at z1
      rw [i2] at z2
      rw [i3] at HAs
      have hits := Hits
      clear i1 i2 i3 Hits
      go_upto_region 4 with (first | (refine wpList_load_part (by rfl) 38 (.tmp 7) rfl g7 0 rfl [.int .u16 m.hd.id, .bool m.hd.qr, .int .u8 m.hd.op, .bool m.hd.aa, .bool m.hd.tc, .bool m.hd.rd, .bool m.hd.ra, .bool m.hd.z, .bool m.hd.ad, .bool m.hd.cd, .int .u8 m.hd.code, .slice qA m.qs.length qc, .slice aA m.ans.length ac, .slice uA m.auth.length uc, .slice xA m.extra.length xc, .bool m.he, .int .u16 m.ed.size, .int .u8 m.ed.ext, .int .u8 m.ed.ver, .int .u16 m.ed.flags, .slice oA m.ed.opts.length oc] (row_all r7) _ Tryz.underlying38 rfl (by kernel_rfl) ?_) | (go_at_call 79; refine (HAs.out _ (Ext.refl _)).mono ?_; rintro e W1 ⟨rfl, hE1⟩) | fail)
      have r71 := (hE1.block _ (Array.getElem?_eq_some_iff.1 r7).1).trans r7
      go_upto_region 5 with (first | (refine wpList_load_part (by rfl) 38 (.tmp 7) rfl g7 0 rfl [.int .u16 m.hd.id, .bool m.hd.qr, .int .u8 m.hd.op, .bool m.hd.aa, .bool m.hd.tc, .bool m.hd.rd, .bool m.hd.ra, .bool m.hd.z, .bool m.hd.ad, .bool m.hd.cd, .int .u8 m.hd.code, .slice qA m.qs.length qc, .slice aA m.ans.length ac, .slice uA m.auth.length uc, .slice xA m.extra.length xc, .bool m.he, .int .u16 m.ed.size, .int .u8 m.ed.ext, .int .u8 m.ed.ver, .int .u16 m.ed.flags, .slice oA m.ed.opts.length oc] (row_all r71) _ Tryz.underlying38 rfl (by kernel_rfl) ?_) | (go_at_call 80; refine (HCd.out _).mono ?_; rintro e W2 ⟨rfl, hE2⟩) | fail)
      have hEZ2 : Ext Z W2 := hE1.trans hE2
      have hEZ : Ext X0 W2 := hEZ.trans hEZ2
      clear y0 y1 y2 f0 f1 f2 k0 k1 k2 eb ep r71 z1 z2
      have rr := ((hEZ2).block _ (Array.getElem?_eq_some_iff.1 rr).1).trans rr
      have r7 := ((hEZ2).block _ (Array.getElem?_eq_some_iff.1 r7).1).trans r7
      have r1q := ((hEZ2).block _ (Array.getElem?_eq_some_iff.1 r1q).1).trans r1q
      have y0 := box_cell (j := 0) rr rfl
      have y1 := box_cell (j := 1) rr rfl
      have y2 := box_cell (j := 2) rr rfl
      have f0 := box_free (j := 0) rr
      have f1 := box_free (j := 1) rr
      have f2 := box_free (j := 2) rr
      have k0 := box_cell (j := 0) r1q rfl
      have k1 := box_cell (j := 1) r1q rfl
      have k2 := box_cell (j := 2) r1q rfl
      have eb := (HEr.out W2 (hE0.trans hEZ)).bad
      have ep := (HEr.out W2 (hE0.trans hEZ)).pass
      have z4 := box_cell (j := 4) r7 rfl
      by_cases htc : m.hd.tc = true
      · rw [htc] at z4
        have hR := Lib.hid (hR.out.trans (replyM_pass hits.out (.inl htc)))
        clear htc
        go_upto_region 6 with fail
        have hS : W2.drew.cell? ⟨1, 0, none⟩ = some (errV b) := ep
        refine wp_region_noPanic ?_
        refine wp_region_tree (S := (fun V => V.cell? ⟨1, 0, none⟩ = some (errV b))) (.take 0 (.take 1 (.run 2 (.take 3 (.take 4 (.done)))))) (by kernel_rfl) (by kernel_rfl) (fun _ _ _ _ _ h => h) (hS) ?_
        repeat ((with_reducible refine treeIs ?_); first
          | (refine treeTakeX (a' := ?_) ⟨_, hS⟩ (by rfl) rfl (by kernel_rfl) rfl ?_ ?_; rotate_left; (focus (intro V Q' hV hq; (repeat (first | go_guarded | go_skip | go_step)); (first | exact hq | exact wpList_nil hq)))))
        refine treeRun (by rfl) (fun K hK => ?_)
        go_simp
        refine hK.out _ _ ?_ ?_
        · exact cell3 ep (Nat.ne_of_lt hg1ep)
        clear hK K
        (try simp only [Act.put, List.setIfInBounds_toArray, List.set_cons_zero, List.set_cons_succ])
        repeat ((with_reducible refine treeIs ?_); first
          | (refine treeTakeX (a' := ?_) ⟨_, hS⟩ (by rfl) rfl (by kernel_rfl) rfl ?_ ?_; rotate_left; (focus (intro V Q' hV hq; (repeat (first | go_guarded | go_skip | go_step)); (first | exact hq | exact wpList_nil hq)))))
        refine treeDone ?_
        refine NoPanic.normal ?_
        obtain ⟨U, hU⟩ : ∃ U, U = (((W2.setCell ⟨g1, 0, none⟩ (.int .u8 0)).setCell ⟨g1, 1, none⟩ (.slice none 0 0)).setCell ⟨g1, 2, none⟩ (.slice none 0 0)).drew := ⟨_, rfl⟩
        rw [← hU]
        have ru : U.heap[g1]? = some (.cells #[.int .u8 0, .slice none 0 0, .slice none 0 0] 44) := by rw [hU]; exact row_set (row_set (row_set rr 0 _) 1 _) 2 _
        have hEU : Ext w U := by rw [hU]; exact ((((hE0.trans hEZ).setCell hgw _).setCell hgw _).setCell hgw _).drew
        have u0 := box_cell (j := 0) ru rfl
        have u1 := box_cell (j := 1) ru rfl
        have u2 := box_cell (j := 2) ru rfl
        clear hU rr y0 y1 y2 f0 f1 f2
        go_wp2_with fail
        refine bodyPost_ret (results_rowH rfl _ _ g1 _ _ _ _ rfl ru Tryz.underlying44 rfl (by kernel_rfl)) rfl ?_
        show ReadH (replyOf d n ty cls) a b w (.returned (.tuple #[.agg #[.int .u8 0, .slice none 0 0, .slice none 0 0], .int .u32 0, errV b])) U
        rw [hR.out]
        exact readH_pass hEU
      have htf : m.hd.tc = false := by cases h : m.hd.tc; rfl; exact absurd h htc
      rw [htf] at z4
      by_cases hc0 : code12 m = 0
      · have hR := Lib.hid (hR.out.trans (replyM_vote hits.out htf (.inl hc0)))
        rw [hc0]
        clear hc0 htf htc
        go_upto_region 8 with (first | (refine wpList_load_part (by rfl) 38 (.tmp 7) rfl g7 0 rfl [.int .u16 m.hd.id, .bool m.hd.qr, .int .u8 m.hd.op, .bool m.hd.aa, .bool m.hd.tc, .bool m.hd.rd, .bool m.hd.ra, .bool m.hd.z, .bool m.hd.ad, .bool m.hd.cd, .int .u8 m.hd.code, .slice qA m.qs.length qc, .slice aA m.ans.length ac, .slice uA m.auth.length uc, .slice xA m.extra.length xc, .bool m.he, .int .u16 m.ed.size, .int .u8 m.ed.ext, .int .u8 m.ed.ver, .int .u16 m.ed.flags, .slice oA m.ed.opts.length oc] (row_all r7) _ Tryz.underlying38 rfl (by kernel_rfl) ?_) | (go_at_call 8; refine (HVo.out _ hEZ2).mono ?_; rintro e W3 ⟨vs, vo, rfl, hvs, hvo, hdj, hE3⟩; have HVs := Lib.hid hvs; have HVt := Lib.hid hvo; obtain ⟨ps, pA, pc, _, rfl, _, _⟩ := hvs; obtain ⟨po, tA, tc, _, rfl, _, _⟩ := hvo) | fail)
        have HV := Lib.hid (show ∃ R, R = verOf n ty cls m.hd.code m.ans m.auth from ⟨_, rfl⟩)
        obtain ⟨R, hRv⟩ := HV.out
        rw [← hRv] at hR HVs HVt ⊢
        clear hRv HV
        have hEZ3 : Ext X0 W3 := hEZ.trans hE3
        by_cases herr : R.err = 0
        · have hR := Lib.hid (hR.out.trans (if_pos herr))
          rw [herr]
          clear herr
          obtain ⟨W4, hW4⟩ : ∃ W4, W4 = W3.alloc (.cells #[.int .u8 R.code, .slice pA ps.length pc, .slice tA po.length tc] 44) := ⟨_, rfl⟩
          obtain ⟨gv, hgv⟩ : ∃ gv, gv = W3.heap.size := ⟨_, rfl⟩
          have rv : W4.heap[gv]? = some (.cells #[.int .u8 R.code, .slice pA ps.length pc, .slice tA po.length tc] 44) := by rw [hW4, hgv]; exact heap_alloc_new _ _
          have hE34 : Ext W3 W4 := by rw [hW4]; exact (Ext.refl _).alloc _
          rw [← hW4, ← hgv]
          clear hW4 hgv
          have hE24 := hE3.trans hE34
          clear y0 y1 y2 f0 f1 f2 k0 k1 k2 eb ep
          have rr := (hE24.block _ (Array.getElem?_eq_some_iff.1 rr).1).trans rr
          have y0 := box_cell (j := 0) rr rfl
          have y1 := box_cell (j := 1) rr rfl
          have y2 := box_cell (j := 2) rr rfl
          have f0 := box_free (j := 0) rr
          have f1 := box_free (j := 1) rr
          have f2 := box_free (j := 2) rr
          have v0 := box_cell (j := 0) rv rfl
          have v1 := box_cell (j := 1) rv rfl
          have v2 := box_cell (j := 2) rv rfl
          have hg1l : g1 < W2.heap.size := Nat.lt_of_lt_of_le (Array.getElem?_eq_some_iff.1 r0).1 hEZ.size
          go_wp2_with fail
          obtain ⟨U, hU⟩ : ∃ U, U = (((W4.setCell ⟨g1, 0, none⟩ (.int .u8 R.code)).setCell ⟨g1, 1, none⟩ (.slice pA ps.length pc)).setCell ⟨g1, 2, none⟩ (.slice tA po.length tc)) := ⟨_, rfl⟩
          rw [← hU]
          have ru : U.heap[g1]? = some (.cells #[.int .u8 R.code, .slice pA ps.length pc, .slice tA po.length tc] 44) := by rw [hU]; exact row_set (row_set (row_set rr 0 _) 1 _) 2 _
          have hwW4 : Ext w W4 := hE0.trans (hEZ3.trans hE34)
          have hEU : Ext w U := by rw [hU]; exact ((hwW4.setCell hgw _).setCell hgw _).setCell hgw _
          refine bodyPost_ret (results_rowH rfl _ _ g1 _ _ _ _ rfl ru Tryz.underlying44 rfl (by kernel_rfl)) rfl ?_
          show ReadH (replyOf d n ty cls) a b w (.returned (.tuple #[.agg #[.int .u8 R.code, .slice pA ps.length pc, .slice tA po.length tc], .int .u32 R.time, .nilIface])) U
          rw [hR.out]
          have hlo : w.heap.size ≤ W2.heap.size := (hE0.trans hEZ).size
          refine ⟨_, _, _, rfl, .inr (.inr ⟨rfl, rfl⟩), ?_, ?_, hdj, hEU⟩
          · rw [hU]; exact (osets_set3 (HVs.out.ext hE34) hg1l _ _ _).lower hlo
          · rw [hU]; exact (osets_set3 (HVt.out.ext hE34) hg1l _ _ _).lower hlo
        · have hR := Lib.hid (hR.out.trans (if_neg herr))
          have her : ((R.err : Int) == 0) = false := by rw [beq_eq_false_iff_ne]; omega
          generalize (R.err : Int) = z at *
          have hz2 : ¬ z = 0 := by rw [beq_eq_false_iff_ne] at her; exact her
          have hz3 : decide (z = 0) = false := decide_eq_false hz2
          clear herr
          obtain ⟨W4, hW4⟩ : ∃ W4, W4 = W3.alloc (.cells #[.int .u8 R.code, .slice pA ps.length pc, .slice tA po.length tc] 44) := ⟨_, rfl⟩
          have hE34 : Ext W3 W4 := by rw [hW4]; exact (Ext.refl _).alloc _
          rw [← hW4]
          clear hW4
          have hE24 := hE3.trans hE34
          have hEZ := hEZ3.trans hE34
          clear y0 y1 y2 f0 f1 f2 k0 k1 k2 eb ep
          have rr := (hE24.block _ (Array.getElem?_eq_some_iff.1 rr).1).trans rr
          have y0 := box_cell (j := 0) rr rfl
          have y1 := box_cell (j := 1) rr rfl
          have y2 := box_cell (j := 2) rr rfl
          have f0 := box_free (j := 0) rr
          have f1 := box_free (j := 1) rr
          have f2 := box_free (j := 2) rr
          have eb := (HEr.out W4 (hE0.trans hEZ)).bad
          go_upto_region 9 with fail
          have hS : W4.drew.cell? ⟨0, 0, none⟩ = some (errV a) := eb
          refine wp_region_noPanic ?_
          refine wp_region_tree (S := (fun V => V.cell? ⟨0, 0, none⟩ = some (errV a))) (.take 0 (.take 1 (.run 2 (.take 3 (.take 4 (.done)))))) (by kernel_rfl) (by kernel_rfl) (fun _ _ _ _ _ h => h) (hS) ?_
          repeat ((with_reducible refine treeIs ?_); first
            | (refine treeTakeX (a' := ?_) ⟨_, hS⟩ (by rfl) rfl (by kernel_rfl) rfl ?_ ?_; rotate_left; (focus (intro V Q' hV hq; (repeat (first | go_guarded | go_skip | go_step)); (first | exact hq | exact wpList_nil hq)))))
          refine treeRun (by rfl) (fun K hK => ?_)
          go_simp
          refine hK.out _ _ ?_ ?_
          · exact cell3 eb (Nat.ne_of_lt hg1eb)
          clear hK K
          (try simp only [Act.put, List.setIfInBounds_toArray, List.set_cons_zero, List.set_cons_succ])
          repeat ((with_reducible refine treeIs ?_); first
            | (refine treeTakeX (a' := ?_) ⟨_, hS⟩ (by rfl) rfl (by kernel_rfl) rfl ?_ ?_; rotate_left; (focus (intro V Q' hV hq; (repeat (first | go_guarded | go_skip | go_step)); (first | exact hq | exact wpList_nil hq)))))
          refine treeDone ?_
          refine NoPanic.normal ?_
          obtain ⟨U, hU⟩ : ∃ U, U = (((W4.setCell ⟨g1, 0, none⟩ (.int .u8 0)).setCell ⟨g1, 1, none⟩ (.slice none 0 0)).setCell ⟨g1, 2, none⟩ (.slice none 0 0)).drew := ⟨_, rfl⟩
          rw [← hU]
          have ru : U.heap[g1]? = some (.cells #[.int .u8 0, .slice none 0 0, .slice none 0 0] 44) := by rw [hU]; exact row_set (row_set (row_set rr 0 _) 1 _) 2 _
          have hEU : Ext w U := by rw [hU]; exact ((((hE0.trans hEZ).setCell hgw _).setCell hgw _).setCell hgw _).drew
          have u0 := box_cell (j := 0) ru rfl
          have u1 := box_cell (j := 1) ru rfl
          have u2 := box_cell (j := 2) ru rfl
          clear hU rr y0 y1 y2 f0 f1 f2
          go_wp2_with fail
          refine bodyPost_ret (results_rowH rfl _ _ g1 _ _ _ _ rfl ru Tryz.underlying44 rfl (by kernel_rfl)) rfl ?_
          show ReadH (replyOf d n ty cls) a b w (.returned (.tuple #[.agg #[.int .u8 0, .slice none 0 0, .slice none 0 0], .int .u32 0, errV a])) U
          rw [hR.out]
          exact readH_bad hEU
      by_cases hc3 : code12 m = 3
      · have hR := Lib.hid (hR.out.trans (replyM_vote hits.out htf (.inr hc3)))
        rw [hc3]
        clear hc0 hc3 htf htc
        go_upto_region 8 with (first | (refine wpList_load_part (by rfl) 38 (.tmp 7) rfl g7 0 rfl [.int .u16 m.hd.id, .bool m.hd.qr, .int .u8 m.hd.op, .bool m.hd.aa, .bool m.hd.tc, .bool m.hd.rd, .bool m.hd.ra, .bool m.hd.z, .bool m.hd.ad, .bool m.hd.cd, .int .u8 m.hd.code, .slice qA m.qs.length qc, .slice aA m.ans.length ac, .slice uA m.auth.length uc, .slice xA m.extra.length xc, .bool m.he, .int .u16 m.ed.size, .int .u8 m.ed.ext, .int .u8 m.ed.ver, .int .u16 m.ed.flags, .slice oA m.ed.opts.length oc] (row_all r7) _ Tryz.underlying38 rfl (by kernel_rfl) ?_) | (go_at_call 8; refine (HVo.out _ hEZ2).mono ?_; rintro e W3 ⟨vs, vo, rfl, hvs, hvo, hdj, hE3⟩; have HVs := Lib.hid hvs; have HVt := Lib.hid hvo; obtain ⟨ps, pA, pc, _, rfl, _, _⟩ := hvs; obtain ⟨po, tA, tc, _, rfl, _, _⟩ := hvo) | fail)
        have HV := Lib.hid (show ∃ R, R = verOf n ty cls m.hd.code m.ans m.auth from ⟨_, rfl⟩)
        obtain ⟨R, hRv⟩ := HV.out
        rw [← hRv] at hR HVs HVt ⊢
        clear hRv HV
        have hEZ3 : Ext X0 W3 := hEZ.trans hE3
        by_cases herr : R.err = 0
        · have hR := Lib.hid (hR.out.trans (if_pos herr))
          rw [herr]
          clear herr
          obtain ⟨W4, hW4⟩ : ∃ W4, W4 = W3.alloc (.cells #[.int .u8 R.code, .slice pA ps.length pc, .slice tA po.length tc] 44) := ⟨_, rfl⟩
          obtain ⟨gv, hgv⟩ : ∃ gv, gv = W3.heap.size := ⟨_, rfl⟩
          have rv : W4.heap[gv]? = some (.cells #[.int .u8 R.code, .slice pA ps.length pc, .slice tA po.length tc] 44) := by rw [hW4, hgv]; exact heap_alloc_new _ _
          have hE34 : Ext W3 W4 := by rw [hW4]; exact (Ext.refl _).alloc _
          rw [← hW4, ← hgv]
          clear hW4 hgv
          have hE24 := hE3.trans hE34
          clear y0 y1 y2 f0 f1 f2 k0 k1 k2 eb ep
          have rr := (hE24.block _ (Array.getElem?_eq_some_iff.1 rr).1).trans rr
          have y0 := box_cell (j := 0) rr rfl
          have y1 := box_cell (j := 1) rr rfl
          have y2 := box_cell (j := 2) rr rfl
          have f0 := box_free (j := 0) rr
          have f1 := box_free (j := 1) rr
          have f2 := box_free (j := 2) rr
          have v0 := box_cell (j := 0) rv rfl
          have v1 := box_cell (j := 1) rv rfl
          have v2 := box_cell (j := 2) rv rfl
          have hg1l : g1 < W2.heap.size := Nat.lt_of_lt_of_le (Array.getElem?_eq_some_iff.1 r0).1 hEZ.size
          go_wp2_with fail
          obtain ⟨U, hU⟩ : ∃ U, U = (((W4.setCell ⟨g1, 0, none⟩ (.int .u8 R.code)).setCell ⟨g1, 1, none⟩ (.slice pA ps.length pc)).setCell ⟨g1, 2, none⟩ (.slice tA po.length tc)) := ⟨_, rfl⟩
          rw [← hU]
          have ru : U.heap[g1]? = some (.cells #[.int .u8 R.code, .slice pA ps.length pc, .slice tA po.length tc] 44) := by rw [hU]; exact row_set (row_set (row_set rr 0 _) 1 _) 2 _
          have hwW4 : Ext w W4 := hE0.trans (hEZ3.trans hE34)
          have hEU : Ext w U := by rw [hU]; exact ((hwW4.setCell hgw _).setCell hgw _).setCell hgw _
          refine bodyPost_ret (results_rowH rfl _ _ g1 _ _ _ _ rfl ru Tryz.underlying44 rfl (by kernel_rfl)) rfl ?_
          show ReadH (replyOf d n ty cls) a b w (.returned (.tuple #[.agg #[.int .u8 R.code, .slice pA ps.length pc, .slice tA po.length tc], .int .u32 R.time, .nilIface])) U
          rw [hR.out]
          have hlo : w.heap.size ≤ W2.heap.size := (hE0.trans hEZ).size
          refine ⟨_, _, _, rfl, .inr (.inr ⟨rfl, rfl⟩), ?_, ?_, hdj, hEU⟩
          · rw [hU]; exact (osets_set3 (HVs.out.ext hE34) hg1l _ _ _).lower hlo
          · rw [hU]; exact (osets_set3 (HVt.out.ext hE34) hg1l _ _ _).lower hlo
        · have hR := Lib.hid (hR.out.trans (if_neg herr))
          have her : ((R.err : Int) == 0) = false := by rw [beq_eq_false_iff_ne]; omega
          generalize (R.err : Int) = z at *
          have hz2 : ¬ z = 0 := by rw [beq_eq_false_iff_ne] at her; exact her
          have hz3 : decide (z = 0) = false := decide_eq_false hz2
          clear herr
          obtain ⟨W4, hW4⟩ : ∃ W4, W4 = W3.alloc (.cells #[.int .u8 R.code, .slice pA ps.length pc, .slice tA po.length tc] 44) := ⟨_, rfl⟩
          have hE34 : Ext W3 W4 := by rw [hW4]; exact (Ext.refl _).alloc _
          rw [← hW4]
          clear hW4
          have hE24 := hE3.trans hE34
          have hEZ := hEZ3.trans hE34
          clear y0 y1 y2 f0 f1 f2 k0 k1 k2 eb ep
          have rr := (hE24.block _ (Array.getElem?_eq_some_iff.1 rr).1).trans rr
          have y0 := box_cell (j := 0) rr rfl
          have y1 := box_cell (j := 1) rr rfl
          have y2 := box_cell (j := 2) rr rfl
          have f0 := box_free (j := 0) rr
          have f1 := box_free (j := 1) rr
          have f2 := box_free (j := 2) rr
          have eb := (HEr.out W4 (hE0.trans hEZ)).bad
          go_upto_region 9 with fail
          have hS : W4.drew.cell? ⟨0, 0, none⟩ = some (errV a) := eb
          refine wp_region_noPanic ?_
          refine wp_region_tree (S := (fun V => V.cell? ⟨0, 0, none⟩ = some (errV a))) (.take 0 (.take 1 (.run 2 (.take 3 (.take 4 (.done)))))) (by kernel_rfl) (by kernel_rfl) (fun _ _ _ _ _ h => h) (hS) ?_
          repeat ((with_reducible refine treeIs ?_); first
            | (refine treeTakeX (a' := ?_) ⟨_, hS⟩ (by rfl) rfl (by kernel_rfl) rfl ?_ ?_; rotate_left; (focus (intro V Q' hV hq; (repeat (first | go_guarded | go_skip | go_step)); (first | exact hq | exact wpList_nil hq)))))
          refine treeRun (by rfl) (fun K hK => ?_)
          go_simp
          refine hK.out _ _ ?_ ?_
          · exact cell3 eb (Nat.ne_of_lt hg1eb)
          clear hK K
          (try simp only [Act.put, List.setIfInBounds_toArray, List.set_cons_zero, List.set_cons_succ])
          repeat ((with_reducible refine treeIs ?_); first
            | (refine treeTakeX (a' := ?_) ⟨_, hS⟩ (by rfl) rfl (by kernel_rfl) rfl ?_ ?_; rotate_left; (focus (intro V Q' hV hq; (repeat (first | go_guarded | go_skip | go_step)); (first | exact hq | exact wpList_nil hq)))))
          refine treeDone ?_
          refine NoPanic.normal ?_
          obtain ⟨U, hU⟩ : ∃ U, U = (((W4.setCell ⟨g1, 0, none⟩ (.int .u8 0)).setCell ⟨g1, 1, none⟩ (.slice none 0 0)).setCell ⟨g1, 2, none⟩ (.slice none 0 0)).drew := ⟨_, rfl⟩
          rw [← hU]
          have ru : U.heap[g1]? = some (.cells #[.int .u8 0, .slice none 0 0, .slice none 0 0] 44) := by rw [hU]; exact row_set (row_set (row_set rr 0 _) 1 _) 2 _
          have hEU : Ext w U := by rw [hU]; exact ((((hE0.trans hEZ).setCell hgw _).setCell hgw _).setCell hgw _).drew
          have u0 := box_cell (j := 0) ru rfl
          have u1 := box_cell (j := 1) ru rfl
          have u2 := box_cell (j := 2) ru rfl
          clear hU rr y0 y1 y2 f0 f1 f2
          go_wp2_with fail
          refine bodyPost_ret (results_rowH rfl _ _ g1 _ _ _ _ rfl ru Tryz.underlying44 rfl (by kernel_rfl)) rfl ?_
          show ReadH (replyOf d n ty cls) a b w (.returned (.tuple #[.agg #[.int .u8 0, .slice none 0 0, .slice none 0 0], .int .u32 0, errV a])) U
          rw [hR.out]
          exact readH_bad hEU
      have hR := Lib.hid (hR.out.trans (replyM_pass hits.out (.inr ⟨hc0, hc3⟩)))
      generalize code12 m = cd at *
      have q0 : decide (cd = 0) = false := decide_eq_false hc0
      have q3 : decide (cd = 3) = false := decide_eq_false hc3
      have n0 : (cd != 0) = true := by rw [bne_iff_ne]; exact hc0
      have n3 : (cd != 3) = true := by rw [bne_iff_ne]; exact hc3
      have n4 : ¬ ((cd != 0) = false ∨ (cd != 3) = false) := by rw [n0, n3]; simp
      clear htf htc
      go_upto_region 6 with fail
      have hS : W2.drew.cell? ⟨1, 0, none⟩ = some (errV b) := ep
      refine wp_region_noPanic ?_
      refine wp_region_tree (S := (fun V => V.cell? ⟨1, 0, none⟩ = some (errV b))) (.take 0 (.take 1 (.run 2 (.take 3 (.take 4 (.done)))))) (by kernel_rfl) (by kernel_rfl) (fun _ _ _ _ _ h => h) (hS) ?_
      repeat ((with_reducible refine treeIs ?_); first
        | (refine treeTakeX (a' := ?_) ⟨_, hS⟩ (by rfl) rfl (by kernel_rfl) rfl ?_ ?_; rotate_left; (focus (intro V Q' hV hq; (repeat (first | go_guarded | go_skip | go_step)); (first | exact hq | exact wpList_nil hq)))))
      refine treeRun (by rfl) (fun K hK => ?_)
      go_simp
      refine hK.out _ _ ?_ ?_
      · exact cell3 ep (Nat.ne_of_lt hg1ep)
      clear hK K
      (try simp only [Act.put, List.setIfInBounds_toArray, List.set_cons_zero, List.set_cons_succ])
      repeat ((with_reducible refine treeIs ?_); first
        | (refine treeTakeX (a' := ?_) ⟨_, hS⟩ (by rfl) rfl (by kernel_rfl) rfl ?_ ?_; rotate_left; (focus (intro V Q' hV hq; (repeat (first | go_guarded | go_skip | go_step)); (first | exact hq | exact wpList_nil hq)))))
      refine treeDone ?_
      refine NoPanic.normal ?_
      obtain ⟨U, hU⟩ : ∃ U, U = (((W2.setCell ⟨g1, 0, none⟩ (.int .u8 0)).setCell ⟨g1, 1, none⟩ (.slice none 0 0)).setCell ⟨g1, 2, none⟩ (.slice none 0 0)).drew := ⟨_, rfl⟩
      rw [← hU]
      have ru : U.heap[g1]? = some (.cells #[.int .u8 0, .slice none 0 0, .slice none 0 0] 44) := by rw [hU]; exact row_set (row_set (row_set rr 0 _) 1 _) 2 _
      have hEU : Ext w U := by rw [hU]; exact ((((hE0.trans hEZ).setCell hgw _).setCell hgw _).setCell hgw _).drew
      have u0 := box_cell (j := 0) ru rfl
      have u1 := box_cell (j := 1) ru rfl
      have u2 := box_cell (j := 2) ru rfl
      clear hU rr y0 y1 y2 f0 f1 f2
      go_wp2_with fail
      refine bodyPost_ret (results_rowH rfl _ _ g1 _ _ _ _ rfl ru Tryz.underlying44 rfl (by kernel_rfl)) rfl ?_
      show ReadH (replyOf d n ty cls) a b w (.returned (.tuple #[.agg #[.int .u8 0, .slice none 0 0, .slice none 0 0], .int .u32 0, errV b])) U
      rw [hR.out]
      exact readH_pass hEU
    · have hR := Lib.hid (hR.out.trans (replyM_not hits))
      have hbad : ∀ B, asksB m n ty cls = B → ¬ (m.hd.qr = true ∧ m.hd.op = 0 ∧ B = true) := fun B hB hx => hits ⟨hx.1, hx.2.1, hB.trans hx.2.2⟩
      generalize hB : asksB m n ty cls = B at *
      have hbad := hbad B rfl
      clear hits hB
      rcases hqr : m.hd.qr with _ | _
      · rw [hqr] at z1
        clear hqr hbad
        go_upto_region 3 with fail
        have hS : Z.drew.cell? ⟨0, 0, none⟩ = some (errV a) := eb
        refine wp_region_noPanic ?_
        refine wp_region_tree (S := (fun V => V.cell? ⟨0, 0, none⟩ = some (errV a))) (.take 0 (.take 1 (.run 2 (.take 3 (.take 4 (.done)))))) (by kernel_rfl) (by kernel_rfl) (fun _ _ _ _ _ h => h) (hS) ?_
        repeat ((with_reducible refine treeIs ?_); first
          | (refine treeTakeX (a' := ?_) ⟨_, hS⟩ (by rfl) rfl (by kernel_rfl) rfl ?_ ?_; rotate_left; (focus (intro V Q' hV hq; (repeat (first | go_guarded | go_skip | go_step)); (first | exact hq | exact wpList_nil hq)))))
        refine treeRun (by rfl) (fun K hK => ?_)
        go_simp
        refine hK.out _ _ ?_ ?_
        · exact cell3 eb (Nat.ne_of_lt hg1eb)
        clear hK K
        (try simp only [Act.put, List.setIfInBounds_toArray, List.set_cons_zero, List.set_cons_succ])
        repeat ((with_reducible refine treeIs ?_); first
          | (refine treeTakeX (a' := ?_) ⟨_, hS⟩ (by rfl) rfl (by kernel_rfl) rfl ?_ ?_; rotate_left; (focus (intro V Q' hV hq; (repeat (first | go_guarded | go_skip | go_step)); (first | exact hq | exact wpList_nil hq)))))
        refine treeDone ?_
        refine NoPanic.normal ?_
        obtain ⟨U, hU⟩ : ∃ U, U = (((Z.setCell ⟨g1, 0, none⟩ (.int .u8 0)).setCell ⟨g1, 1, none⟩ (.slice none 0 0)).setCell ⟨g1, 2, none⟩ (.slice none 0 0)).drew := ⟨_, rfl⟩
        rw [← hU]
        have ru : U.heap[g1]? = some (.cells #[.int .u8 0, .slice none 0 0, .slice none 0 0] 44) := by rw [hU]; exact row_set (row_set (row_set rr 0 _) 1 _) 2 _
        have hEU : Ext w U := by rw [hU]; exact ((((hE0.trans hEZ).setCell hgw _).setCell hgw _).setCell hgw _).drew
        have u0 := box_cell (j := 0) ru rfl
        have u1 := box_cell (j := 1) ru rfl
        have u2 := box_cell (j := 2) ru rfl
        clear hU rr y0 y1 y2 f0 f1 f2
        go_wp2_with fail
        refine bodyPost_ret (results_rowH rfl _ _ g1 _ _ _ _ rfl ru Tryz.underlying44 rfl (by kernel_rfl)) rfl ?_
        show ReadH (replyOf d n ty cls) a b w (.returned (.tuple #[.agg #[.int .u8 0, .slice none 0 0, .slice none 0 0], .int .u32 0, errV a])) U
        rw [hR.out]
        exact readH_bad hEU
      rw [hqr] at z1
      by_cases hop : m.hd.op = 0
      · rw [hop] at z2
        obtain rfl : B = false := by cases B; rfl; exact absurd ⟨hqr, hop, rfl⟩ hbad
        clear hqr hop hbad
        go_upto_region 3 with (first | (refine wpList_load_part (by rfl) 38 (.tmp 7) rfl g7 0 rfl [.int .u16 m.hd.id, .bool m.hd.qr, .int .u8 m.hd.op, .bool m.hd.aa, .bool m.hd.tc, .bool m.hd.rd, .bool m.hd.ra, .bool m.hd.z, .bool m.hd.ad, .bool m.hd.cd, .int .u8 m.hd.code, .slice qA m.qs.length qc, .slice aA m.ans.length ac, .slice uA m.auth.length uc, .slice xA m.extra.length xc, .bool m.he, .int .u16 m.ed.size, .int .u8 m.ed.ext, .int .u8 m.ed.ver, .int .u16 m.ed.flags, .slice oA m.ed.opts.length oc] (row_all r7) _ Tryz.underlying38 rfl (by kernel_rfl) ?_) | (go_at_call 79; refine (HAs.out _ (Ext.refl _)).mono ?_; rintro e W1 ⟨rfl, hE1⟩) | fail)
        have hEZ : Ext X0 W1 := hEZ.trans hE1
        clear y0 y1 y2 f0 f1 f2 k0 k1 k2 eb ep z1 z2
        have rr := ((hE1).block _ (Array.getElem?_eq_some_iff.1 rr).1).trans rr
        have r7 := ((hE1).block _ (Array.getElem?_eq_some_iff.1 r7).1).trans r7
        have r1q := ((hE1).block _ (Array.getElem?_eq_some_iff.1 r1q).1).trans r1q
        have y0 := box_cell (j := 0) rr rfl
        have y1 := box_cell (j := 1) rr rfl
        have y2 := box_cell (j := 2) rr rfl
        have f0 := box_free (j := 0) rr
        have f1 := box_free (j := 1) rr
        have f2 := box_free (j := 2) rr
        have k0 := box_cell (j := 0) r1q rfl
        have k1 := box_cell (j := 1) r1q rfl
        have k2 := box_cell (j := 2) r1q rfl
        have eb := (HEr.out W1 (hE0.trans hEZ)).bad
        have ep := (HEr.out W1 (hE0.trans hEZ)).pass
        go_upto_region 3 with fail
        have hS : W1.drew.cell? ⟨0, 0, none⟩ = some (errV a) := eb
        refine wp_region_noPanic ?_
        refine wp_region_tree (S := (fun V => V.cell? ⟨0, 0, none⟩ = some (errV a))) (.take 0 (.take 1 (.run 2 (.take 3 (.take 4 (.done)))))) (by kernel_rfl) (by kernel_rfl) (fun _ _ _ _ _ h => h) (hS) ?_
        repeat ((with_reducible refine treeIs ?_); first
          | (refine treeTakeX (a' := ?_) ⟨_, hS⟩ (by rfl) rfl (by kernel_rfl) rfl ?_ ?_; rotate_left; (focus (intro V Q' hV hq; (repeat (first | go_guarded | go_skip | go_step)); (first | exact hq | exact wpList_nil hq)))))
        refine treeRun (by rfl) (fun K hK => ?_)
        go_simp
        refine hK.out _ _ ?_ ?_
        · exact cell3 eb (Nat.ne_of_lt hg1eb)
        clear hK K
        (try simp only [Act.put, List.setIfInBounds_toArray, List.set_cons_zero, List.set_cons_succ])
        repeat ((with_reducible refine treeIs ?_); first
          | (refine treeTakeX (a' := ?_) ⟨_, hS⟩ (by rfl) rfl (by kernel_rfl) rfl ?_ ?_; rotate_left; (focus (intro V Q' hV hq; (repeat (first | go_guarded | go_skip | go_step)); (first | exact hq | exact wpList_nil hq)))))
        refine treeDone ?_
        refine NoPanic.normal ?_
        obtain ⟨U, hU⟩ : ∃ U, U = (((W1.setCell ⟨g1, 0, none⟩ (.int .u8 0)).setCell ⟨g1, 1, none⟩ (.slice none 0 0)).setCell ⟨g1, 2, none⟩ (.slice none 0 0)).drew := ⟨_, rfl⟩
        rw [← hU]
        have ru : U.heap[g1]? = some (.cells #[.int .u8 0, .slice none 0 0, .slice none 0 0] 44) := by rw [hU]; exact row_set (row_set (row_set rr 0 _) 1 _) 2 _
        have hEU : Ext w U := by rw [hU]; exact ((((hE0.trans hEZ).setCell hgw _).setCell hgw _).setCell hgw _).drew
        have u0 := box_cell (j := 0) ru rfl
        have u1 := box_cell (j := 1) ru rfl
        have u2 := box_cell (j := 2) ru rfl
        clear hU rr y0 y1 y2 f0 f1 f2
        go_wp2_with fail
        refine bodyPost_ret (results_rowH rfl _ _ g1 _ _ _ _ rfl ru Tryz.underlying44 rfl (by kernel_rfl)) rfl ?_
        show ReadH (replyOf d n ty cls) a b w (.returned (.tuple #[.agg #[.int .u8 0, .slice none 0 0, .slice none 0 0], .int .u32 0, errV a])) U
        rw [hR.out]
        exact readH_bad hEU
      · have hop1 : decide (m.hd.op = 0) = false := decide_eq_false hop
        clear hqr hbad
        go_upto_region 3 with fail
        have hS : Z.drew.cell? ⟨0, 0, none⟩ = some (errV a) := eb
        refine wp_region_noPanic ?_
        refine wp_region_tree (S := (fun V => V.cell? ⟨0, 0, none⟩ = some (errV a))) (.take 0 (.take 1 (.run 2 (.take 3 (.take 4 (.done)))))) (by kernel_rfl) (by kernel_rfl) (fun _ _ _ _ _ h => h) (hS) ?_
        repeat ((with_reducible refine treeIs ?_); first
          | (refine treeTakeX (a' := ?_) ⟨_, hS⟩ (by rfl) rfl (by kernel_rfl) rfl ?_ ?_; rotate_left; (focus (intro V Q' hV hq; (repeat (first | go_guarded | go_skip | go_step)); (first | exact hq | exact wpList_nil hq)))))
        refine treeRun (by rfl) (fun K hK => ?_)
        go_simp
        refine hK.out _ _ ?_ ?_
        · exact cell3 eb (Nat.ne_of_lt hg1eb)
        clear hK K
        (try simp only [Act.put, List.setIfInBounds_toArray, List.set_cons_zero, List.set_cons_succ])
        repeat ((with_reducible refine treeIs ?_); first
          | (refine treeTakeX (a' := ?_) ⟨_, hS⟩ (by rfl) rfl (by kernel_rfl) rfl ?_ ?_; rotate_left; (focus (intro V Q' hV hq; (repeat (first | go_guarded | go_skip | go_step)); (first | exact hq | exact wpList_nil hq)))))
        refine treeDone ?_
        refine NoPanic.normal ?_
        obtain ⟨U, hU⟩ : ∃ U, U = (((Z.setCell ⟨g1, 0, none⟩ (.int .u8 0)).setCell ⟨g1, 1, none⟩ (.slice none 0 0)).setCell ⟨g1, 2, none⟩ (.slice none 0 0)).drew := ⟨_, rfl⟩
        rw [← hU]
        have ru : U.heap[g1]? = some (.cells #[.int .u8 0, .slice none 0 0, .slice none 0 0] 44) := by rw [hU]; exact row_set (row_set (row_set rr 0 _) 1 _) 2 _
        have hEU : Ext w U := by rw [hU]; exact ((((hE0.trans hEZ).setCell hgw _).setCell hgw _).setCell hgw _).drew
        have u0 := box_cell (j := 0) ru rfl
        have u1 := box_cell (j := 1) ru rfl
        have u2 := box_cell (j := 2) ru rfl
        clear hU rr y0 y1 y2 f0 f1 f2
        go_wp2_with fail
        refine bodyPost_ret (results_rowH rfl _ _ g1 _ _ _ _ rfl ru Tryz.underlying44 rfl (by kernel_rfl)) rfl ?_
        show ReadH (replyOf d n ty cls) a b w (.returned (.tuple #[.agg #[.int .u8 0, .slice none 0 0, .slice none 0 0], .int .u32 0, errV a])) U
        rw [hR.out]
        exact readH_bad hEU
end Go.Proofs.YtcpikbanghoflaaGreatDoor
namespace Go.Proofs.YtcpikbanghoflaaGreatDoor
set_option linter.unusedSimpArgs false
set_option linter.unusedVariables false
open Go.RowKit
set_option maxRecDepth 100000
def LookH (R : ReplyD) (w : World) (e : Ending) (w' : World) : Prop :=
  ∃ vs vo, e = .returned (.agg #[.int .u8 R.kind, .int .u8 R.ver.code, vs, vo, .int .u32 R.ver.time]) ∧ OSets w' w.heap.size vs R.ver.sets ∧ OSets w' w.heap.size vo R.ver.soa ∧ (vo.ownBlock = none ∨ vo.ownBlock ≠ vs.ownBlock) ∧ Ext w w'
theorem reply_kind (d n : List UInt8) (ty cls : Int) : replyOf d n ty cls = .bad ∨ replyOf d n ty cls = .pass ∨ (replyOf d n ty cls).kind = 3 := by
  unfold replyOf
  split
  · exact .inl rfl
  unfold replyM
  split
  · split
    · exact .inr (.inl rfl)
    · split
      · exact .inr (.inr rfl)
      · exact .inl rfl
  · exact .inl rfl
theorem osets_set5 {w : World} {lo g : Nat} {v : Value} {l : List SetD} (h : OSets w lo v l) (hg : g < lo) (a b c d e : Value) : OSets (((((w.setCell ⟨g, 0, none⟩ a).setCell ⟨g, 1, none⟩ b).setCell ⟨g, 2, none⟩ c).setCell ⟨g, 3, none⟩ d).setCell ⟨g, 4, none⟩ e) lo v l :=
  osets_set (osets_set (osets_set3 h hg a b c) hg d) hg e
set_option maxHeartbeats 4000000 in
theorem heard_look (d n : List UInt8) (ty cls : Int) (a b : Addr) (w : World) (hg : Laid w) (hb : BitsAt w) (he : ErrsAt w a b) (hd : d.length ≤ 16384) (hn : n.length ≤ 1048576) :
    Calls Tryz.prog 21 #[.agg #[S n, .int .u16 ty, .int .u16 cls], S d] w (LookH (replyOf d n ty cls) w) := by
  have HK := Lib.hid (reply_kind d n ty cls)
  obtain ⟨X1, hX1⟩ : ∃ X1, X1 = w.alloc (.cells #[S n, .int .u16 ty, .int .u16 cls] 25) := ⟨_, rfl⟩
  obtain ⟨X0, hX0⟩ : ∃ X0, X0 = X1.alloc (.cells #[.int .u8 0, .int .u8 0, .slice none 0 0, .slice none 0 0, .int .u32 0] 68) := ⟨_, rfl⟩
  obtain ⟨g4, hg4⟩ : ∃ g4, g4 = X1.heap.size := ⟨_, rfl⟩
  have r1 : X1.heap[w.heap.size]? = some (.cells #[S n, .int .u16 ty, .int .u16 cls] 25) := by rw [hX1]; exact heap_alloc_new _ _
  have r0 : X0.heap[g4]? = some (.cells #[.int .u8 0, .int .u8 0, .slice none 0 0, .slice none 0 0, .int .u32 0] 68) := by rw [hX0, hg4]; exact heap_alloc_new _ _
  have hE01 : Ext X1 X0 := by rw [hX0]; exact (Ext.refl _).alloc _
  have hE0 : Ext w X0 := Ext.trans (by rw [hX1]; exact (Ext.refl _).alloc _) hE01
  have r10 := (hE01.block _ (Array.getElem?_eq_some_iff.1 r1).1).trans r1
  have hsz : w.heap.size + 1 = g4 := by rw [hg4, hX1]; simp
  have hg4w : w.heap.size ≤ g4 := by omega
  have HSz := Lib.hid hsz
  have HRd := Lib.hid (heard_read d n ty cls a b X0 (hg.ext hE0) (hb.ext hE0) (he.ext hE0) hd hn)
  generalize hR : replyOf d n ty cls = R at *
  clear hsz hR
  go_enter Tryz.func21, Tryz.ntmps21
  go_upto_region 1 with fail
  rw [← hX1, ← hX0]
  have e1 : (w.heap.size + 1) = g4 := HSz.out
  try rw [e1]
  try rw [← hg4]
  clear e1 hX1 hX0 hg4 hE01
  have k0 := box_cell (j := 0) r10 rfl
  have k1 := box_cell (j := 1) r10 rfl
  have k2 := box_cell (j := 2) r10 rfl
  go_upto_region 2 with (first | (go_at_call 43; refine HRd.out.mono ?_; rintro e W3 ⟨vs, vo, er, rfl, hor, hvs, hvo, hdj, hE3⟩; have HVs := Lib.hid hvs; have HVt := Lib.hid hvo; obtain ⟨ps, pA, pc, _, rfl, _, _⟩ := hvs; obtain ⟨po, tA, tc, _, rfl, _, _⟩ := hvo) | fail)
  obtain ⟨W4, hW4⟩ : ∃ W4, W4 = W3.alloc (.cells #[.int .u8 R.ver.code, .slice pA ps.length pc, .slice tA po.length tc] 44) := ⟨_, rfl⟩
  obtain ⟨gv, hgv⟩ : ∃ gv, gv = W3.heap.size := ⟨_, rfl⟩
  have rv : W4.heap[gv]? = some (.cells #[.int .u8 R.ver.code, .slice pA ps.length pc, .slice tA po.length tc] 44) := by rw [hW4, hgv]; exact heap_alloc_new _ _
  have hE34 : Ext W3 W4 := by rw [hW4]; exact (Ext.refl _).alloc _
  rw [← hW4, ← hgv]
  clear hW4 hgv k0 k1 k2
  have rr := r0
  have hE04 := hE3.trans hE34
  have rr := ((hE04).block _ (Array.getElem?_eq_some_iff.1 rr).1).trans rr
  have y0 := box_cell (j := 0) rr rfl
  have y1 := box_cell (j := 1) rr rfl
  have y2 := box_cell (j := 2) rr rfl
  have y3 := box_cell (j := 3) rr rfl
  have y4 := box_cell (j := 4) rr rfl
  have f0 := box_free (j := 0) rr
  have f1 := box_free (j := 1) rr
  have f2 := box_free (j := 2) rr
  have f3 := box_free (j := 3) rr
  have f4 := box_free (j := 4) rr
  have hW4w : Ext w W4 := hE0.trans hE04
  have HEr := he.ext hW4w
  have eb := HEr.bad
  have ep := HEr.pass
  obtain ⟨ca, ta, hA⟩ := HEr.ha
  obtain ⟨cb, tb, hB⟩ := HEr.hb
  rcases hor with ⟨hk, rfl⟩ | ⟨hk, rfl⟩ | ⟨hk, rfl⟩
  · have hRb := Lib.hid (show R = .bad from by rcases HK.out with h | h | h; exact h; rw [h] at hk; exact absurd hk (by decide); rw [h] at hk; exact absurd hk (by decide))
    clear hk
    go_wp2_with fail
    refine (is_same a W4).mono ?_
    rintro e W5 ⟨rfl, hq5⟩
    rw [hq5]
    go_wp2_with fail
    obtain ⟨U, hU⟩ : ∃ U, U = (((((W4.setCell ⟨g4, 0, none⟩ (.int .u8 1)).setCell ⟨g4, 1, none⟩ (.int .u8 0)).setCell ⟨g4, 2, none⟩ (.slice none 0 0)).setCell ⟨g4, 3, none⟩ (.slice none 0 0)).setCell ⟨g4, 4, none⟩ (.int .u32 0)) := ⟨_, rfl⟩
    rw [← hU]
    have ru : U.heap[g4]? = some (.cells #[.int .u8 1, .int .u8 0, .slice none 0 0, .slice none 0 0, .int .u32 0] 68) := by rw [hU]; exact (row_set (row_set (row_set (row_set (row_set rr 0 _) 1 _) 2 _) 3 _) 4 _)
    have hEU : Ext w U := by rw [hU]; exact (((((hW4w).setCell hg4w _).setCell hg4w _).setCell hg4w _).setCell hg4w _).setCell hg4w _
    refine bodyPost_ret (results_rowL rfl _ _ g4 _ _ _ _ rfl ru Tryz.underlying68 rfl (by kernel_rfl)) rfl ?_
    show LookH R w (.returned (.agg #[.int .u8 1, .int .u8 0, .slice none 0 0, .slice none 0 0, .int .u32 0])) U
    rw [hRb.out]
    exact ⟨_, _, rfl, OSets.nil _ _, OSets.nil _ _, .inl rfl, hEU⟩
  · have hRb := Lib.hid (show R = .pass from by rcases HK.out with h | h | h; rw [h] at hk; exact absurd hk (by decide); exact h; rw [h] at hk; exact absurd hk (by decide))
    clear hk
    go_wp2_with fail
    refine (is_other b a cb ca tb ta W4 (fun e => HEr.ne e.symm) hB hA).mono ?_
    rintro e W5 ⟨rfl, hq5⟩
    rw [hq5]
    go_wp2_with fail
    refine (is_same b W4).mono ?_
    rintro e W6 ⟨rfl, hq6⟩
    rw [hq6]
    go_wp2_with fail
    obtain ⟨U, hU⟩ : ∃ U, U = (((((W4.setCell ⟨g4, 0, none⟩ (.int .u8 2)).setCell ⟨g4, 1, none⟩ (.int .u8 0)).setCell ⟨g4, 2, none⟩ (.slice none 0 0)).setCell ⟨g4, 3, none⟩ (.slice none 0 0)).setCell ⟨g4, 4, none⟩ (.int .u32 0)) := ⟨_, rfl⟩
    rw [← hU]
    have ru : U.heap[g4]? = some (.cells #[.int .u8 2, .int .u8 0, .slice none 0 0, .slice none 0 0, .int .u32 0] 68) := by rw [hU]; exact (row_set (row_set (row_set (row_set (row_set rr 0 _) 1 _) 2 _) 3 _) 4 _)
    have hEU : Ext w U := by rw [hU]; exact (((((hW4w).setCell hg4w _).setCell hg4w _).setCell hg4w _).setCell hg4w _).setCell hg4w _
    refine bodyPost_ret (results_rowL rfl _ _ g4 _ _ _ _ rfl ru Tryz.underlying68 rfl (by kernel_rfl)) rfl ?_
    show LookH R w (.returned (.agg #[.int .u8 2, .int .u8 0, .slice none 0 0, .slice none 0 0, .int .u32 0])) U
    rw [hRb.out]
    exact ⟨_, _, rfl, OSets.nil _ _, OSets.nil _ _, .inl rfl, hEU⟩
  · have hRk := Lib.hid hk
    clear hk
    have v0 := box_cell (j := 0) rv rfl
    have v1 := box_cell (j := 1) rv rfl
    have v2 := box_cell (j := 2) rv rfl
    have hg4l : g4 < X0.heap.size := (Array.getElem?_eq_some_iff.1 r0).1
    go_wp2_with fail
    refine (is_nil a W4).mono ?_
    rintro e W5 ⟨rfl, hq5⟩
    rw [hq5]
    go_wp2_with fail
    refine (is_nil b W4).mono ?_
    rintro e W6 ⟨rfl, hq6⟩
    rw [hq6]
    go_wp2_with fail
    obtain ⟨U, hU⟩ : ∃ U, U = (((((W4.setCell ⟨g4, 0, none⟩ (.int .u8 3)).setCell ⟨g4, 1, none⟩ (.int .u8 R.ver.code)).setCell ⟨g4, 2, none⟩ (.slice pA ps.length pc)).setCell ⟨g4, 3, none⟩ (.slice tA po.length tc)).setCell ⟨g4, 4, none⟩ (.int .u32 R.ver.time)) := ⟨_, rfl⟩
    rw [← hU]
    have ru : U.heap[g4]? = some (.cells #[.int .u8 3, .int .u8 R.ver.code, .slice pA ps.length pc, .slice tA po.length tc, .int .u32 R.ver.time] 68) := by rw [hU]; exact (row_set (row_set (row_set (row_set (row_set rr 0 _) 1 _) 2 _) 3 _) 4 _)
    have hEU : Ext w U := by rw [hU]; exact (((((hW4w).setCell hg4w _).setCell hg4w _).setCell hg4w _).setCell hg4w _).setCell hg4w _
    refine bodyPost_ret (results_rowL rfl _ _ g4 _ _ _ _ rfl ru Tryz.underlying68 rfl (by kernel_rfl)) rfl ?_
    show LookH R w (.returned (.agg #[.int .u8 3, .int .u8 R.ver.code, .slice pA ps.length pc, .slice tA po.length tc, .int .u32 R.ver.time])) U
    refine ⟨_, _, by rw [hRk.out], ?_, ?_, hdj, hEU⟩
    · rw [hU]; exact (osets_set5 (HVs.out.ext hE34) hg4l _ _ _ _ _).lower hE0.size
    · rw [hU]; exact (osets_set5 (HVt.out.ext hE34) hg4l _ _ _ _ _).lower hE0.size
end Go.Proofs.YtcpikbanghoflaaGreatDoor
