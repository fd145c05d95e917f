/- Contracts of functions and plain lemmas that the proofs of this seat share (joined texts). No condition. -/
import Derived.Test.YtjmfpillnbnofaaDoorProg
import Derived.WalkKit
import Derived.Lib.Hide
import Derived.LaidEql
import Derived.Stop.Asserts
import Derived.RowKitTokens
import Derived.Test.YtjmfpillnbnofaaDoorBa
namespace Go.Proofs.YtjmfpillnbnofaaDoor
set_option linter.unusedSimpArgs false
set_option linter.unusedVariables false
open Go.RowKit Go.Extern.Stop Go.Stop Go.Extern

/-- The handle of a type. -/
abbrev hdl (t : Nat) : Value := .pointer (some ⟨2, t, none⟩)
/-- What errors.errorType holds. -/
abbrev errTy : Value := .iface 182 (.agg #[hdl 135])

theorem valueOfP (t : Addr) (w : World) : (ReflectliteValue.unpack (.iface 157 (.pointer (some t)))).run Tryd.prog w
    = .ok (.agg #[hdl 157, .pointer (some ⟨w.heap.size, 0, none⟩), .int .u64 150]) (w.alloc (.cells #[.pointer (some t)] 157)) := by kernel_rfl
theorem typeP (a : Addr) (w : World) : (ReflectliteValue.methodAny (ReflectliteValue.valueError "reflectlite.Value.Type" 0) (fun t _ _ _ => ReflectliteType.toType t) #[.agg #[hdl 157, .pointer (some a), .int .u64 150]]).run Tryd.prog w
    = .ok (.iface 182 (.agg #[hdl 157])) w := by kernel_rfl
theorem methodKind (h : Value) (w : World) : (Go.method 321 182 (.agg #[h]) "Kind").run Tryd.prog w = .ok (99, h) w := by kernel_rfl
theorem kindP (w : World) : ((ReflectliteType.abiMethod fun t => (fun a : Nat => Value.int IntKind.u8 (a : Int)) <$> Rtype.kind t) #[hdl 157]).run Tryd.prog w = .ok (.int .u8 22) w := by kernel_rfl
theorem kindF (w : World) : ((ReflectliteType.abiMethod fun t => (fun a : Nat => Value.int IntKind.u8 (a : Int)) <$> Rtype.kind t) #[hdl 155]).run Tryd.prog w = .ok (.int .u8 25) w := by kernel_rfl

theorem rlm (z : Sem Value) (f : TypeId → Addr → Nat → Nat → Sem Value) (v : Value) :
    ReflectliteValue.method z f #[v] = (do match ← ReflectliteValue.parts v with | none => z | some (t, a, fl) => f t a fl (fl % 32)) := rfl
theorem partsP (a : Addr) (w : World) : (ReflectliteValue.parts (.agg #[hdl 157, .pointer (some a), .int .u64 150])).run Tryd.prog w = .ok (some (157, a, 150)) w := by kernel_rfl
theorem isNilP (a p : Addr) (W : World) (ha : W.cell? a = some (.pointer (some p))) :
    (ReflectliteValue.method (ReflectliteValue.valueError "reflectlite.Value.IsNil" 0) ReflectliteValue.isNil #[.agg #[hdl 157, .pointer (some a), .int .u64 150]]).run Tryd.prog W = .ok (.bool false) W := by
  rw [rlm]
  simp only [Sem.run_bind, partsP, Result.andThen]
  simp [ReflectliteValue.isNil, loadVar, isAgg, underlying, Tryd.underlying157, ha, Result.andThen]

theorem methodElem (h : Value) (w : World) : (Go.method 321 182 (.agg #[h]) "Elem").run Tryd.prog w = .ok (109, .agg #[h]) w := by kernel_rfl
theorem methodImplements (h : Value) (w : World) : (Go.method 321 182 (.agg #[h]) "Implements").run Tryd.prog w = .ok (110, .agg #[h]) w := by kernel_rfl
theorem methodAssignableTo (h : Value) (w : World) : (Go.method 321 182 (.agg #[h]) "AssignableTo").run Tryd.prog w = .ok (107, .agg #[h]) w := by kernel_rfl
theorem elemP (w : World) : (ReflectliteType.method ReflectliteType.elem #[.agg #[hdl 157]]).run Tryd.prog w = .ok (.iface 182 (.agg #[hdl 155])) w := by kernel_rfl
theorem implementsF (w : World) : (ReflectliteType.relation "Implements" ReflectliteType.implements_ #[.agg #[hdl 155], errTy]).run Tryd.prog w = .ok (.bool true) w := by kernel_rfl
theorem typeOfF (v : Value) (w : World) : (ReflectliteType.typeOf #[.iface 155 v]).run Tryd.prog w = .ok (.iface 182 (.agg #[hdl 155])) w := by kernel_rfl
theorem assignableF (w : World) : (ReflectliteType.relation "AssignableTo" ReflectliteType.assignableTo #[.agg #[hdl 155], .iface 182 (.agg #[hdl 155])]).run Tryd.prog w = .ok (.bool true) w := by kernel_rfl
theorem valueOfF (n : Int) (w : World) : (ReflectliteValue.unpack (.iface 155 (.agg #[.int .i64 n]))).run Tryd.prog w
    = .ok (.agg #[hdl 155, .pointer (some ⟨w.heap.size, 0, none⟩), .int .u64 153]) (w.alloc (.cells #[.int .i64 n] 155)) := by kernel_rfl
theorem elemOfP (w : World) : (Rtype.elem? 157).run Tryd.prog w = .ok (some 155) w := by kernel_rfl
theorem mkF (p : Addr) (w : World) : (ReflectliteValue.mk 155 p ReflectliteValue.flagAddr).run Tryd.prog w = .ok (.agg #[hdl 155, .pointer (some p), .int .u64 409]) w := by kernel_rfl
theorem elemVP (a p : Addr) (W : World) (ha : W.cell? a = some (.pointer (some p))) :
    (ReflectliteValue.method (ReflectliteValue.valueError "reflectlite.Value.Elem" 0) ReflectliteValue.elem #[.agg #[hdl 157, .pointer (some a), .int .u64 150]]).run Tryd.prog W
      = .ok (.agg #[hdl 155, .pointer (some p), .int .u64 409]) W := by
  rw [rlm]
  simp only [Sem.run_bind, partsP, Result.andThen]
  simp [ReflectliteValue.elem, loadVar, isAgg, underlying, Tryd.underlying157, ha, Result.andThen, elemOfP, mkF]
theorem rls (v x : Value) : ReflectliteValue.set #[v, x] = (do
    let (some (dst, a, fl), some (src, b, _)) := (← ReflectliteValue.parts v, ← ReflectliteValue.parts x)
      | unsupported (.noEntry "extern/(internal/reflectlite.Value).Set.zeroValue")
    if fl / ReflectliteValue.flagAddr % 2 == 0 then unsupported (.noEntry "extern/(internal/reflectlite.Value).Set.unaddressable")
    let val ← loadVar src b
    if ← Rtype.directlyAssignable dst src then storeVar dst a val
    else if ← Rtype.implements dst src then
      if (← Rtype.kind src) == 20 then
        match val with
        | .nilIface => unsupported (.noEntry "extern/reflectlite: a nil value of one interface type handed on as a value of another")
        | _ => storeVar dst a val
      else storeVar dst a (.iface src val)
    else panicString ("reflectlite.Set: value of type " ++ (← Rtype.spelt src) ++ " is not assignable to type " ++ (← Rtype.spelt dst))
    pure (.tuple #[])) := rfl
theorem partsFa (a : Addr) (w : World) : (ReflectliteValue.parts (.agg #[hdl 155, .pointer (some a), .int .u64 409])).run Tryd.prog w = .ok (some (155, a, 409)) w := by kernel_rfl
theorem partsF (a : Addr) (w : World) : (ReflectliteValue.parts (.agg #[hdl 155, .pointer (some a), .int .u64 153])).run Tryd.prog w = .ok (some (155, a, 153)) w := by kernel_rfl
theorem directF (w : World) : (Rtype.directlyAssignable 155 155).run Tryd.prog w = .ok true w := by kernel_rfl
theorem sizeF (w : World) : (sizeOf 155).run Tryd.prog w = .ok 1 w := by kernel_rfl
theorem setF (ta b : Addr) (n : Int) (old : Value) (W : World) (hb : W.cell? b = some (.int .i64 n)) (ht : W.cell? ta = some old) (hf : W.frozen? ta = false) :
    (ReflectliteValue.set #[.agg #[hdl 155, .pointer (some ta), .int .u64 409], .agg #[hdl 155, .pointer (some b), .int .u64 153]]).run Tryd.prog W
      = .ok (.tuple #[]) (W.setCell ta (.int .i64 n)) := by
  have hl := run_loadCells_list (P := Tryd.prog) W b [.int .i64 n] (fun j v hj => by
    rcases j with _ | j
    · simp at hj; subst hj; simpa [Addr.add] using hb
    · simp at hj)
  simp only [List.length_cons, List.length_nil] at hl
  rw [rls]
  simp only [Sem.run_bind, partsFa, partsF, Result.andThen]
  simp [ReflectliteValue.flagAddr, loadVar, isAgg, underlying, Tryd.underlying155, hl, Result.andThen, directF, sizeF, storeVar, Value.cells, storeCells, Addr.add]
  rw [run_store Tryd.prog W ta _ _ (by rfl)]
  simp [ht, hf]

set_option maxRecDepth 100000 in
set_option maxHeartbeats 4000000 in
theorem as_hit (n : Int) (t : Addr) (old : Value) (w : World) (hg : w.cell? ⟨1, 0, none⟩ = some errTy) (ht0 : w.cell? t = some old) (hf0 : w.frozen? t = false) :
    Calls Tryd.prog 66 #[.iface 155 (.agg #[.int .i64 n]), .iface 157 (.pointer (some t))] w fun ev w' => ev = .returned (.bool true) ∧ w' = ((((w.alloc (.cells #[.pointer (some t)] 157)).alloc (.cells #[hdl 157, .pointer (some ⟨w.heap.size, 0, none⟩), .int .u64 150] 170)).alloc (.cells #[hdl 157, .pointer (some ⟨w.heap.size, 0, none⟩), .int .u64 150] 170)).alloc (.cells #[.int .i64 n] 155)).setCell t (.int .i64 n) := by
  have h6 := @run_callFunc_extern Tryd.prog 70 _ (fun args => ReflectliteValue.unpack (args.getD 0 (.tuple #[]))) Tryd.func70 (by kernel_rfl) (by kernel_rfl) (by kernel_rfl) (by kernel_rfl)
  have h7 := @run_callFunc_extern Tryd.prog 71 _ (ReflectliteValue.methodAny (ReflectliteValue.valueError "reflectlite.Value.Type" 0) (fun t _ _ _ => ReflectliteType.toType t)) Tryd.func71 (by kernel_rfl) (by kernel_rfl) (by kernel_rfl) (by kernel_rfl)
  have h8 := @run_callFunc_extern Tryd.prog 72 _ (ReflectliteValue.method (ReflectliteValue.valueError "reflectlite.Value.IsNil" 0) ReflectliteValue.isNil) Tryd.func72 (by kernel_rfl) (by kernel_rfl) (by kernel_rfl) (by kernel_rfl)
  have h27 := @run_callFunc_extern Tryd.prog 99 _ (ReflectliteType.abiMethod fun t => do pure (.int .u8 (← Rtype.kind t))) Tryd.func99 (by kernel_rfl) (by kernel_rfl) (by kernel_rfl) (by kernel_rfl)
  have h37 := @run_callFunc_extern Tryd.prog 109 _ (ReflectliteType.method ReflectliteType.elem) Tryd.func109 (by kernel_rfl) (by kernel_rfl) (by kernel_rfl) (by kernel_rfl)
  have h38 := @run_callFunc_extern Tryd.prog 110 _ (ReflectliteType.relation "Implements" ReflectliteType.implements_) Tryd.func110 (by kernel_rfl) (by kernel_rfl) (by kernel_rfl) (by kernel_rfl)
  have h10 := @run_callFunc_extern Tryd.prog 78 _ ReflectliteType.typeOf Tryd.func78 (by kernel_rfl) (by kernel_rfl) (by kernel_rfl) (by kernel_rfl)
  have h35 := @run_callFunc_extern Tryd.prog 107 _ (ReflectliteType.relation "AssignableTo" ReflectliteType.assignableTo) Tryd.func107 (by kernel_rfl) (by kernel_rfl) (by kernel_rfl) (by kernel_rfl)
  have h11 := @run_callFunc_extern Tryd.prog 79 _ (ReflectliteValue.method (ReflectliteValue.valueError "reflectlite.Value.Elem" 0) ReflectliteValue.elem) Tryd.func79 (by kernel_rfl) (by kernel_rfl) (by kernel_rfl) (by kernel_rfl)
  have h12 := @run_callFunc_extern Tryd.prog 80 _ ReflectliteValue.set Tryd.func80 (by kernel_rfl) (by kernel_rfl) (by kernel_rfl) (by kernel_rfl)
  have tO := typeOfF
  have mA := methodAssignableTo
  have a25 := assignableF
  have v25 := valueOfF
  have f6 := valueOfP
  have f7 := typeP
  have mK := methodKind
  have mE := methodElem
  have mI := methodImplements
  have k27 := kindP
  have k25 := kindF
  have e27 := elemP
  have i25 := implementsF
  have n8 := isNilP ⟨w.heap.size, 0, none⟩ t ((w.alloc (.cells #[.pointer (some t)] 157)).alloc (.cells #[hdl 157, .pointer (some ⟨w.heap.size, 0, none⟩), .int .u64 150] 170)) (by simp)
  have hlt : 1 < w.heap.size := by
    rcases Nat.lt_or_ge 1 w.heap.size with h | h
    · exact h
    · simp [World.cell?, Array.getElem?_eq_none h] at hg
  have hg2 : ((w.alloc (.cells #[.pointer (some t)] 157)).alloc (.cells #[hdl 157, .pointer (some ⟨w.heap.size, 0, none⟩), .int .u64 150] 170)).cell? ⟨1, 0, none⟩ = some errTy := by
    rw [World.cell?_alloc_lt _ _ ⟨1, 0, none⟩ (by simp <;> omega), World.cell?_alloc_lt _ _ ⟨1, 0, none⟩ hlt]; exact hg
  have htl : t.block < w.heap.size := by
    rcases Nat.lt_or_ge t.block w.heap.size with h | h
    · exact h
    · simp [World.cell?, Array.getElem?_eq_none h] at ht0
  have el := elemVP ⟨w.heap.size, 0, none⟩ t (((w.alloc (.cells #[.pointer (some t)] 157)).alloc (.cells #[hdl 157, .pointer (some ⟨w.heap.size, 0, none⟩), .int .u64 150] 170)).alloc (.cells #[hdl 157, .pointer (some ⟨w.heap.size, 0, none⟩), .int .u64 150] 170)) (by rw [World.cell?_alloc_lt _ _ ⟨w.heap.size, 0, none⟩ (by simp; omega)]; simp)
  have st := setF t ⟨w.heap.size + 1 + 1 + 1, 0, none⟩ n old ((((w.alloc (.cells #[.pointer (some t)] 157)).alloc (.cells #[hdl 157, .pointer (some ⟨w.heap.size, 0, none⟩), .int .u64 150] 170)).alloc (.cells #[hdl 157, .pointer (some ⟨w.heap.size, 0, none⟩), .int .u64 150] 170)).alloc (.cells #[.int .i64 n] 155))
    (by rw [World.cell?_alloc_at _ _ _ _ (by simp)]; rfl)
    (by rw [World.cell?_alloc_lt _ _ t (by simp; omega), World.cell?_alloc_lt _ _ t (by simp; omega), World.cell?_alloc_lt _ _ t (by simp; omega), World.cell?_alloc_lt _ _ t htl]; exact ht0)
    (by rw [World.frozen?_alloc_old _ _ t (by simp; omega), World.frozen?_alloc_old _ _ t (by simp; omega), World.frozen?_alloc_old _ _ t (by simp; omega), World.frozen?_alloc_old _ _ t (Nat.ne_of_lt htl)]; exact hf0)
  go_enter Tryd.func66, Tryd.ntmps66
  go_wp2
  refine wp_loop_rounds 1 ?_
  rw [rounds_succ]
  go_wp2
  go_ret
  exact ⟨rfl, rfl⟩
end Go.Proofs.YtjmfpillnbnofaaDoor
namespace Go.Proofs.YtjmfpillnbnofaaDoor
set_option linter.unusedSimpArgs false
set_option linter.unusedVariables false
open Go.RowKit

theorem cur_new (l : List UInt8) (w : World) :
    Calls Tryd.prog 26 #[S l] w fun e w' => e = .returned (.pointer (some ⟨w.heap.size, 0, none⟩)) ∧ w' = w.alloc (.cells #[S l, .int .i64 0] 111) := by
  go_enter Tryd.func26, Tryd.ntmps26
  go_wp2
  go_ret
  exact ⟨rfl, rfl⟩

theorem cur_at (b : Nat) (n : Int) (w : World) (h1 : w.cell? ⟨b, 1, none⟩ = some (.int .i64 n)) :
    Calls Tryd.prog 57 #[.pointer (some ⟨b, 0, none⟩)] w fun e w' => e = .returned (.int .i64 n) ∧ w = w' := by
  go_enter Tryd.func57, Tryd.ntmps57
  go_wp2
  go_ret
  exact ⟨rfl, rfl⟩

theorem cur_seek (b : Nat) (l : List UInt8) (n m : Int) (w : World) (hl : l.length ≤ maxLen) (h0 : w.cell? ⟨b, 0, none⟩ = some (S l)) (h1 : w.cell? ⟨b, 1, none⟩ = some (.int .i64 n)) (hf : w.frozen? ⟨b, 1, none⟩ = false)
    (hm : 0 ≤ m) (hm2 : m ≤ l.length) :
    Calls Tryd.prog 58 #[.pointer (some ⟨b, 0, none⟩), .int .i64 m] w fun e w' => e = .returned (.int .i64 0) ∧ w' = w.setCell ⟨b, 1, none⟩ (.int .i64 m) := by
  unfold maxLen at hl
  have hm3 : ¬ (l.length : Int) < m := by omega
  go_enter Tryd.func58, Tryd.ntmps58
  go_wp2
  go_ret
  exact ⟨rfl, rfl⟩

theorem cur_seek_no (b : Nat) (l : List UInt8) (m : Int) (w : World) (hl : l.length ≤ maxLen) (h0 : w.cell? ⟨b, 0, none⟩ = some (S l))
    (hm : m < 0 ∨ l.length < m) :
    Calls Tryd.prog 58 #[.pointer (some ⟨b, 0, none⟩), .int .i64 m] w fun e w' => e = .returned (.int .i64 1) ∧ w = w' := by
  unfold maxLen at hl
  rcases hm with hm | hm
  · go_enter Tryd.func58, Tryd.ntmps58
    go_wp2
    go_ret
    exact ⟨rfl, rfl⟩
  · have hm3 : 0 ≤ m := by omega
    go_enter Tryd.func58, Tryd.ntmps58
    go_wp2
    go_ret
    exact ⟨rfl, rfl⟩

/-- A failure, as an error. -/
abbrev fail (n : Int) : Value := .iface 155 (.agg #[.int .i64 n])

set_option maxRecDepth 100000 in
set_option maxHeartbeats 1000000 in
theorem cur_take (b : Nat) (l : List UInt8) (n : Nat) (m : Nat) (w : World) (hl : l.length ≤ maxLen) (h0 : w.cell? ⟨b, 0, none⟩ = some (S l)) (h1 : w.cell? ⟨b, 1, none⟩ = some (.int .i64 n)) (hf : w.frozen? ⟨b, 1, none⟩ = false)
    (hn : n ≤ l.length) (hm : n + m ≤ l.length) :
    Calls Tryd.prog 54 #[.pointer (some ⟨b, 0, none⟩), .int .i64 m] w fun e w' => e = .returned (.tuple #[S ((l.drop n).take m), .nilIface]) ∧ ∃ q, w' = (w.drewN q).setCell ⟨b, 1, none⟩ (.int .i64 ((n : Int) + m)) := by
  unfold maxLen at hl
  have h3 : (m : Int) ≤ (l.length : Int) - n := by omega
  have hs : IntKind.i64.wrap ((l.length : Int) - n) = (l.length : Int) - n := IntWalk.i64_in _ (by omega)
  have hs2 : IntKind.i64.wrap ((n : Int) + m) = (n : Int) + m := IntWalk.i64_in _ (by omega)
  have e2 : ((n : Int) + m).toNat = n + m := by omega
  have e3 : (0 : Int) ≤ (n : Int) + m := by omega
  have e4 : n + m - n = m := by omega
  go_enter Tryd.func54, Tryd.ntmps54
  go_wp2
  go_quiet (fail)
  go_wp2
  go_quiet (fail)
  go_wp2
  go_ret2
  exact ⟨rfl, _, rfl⟩

set_option maxRecDepth 100000 in
set_option maxHeartbeats 1000000 in
theorem cur_take_short (b : Nat) (l : List UInt8) (n : Nat) (m : Nat) (w : World) (hl : l.length ≤ maxLen) (hm2 : m ≤ maxLen) (h0 : w.cell? ⟨b, 0, none⟩ = some (S l)) (h1 : w.cell? ⟨b, 1, none⟩ = some (.int .i64 n))
    (hn : n ≤ l.length) (hm : l.length < n + m) :
    Calls Tryd.prog 54 #[.pointer (some ⟨b, 0, none⟩), .int .i64 m] w fun e w' => e = .returned (.tuple #[S [], fail 4]) ∧ ∃ q, w' = w.drewN q := by
  unfold maxLen at hl hm2
  have h3 : (l.length : Int) - n < m := by omega
  have hs : IntKind.i64.wrap ((l.length : Int) - n) = (l.length : Int) - n := IntWalk.i64_in _ (by omega)
  go_enter Tryd.func54, Tryd.ntmps54
  go_wp2
  go_quiet (fail)
  go_wp2
  go_ret2
  exact ⟨rfl, _, rfl⟩

set_option maxRecDepth 100000 in
set_option maxHeartbeats 1000000 in
theorem cur_number_nil (w : World) : Calls Tryd.prog 55 #[.nilIface] w fun e w' => e = .returned (.int .i64 0) ∧ w = w' := by
  go_enter Tryd.func55, Tryd.ntmps55
  go_wp2
  go_ret
  exact ⟨rfl, rfl⟩

/-- What a call of this package needs of the world: errors.errorType as it starts. -/
def Laid (w : World) : Prop := w.cell? ⟨1, 0, none⟩ = some errTy
theorem Laid.lt {w : World} (h : Laid w) : 1 < w.heap.size := by
  rcases Nat.lt_or_ge 1 w.heap.size with h' | h'
  · exact h'
  · simp [Laid, World.cell?, Array.getElem?_eq_none h'] at h
theorem Laid.ext {w w' : World} (h : Laid w) (hE : Ext w w') : Laid w' := (hE.cell (p := ⟨1, 0, none⟩) h.lt).trans h
theorem Laid.drewN {w : World} (h : Laid w) (n : Nat) : Laid (w.drewN n) := h

set_option maxRecDepth 100000 in
set_option maxHeartbeats 1000000 in
theorem cur_number (n : Int) (w : World) (hg : Laid w) : Calls Tryd.prog 55 #[fail n] w fun e w' => e = .returned (.int .i64 n) ∧ Ext w w' := by
  have hg2 : (w.alloc (.cells #[.int .i64 0] 155)).cell? ⟨1, 0, none⟩ = some errTy := by
    rw [World.cell?_alloc_lt _ _ ⟨1, 0, none⟩ hg.lt]; exact hg
  have has := as_hit n ⟨w.heap.size, 0, none⟩ (.int .i64 0) (w.alloc (.cells #[.int .i64 0] 155)) hg2 (by simp) (by simp)
  have Has := Lib.hid has
  clear has hg2
  go_enter Tryd.func55, Tryd.ntmps55
  go_wp2_with (go_at_call 66; refine Has.out.mono ?_; rintro e w' ⟨rfl, rfl⟩)
  go_ret
  refine ⟨rfl, ?_⟩
  (repeat (first | with_reducible exact Ext.refl _ | with_reducible assumption | with_reducible refine Ext.alloc ?_ _ | with_reducible refine Ext.drewN ?_ _ | with_reducible refine Ext.drew ?_ | (with_reducible refine Ext.setCell ?_ ?hp _; case hp => (simp <;> omega))))

theorem u32_step (x : Nat) (c : UInt8) (hx : x < 16777216) : bits BinOp.or IntKind.u32 ((x : Int) * 256) (c.toNat : Int) = ((x * 256 + c.toNat : Nat) : Int) := by
  have hc := c.toNat_lt
  have := u32_or_nat (x * 256) c.toNat (by omega) (by omega)
  rw [or_low _ _ (by omega), show ((x * 256 : Nat) : Int) = (x : Int) * 256 by omega] at this
  exact this
theorem be_step (s : List UInt8) (k : Nat) (h : k < s.length) (c : UInt8) (hc : s[k] = c) : be (s.take (k + 1)) = be (s.take k) * 256 + c.toNat := by rw [take_snoc s k h, be_snoc, hc]
theorem be_take_lt (s : List UInt8) (k : Nat) (hs : s.length ≤ 4) (h : k < s.length) : be (s.take k) < 16777216 := by
  have h1 := be_lt (s.take k)
  have h2 : (s.take k).length ≤ 3 := by simp; omega
  have h3 : 256 ^ (s.take k).length ≤ 256 ^ 3 := Nat.pow_le_pow_right (by omega) h2
  have h4 : (256 : Nat) ^ 3 = 16777216 := by decide
  omega

set_option maxRecDepth 100000 in
set_option maxHeartbeats 1000000 in
theorem cur_value (b : Nat) (l : List UInt8) (n : Nat) (m : Nat) (w : World) (hl : l.length ≤ maxLen) (h0 : w.cell? ⟨b, 0, none⟩ = some (S l)) (h1 : w.cell? ⟨b, 1, none⟩ = some (.int .i64 n)) (hf : w.frozen? ⟨b, 1, none⟩ = false)
    (hn : n ≤ l.length) (hm : n + m ≤ l.length) (hm4 : m ≤ 4) :
    Calls Tryd.prog 42 #[.pointer (some ⟨b, 0, none⟩), .int .i64 m] w fun e w' => e = .returned (.tuple #[.int .u32 (be ((l.drop n).take m)), .int .i64 0]) ∧ ∃ q, w' = (w.drewN q).setCell ⟨b, 1, none⟩ (.int .i64 ((n : Int) + m)) := by
  have Ht := Lib.hid (cur_take b l n m w hl h0 h1 hf hn hm)
  unfold maxLen at hl
  have hlen : ((l.drop n).take m).length = m := by simp; omega
  generalize (l.drop n).take m = s at *
  have hs : s.length ≤ 4 := by omega
  have Hs := Lib.hid hlen
  clear hlen
  go_enter Tryd.func42, Tryd.ntmps42
  go_wp2_with (go_at_call 54; refine Ht.out.mono ?_; rintro e w' ⟨rfl, q, rfl⟩)
  go_loop [8, 9] (fun v i => ∃ k : Nat, k ≤ s.length ∧ i = .int .i64 k ∧ v = .int .u32 (be (s.take k))) (fun _ i => s.length - (intOf i).toNat)
  case atStart => exact ⟨0, by omega, rfl, rfl⟩
  case round =>
    obtain ⟨k, hk, rfl, rfl⟩ := hrel
    by_cases hlt : k < s.length
    · obtain ⟨c, Hb, hget, hwb, hbd⟩ := byte_at s k hlt
      have Hst := Lib.hid (be_step s k hlt c Hb.out)
      have hx := be_take_lt s k hs hlt
      generalize be (s.take k) = x at *
      have Hu := Lib.hid (u32_step x c hx)
      go_wp2
      go_round
      case rel => exact ⟨k + 1, by omega, by go_num, by rw [Hst.out, Hu.out]⟩
      case measure => simp [intOf]; omega
    · have e1 : s.take k = s := List.take_of_length_le (by omega)
      rw [e1]
      clear e1
      go_wp2
      go_ret2
      exact ⟨rfl, _, rfl⟩

set_option maxRecDepth 100000 in
set_option maxHeartbeats 1000000 in
theorem cur_value_short (b : Nat) (l : List UInt8) (n : Nat) (m : Nat) (w : World) (hg : Laid w) (hl : l.length ≤ maxLen) (h0 : w.cell? ⟨b, 0, none⟩ = some (S l)) (h1 : w.cell? ⟨b, 1, none⟩ = some (.int .i64 n))
    (hn : n ≤ l.length) (hm : l.length < n + m) (hm4 : m ≤ 4) :
    Calls Tryd.prog 42 #[.pointer (some ⟨b, 0, none⟩), .int .i64 m] w fun e w' => e = .returned (.tuple #[.int .u32 0, .int .i64 4]) ∧ Ext w w' := by
  have Ht := Lib.hid (cur_take_short b l n m w hl (by unfold maxLen; omega) h0 h1 hn hm)
  clear h0 h1 hn hm hl
  go_enter Tryd.func42, Tryd.ntmps42
  go_wp2_with (first | (go_at_call 54; refine Ht.out.mono ?_; rintro e w' ⟨rfl, q, rfl⟩) | (go_at_call 55; refine (cur_number _ _ (hg.drewN _)).mono ?_; rintro e w2 ⟨rfl, hE⟩))
  go_ret2
  exact ⟨rfl, hE.of_drewN _⟩

set_option maxRecDepth 100000 in
set_option maxHeartbeats 1000000 in
theorem cur_byte (b : Nat) (l : List UInt8) (n : Nat) (w : World) (hl : l.length ≤ maxLen) (h0 : w.cell? ⟨b, 0, none⟩ = some (S l)) (h1 : w.cell? ⟨b, 1, none⟩ = some (.int .i64 n)) (hf : w.frozen? ⟨b, 1, none⟩ = false)
    (c : UInt8) (hn : n < l.length) (hc : l[n] = c) :
    Calls Tryd.prog 67 #[.pointer (some ⟨b, 0, none⟩)] w fun e w' => e = .returned (.tuple #[.int .u8 c.toNat, .int .i64 0]) ∧ ∃ q, w' = (w.drewN q).setCell ⟨b, 1, none⟩ (.int .i64 ((n : Int) + 1)) := by
  have hv := cur_value b l n 1 w hl h0 h1 hf (by omega) (by omega) (by omega)
  have e1 : (l.drop n).take 1 = [c] := by rw [drop_cons l n hn, hc]; rfl
  have e2 : be [c] = c.toNat := by simp [be]
  rw [e1, e2] at hv
  have Hv := Lib.hid hv
  have hcb : (c.toNat : Int) ≤ 255 := by have := c.toNat_lt; omega
  clear hv e1 e2 hl h0 h1 hf hc
  go_enter Tryd.func67, Tryd.ntmps67
  go_wp2_with (go_at_call 42; refine Hv.out.mono ?_; rintro e w' ⟨rfl, q, rfl⟩)
  go_ret2
  exact ⟨rfl, _, rfl⟩

set_option maxRecDepth 100000 in
set_option maxHeartbeats 1000000 in
theorem cur_byte_short (b : Nat) (l : List UInt8) (n : Nat) (w : World) (hg : Laid w) (hl : l.length ≤ maxLen) (h0 : w.cell? ⟨b, 0, none⟩ = some (S l)) (h1 : w.cell? ⟨b, 1, none⟩ = some (.int .i64 n)) (hn : n = l.length) :
    Calls Tryd.prog 67 #[.pointer (some ⟨b, 0, none⟩)] w fun e w' => e = .returned (.tuple #[.int .u8 0, .int .i64 4]) ∧ Ext w w' := by
  have Hv := Lib.hid (cur_value_short b l n 1 w hg hl h0 h1 (by omega) (by omega) (by omega))
  clear hg hl h0 h1 hn
  go_enter Tryd.func67, Tryd.ntmps67
  go_wp2_with (go_at_call 42; refine Hv.out.mono ?_; rintro e w' ⟨rfl, hE⟩)
  go_ret2
  exact ⟨rfl, hE⟩

set_option maxRecDepth 100000 in
set_option maxHeartbeats 1000000 in
theorem cur_Take (b : Nat) (l : List UInt8) (n : Nat) (m : Nat) (w : World) (hl : l.length ≤ maxLen) (h0 : w.cell? ⟨b, 0, none⟩ = some (S l)) (h1 : w.cell? ⟨b, 1, none⟩ = some (.int .i64 n)) (hf : w.frozen? ⟨b, 1, none⟩ = false)
    (hn : n ≤ l.length) (hm : n + m ≤ l.length) :
    Calls Tryd.prog 43 #[.pointer (some ⟨b, 0, none⟩), .int .i64 m] w fun e w' => e = .returned (.tuple #[S ((l.drop n).take m), .int .i64 0]) ∧ ∃ q, w' = (w.drewN q).setCell ⟨b, 1, none⟩ (.int .i64 ((n : Int) + m)) := by
  have Ht := Lib.hid (cur_take b l n m w hl h0 h1 hf hn hm)
  clear hl h0 h1 hf hn hm
  go_enter Tryd.func43, Tryd.ntmps43
  go_wp2_with (first | (go_at_call 54; refine Ht.out.mono ?_; rintro e w' ⟨rfl, q, rfl⟩) | (go_at_call 55; refine (cur_number_nil _).mono ?_; rintro e w2 ⟨rfl, rfl⟩))
  go_ret2
  exact ⟨rfl, _, rfl⟩

set_option maxRecDepth 100000 in
set_option maxHeartbeats 1000000 in
theorem cur_Take_short (b : Nat) (l : List UInt8) (n : Nat) (m : Nat) (w : World) (hg : Laid w) (hl : l.length ≤ maxLen) (hm2 : m ≤ maxLen) (h0 : w.cell? ⟨b, 0, none⟩ = some (S l)) (h1 : w.cell? ⟨b, 1, none⟩ = some (.int .i64 n))
    (hn : n ≤ l.length) (hm : l.length < n + m) :
    Calls Tryd.prog 43 #[.pointer (some ⟨b, 0, none⟩), .int .i64 m] w fun e w' => e = .returned (.tuple #[S [], .int .i64 4]) ∧ Ext w w' := by
  have Ht := Lib.hid (cur_take_short b l n m w hl hm2 h0 h1 hn hm)
  clear hl h0 h1 hn hm
  go_enter Tryd.func43, Tryd.ntmps43
  go_wp2_with (first | (go_at_call 54; refine Ht.out.mono ?_; rintro e w' ⟨rfl, q, rfl⟩) | (go_at_call 55; refine (cur_number _ _ (hg.drewN _)).mono ?_; rintro e w2 ⟨rfl, hE⟩))
  go_ret2
  exact ⟨rfl, hE.of_drewN _⟩
end Go.Proofs.YtjmfpillnbnofaaDoor
namespace Go.Proofs.YtjmfpillnbnofaaDoor
set_option linter.unusedSimpArgs false
set_option linter.unusedVariables false
open Go.RowKit

/-- A cursor over l at offset n, in block g. -/
structure Cur (w : World) (g : Nat) (l : List UInt8) (n : Nat) : Prop where
  c0 : w.cell? ⟨g, 0, none⟩ = some (S l)
  c1 : w.cell? ⟨g, 1, none⟩ = some (.int .i64 n)
  fr : w.frozen? ⟨g, 1, none⟩ = false

/-- Block g alone has turned. -/
structure Only (g : Nat) (w w' : World) : Prop where
  by_ : w.grownBy w' (some g)
  size : w'.heap.size = w.heap.size

theorem Cur.lt {w : World} {g : Nat} {l : List UInt8} {n : Nat} (h : Cur w g l n) : g < w.heap.size := World.block_lt_of_cell? w _ h.c0
theorem Cur.new (w : World) (l : List UInt8) (m : Nat) : Cur (w.alloc (.cells #[S l, .int .i64 m] 111)) w.heap.size l m := ⟨by simp, by simp, by simp⟩
theorem Cur.set {w : World} {g : Nat} {l : List UInt8} {n : Nat} (h : Cur w g l n) (q : Nat) {m : Int} {k : Nat} (e : m = (k : Int)) : Cur ((w.drewN q).setCell ⟨g, 1, none⟩ (.int .i64 m)) g l k := by
  subst e
  refine ⟨?_, ?_, ?_⟩
  · rw [World.cell?_setCell_other _ ⟨g, 1, none⟩ ⟨g, 0, none⟩ _ (by simp)]; exact h.c0
  · exact World.cell?_setCell_same (w.drewN q) ⟨g, 1, none⟩ _ h.c1
  · rw [World.frozen?_setCell]; exact h.fr
theorem Only.set (w : World) (g : Nat) (q : Nat) (v : Value) : Only g w ((w.drewN q).setCell ⟨g, 1, none⟩ v) :=
  ⟨⟨rfl, rfl, rfl, by simp, fun k _ hk => Below.heap_setCell (w.drewN q) ⟨g, 1, none⟩ v k (fun e => hk (by rw [e]))⟩, by simp⟩
theorem Only.refl (g : Nat) (w : World) : Only g w w := ⟨World.grownBy.refl w _, rfl⟩
theorem Only.trans {g : Nat} {a b c : World} (h : Only g a b) (k : Only g b c) : Only g a c :=
  ⟨⟨k.by_.os.trans h.by_.os, k.by_.tape.trans h.by_.tape, k.by_.output.trans h.by_.output, by rw [k.size, h.size]; exact Nat.le_refl _, fun i hi hne => (k.by_.block i (by rw [h.size]; exact hi) hne).trans (h.by_.block i hi hne)⟩, k.size.trans h.size⟩
theorem Ext.only {a w w' : World} {g : Nat} (h : Ext a w) (ho : Only g w w') (hg : a.heap.size ≤ g) : Ext a w' :=
  Below.grown h ho.by_ h.size (fun k hk => by injection hk with hk; omega)
theorem Own.only {w w' : World} {g lo : Nat} {e : TypeId} {sz n c : Nat} {A : Option Addr} {xs : List Value} (h : Own w lo e sz A n c xs) (ho : Only g w w') (hg : g < lo) : Own w' lo e sz A n c xs :=
  h.kept ho.by_ (.inr fun he => by have := (h.blk g he).1; omega)
theorem Cur.ext {w w' : World} {g : Nat} {l : List UInt8} {n : Nat} (h : Cur w g l n) (hE : Ext w w') : Cur w' g l n :=
  ⟨(hE.cell (p := ⟨g, 0, none⟩) h.lt).trans h.c0, (hE.cell (p := ⟨g, 1, none⟩) h.lt).trans h.c1, (hE.frozen (p := ⟨g, 1, none⟩) h.lt).trans h.fr⟩
theorem Cur.below {w w' : World} {g lo : Nat} {l : List UInt8} {n : Nat} (h : Cur w g l n) (hE : Below lo w w') (hg : g < lo) : Cur w' g l n :=
  ⟨(hE.cell (p := ⟨g, 0, none⟩) hg).trans h.c0, (hE.cell (p := ⟨g, 1, none⟩) hg).trans h.c1, (hE.frozen (p := ⟨g, 1, none⟩) hg).trans h.fr⟩

theorem curC_at {w : World} {g : Nat} {l : List UInt8} {n : Nat} (h : Cur w g l n) :
    Calls Tryd.prog 57 #[.pointer (some ⟨g, 0, none⟩)] w fun e w' => e = .returned (.int .i64 n) ∧ w = w' := cur_at g n w h.c1

theorem curC_seek {w : World} {g : Nat} {l : List UInt8} {n : Nat} (h : Cur w g l n) (hl : l.length ≤ maxLen) (m : Int) (h1 : 0 ≤ m) (h2 : m ≤ l.length) :
    Calls Tryd.prog 58 #[.pointer (some ⟨g, 0, none⟩), .int .i64 m] w fun e w' => e = .returned (.int .i64 0) ∧ Cur w' g l m.toNat ∧ Only g w w' :=
  (cur_seek g l n m w hl h.c0 h.c1 h.fr h1 h2).mono fun _ _ ⟨he, hw⟩ => by
    subst hw
    exact ⟨he, h.set 0 (by omega), Only.set w g 0 _⟩

theorem curC_byte {w : World} {g : Nat} {l : List UInt8} {n : Nat} (h : Cur w g l n) (hl : l.length ≤ maxLen) (c : UInt8) (hc : l[n]? = some c) :
    Calls Tryd.prog 67 #[.pointer (some ⟨g, 0, none⟩)] w fun e w' => e = .returned (.tuple #[.int .u8 c.toNat, .int .i64 0]) ∧ Cur w' g l (n + 1) ∧ Only g w w' := by
  obtain ⟨hn, hc'⟩ := List.getElem?_eq_some_iff.1 hc
  exact (cur_byte g l n w hl h.c0 h.c1 h.fr c hn hc').mono fun _ _ ⟨he, q, hw⟩ => by
    subst hw
    exact ⟨he, h.set q (by omega), Only.set w g q _⟩

theorem curC_byte_short {w : World} {g : Nat} {l : List UInt8} {n : Nat} (h : Cur w g l n) (hg : Laid w) (hl : l.length ≤ maxLen) (hn : n ≤ l.length) (hc : l[n]? = none) :
    Calls Tryd.prog 67 #[.pointer (some ⟨g, 0, none⟩)] w fun e w' => e = .returned (.tuple #[.int .u8 0, .int .i64 4]) ∧ Ext w w' :=
  cur_byte_short g l n w hg hl h.c0 h.c1 (by have := List.getElem?_eq_none_iff.1 hc; omega)

theorem curC_take {w : World} {g : Nat} {l : List UInt8} {n : Nat} (h : Cur w g l n) (hl : l.length ≤ maxLen) (m : Nat) (hm : ¬ l.length < n + m) :
    Calls Tryd.prog 43 #[.pointer (some ⟨g, 0, none⟩), .int .i64 m] w fun e w' => e = .returned (.tuple #[S ((l.drop n).take m), .int .i64 0]) ∧ Cur w' g l (n + m) ∧ Only g w w' :=
  (cur_Take g l n m w hl h.c0 h.c1 h.fr (by omega) (by omega)).mono fun _ _ ⟨he, q, hw⟩ => by
    subst hw
    exact ⟨he, h.set q (by omega), Only.set w g q _⟩

theorem curC_take_short {w : World} {g : Nat} {l : List UInt8} {n : Nat} (h : Cur w g l n) (hg : Laid w) (hl : l.length ≤ maxLen) (m : Nat) (hm2 : m ≤ maxLen) (hn : n ≤ l.length) (hm : l.length < n + m) :
    Calls Tryd.prog 43 #[.pointer (some ⟨g, 0, none⟩), .int .i64 m] w fun e w' => e = .returned (.tuple #[S [], .int .i64 4]) ∧ Ext w w' :=
  cur_Take_short g l n m w hg hl hm2 h.c0 h.c1 hn hm

/-- The length in a slot. -/
def lenOf : Value → Nat | .slice _ n _ => n | _ => 0
end Go.Proofs.YtjmfpillnbnofaaDoor
namespace Go.Proofs.YtjmfpillnbnofaaDoor
set_option linter.unusedSimpArgs false
set_option linter.unusedVariables false
open Go.RowKit
set_option maxRecDepth 100000

/-- What holds at a round's head of comp.Read. -/
structure RdInv (w0 : World) (g : Nat) (msg : List UInt8) (s0 s : RdSt) (A : Option Addr) (c : Nat) (wr : World) : Prop where
  pos : s.pos ≤ msg.length
  out : s.out.length ≤ 254
  lim : s.lim ≤ msg.length
  cur : Cur wr g msg s.pos
  own : Own wr (g + 1) 5 1 A s.out.length c (s.out.map U8)
  ext : Ext w0 wr
  laid : Laid wr
  eq : readS msg s0 = readS msg s

theorem u8_one (l : List UInt8) : ∀ u ∈ l.map U8, u.oneCell' = true := by
  intro u hu
  obtain ⟨b, _, rfl⟩ := List.mem_map.1 hu
  rfl
theorem and63 (b : UInt8) (h : ¬ b.toNat < 192) : bits BinOp.and IntKind.u8 (b.toNat : Int) 63 = ((b.toNat - 192 : Nat) : Int) := by
  have hb := b.toNat_lt
  have := u8_and_nat b.toNat 63 (by omega) (by omega)
  rw [show (63 : Int) = ((63 : Nat) : Int) from rfl, this]
  congr 1
  have e := Nat.and_two_pow_sub_one_eq_mod b.toNat 6
  simp at e
  rw [e]; omega
theorem or_i64 (x : Nat) (c : UInt8) (hx : x < 64) : bits BinOp.or IntKind.i64 ((x : Int) * 256) (c.toNat : Int) = ((x * 256 + c.toNat : Nat) : Int) := by
  have hc := c.toNat_lt
  have := i64_or_nat (x * 256) c.toNat (by omega) (by omega)
  rw [or_low _ _ (by omega), show ((x * 256 : Nat) : Int) = (x : Int) * 256 by omega] at this
  exact this

set_option maxHeartbeats 1000000 in
theorem comp_read (msg : List UInt8) (pos : Nat) (w : World) (hg : Laid w) (hl : msg.length ≤ 140737488351232) (hp : pos ≤ msg.length) :
    Calls Tryd.prog 56 #[S msg, .int .i64 pos] w fun e w' => e = .returned (.tuple #[S (readN msg pos).1, .int .i64 (readN msg pos).2.1, .int .i64 (readN msg pos).2.2]) ∧ Ext w w' := by
  have hl' : msg.length ≤ maxLen := by unfold maxLen; omega
  obtain ⟨R, hR⟩ : ∃ R, R = readN msg pos := ⟨_, rfl⟩
  rw [← hR]
  have Hn : Hid (R = readS msg ⟨pos, pos, none, []⟩) := hR
  clear hR
  obtain ⟨i0, hi0, hz0, hz1, hz2⟩ := info_parts info_u8
  go_enter Tryd.func56, Tryd.ntmps56
  go_wp2_with fail
  refine (cur_new msg w).mono ?_; rintro e w1 ⟨rfl, rfl⟩
  go_wp2_with fail
  refine (curC_seek (Cur.new w msg 0) hl' _ (by omega) (by omega)).mono ?_; rintro e w1 ⟨rfl, hc1, ho1⟩
  have hE1 : Ext w w1 := Ext.only ((Ext.refl _).alloc _) ho1 (Nat.le_refl _)
  go_wp2_with fail
  rw [Int.toNat_natCast] at hc1
  go_loopw [5, 8, 9, 10] (fun nx lim pt out wr => ∃ (s : RdSt) (A : Option Addr) (c : Nat), nx = .int .i64 (s.nx.getD 0) ∧ lim = .int .i64 s.lim ∧ pt = .bool s.nx.isSome ∧ out = .slice A s.out.length c ∧ RdInv w w.heap.size msg ⟨pos, pos, none, []⟩ s A c wr) (fun _ lim _ out _ => (intOf lim).toNat * 300 + (256 - lenOf out))
  case atStart => exact ⟨⟨pos, pos, none, []⟩, none, 0, rfl, rfl, rfl, rfl, ⟨hp, by simp, hp, hc1, Own.nil _ _ _ _, hE1, hg.ext hE1, rfl⟩⟩
  case round =>
    obtain ⟨⟨pos', lim, nx, out⟩, A, c, rfl, rfl, rfl, rfl, hI⟩ := hrel
    obtain ⟨wo, rfl⟩ : ∃ wo : World, wo = wr := ⟨_, rfl⟩
    dsimp only at hI ⊢
    have hout : out.length ≤ 254 := hI.out
    have hlim : lim ≤ msg.length := hI.lim
    have hpos : pos' ≤ msg.length := hI.pos
    rcases hb : msg[pos']? with _ | b
    · have Hb := Lib.hid hb
      clear hb
      go_wp2_with fail
      refine (curC_byte_short hI.cur hI.laid hl' hI.pos Hb.out).mono ?_; rintro e w2 ⟨rfl, hE2⟩
      go_wp2_with fail
      go_ret3
      refine ⟨?_, hI.ext.trans hE2⟩
      rw [Hn.out, hI.eq, readS_end _ _ Hb.out]; rfl
    have Hb := Lib.hid hb
    have hlt : pos' < msg.length := (List.getElem?_eq_some_iff.1 hb).1
    clear hb
    have hbb : (b.toNat : Int) ≤ 255 := by have := b.toNat_lt; omega
    by_cases h0 : b.toNat = 0
    · have H0 := Lib.hid (show b = 0 from UInt8.toNat_inj.1 (by simpa using h0))
      have f1 : ((b.toNat : Int) / 64 == 0) = true := by rw [h0]; rfl
      have f2 : ((b.toNat : Int) == 0) = true := by rw [h0]; rfl
      clear h0
      rcases nx with _ | nx
      all_goals
        dsimp only [Option.getD, Option.isSome] at hI ⊢
        go_wp2_with fail
        refine (curC_byte hI.cur hl' b Hb.out).mono ?_; rintro e w2 ⟨rfl, hc2, ho2⟩
        have hE2 : Ext w w2 := hI.ext.only ho2 (Nat.le_refl _)
        have hw2 := hI.own.only ho2 (by omega)
        go_wp2_with (first
          | (go_at_call 57; refine (curC_at hc2).mono ?_; rintro e w' ⟨rfl, rfl⟩)
          | (at_builtin
             refine wpList_app _ rfl (.tmp 43) (.tmp 44) _ rfl (w.heap.size + 1) 5 i0 _ 1 1 Tryd.underlying63 hi0 hz0 hz1 hz2 rfl (by omega) A out.length c (out.map U8) rfl (hw2.ext ((Ext.refl _).alloc _)) 0 _ 1 1 ([(0 : UInt8)].map U8) rfl (rd_new1 w2 0 _ _ (Nat.zero_le _)) (u8_one _) (by omega) (by omega) (by have := hc2.lt; simp; omega) ?_
             intro A3 c3 w3 hown3 hg3 hb3 _
             have hcv := conv_str c3 (l := out ++ [0]) (by rw [List.map_append]; exact hown3.rd)))
        go_ret3
        refine ⟨?_, (hE2.alloc _).then hb3 (by omega)⟩
        rw [Hn.out, hI.eq, readS_zero _ _ (by rw [H0.out] at Hb; exact Hb.out)]; rfl
    have f2 : ((b.toNat : Int) == 0) = false := len_ne h0
    have hb1 : (1 : Int) ≤ b.toNat := by omega
    by_cases h1 : b.toNat < 64
    · have f1 : ((b.toNat : Int) / 64 == 0) = true := by rw [beq_iff_eq]; omega
      by_cases h2 : msg.length < pos' + 1 + b.toNat
      · go_wp2_with fail
        refine (curC_byte hI.cur hl' b Hb.out).mono ?_; rintro e w2 ⟨rfl, hc2, ho2⟩
        have hE2 : Ext w w2 := hI.ext.only ho2 (Nat.le_refl _)
        go_wp2_with fail
        refine (curC_take_short hc2 (hg.ext hE2) hl' b.toNat (by unfold maxLen; omega) (by omega) (by omega)).mono ?_; rintro e w3 ⟨rfl, hE3⟩
        go_wp2_with fail
        go_ret3
        refine ⟨?_, hE2.trans hE3⟩
        rw [Hn.out, hI.eq, readS_short _ _ b Hb.out h0 h1 h2]; rfl
      have hlab : (((msg.drop (pos' + 1)).take b.toNat).length) = b.toNat := by simp; omega
      have Hlab := Lib.hid hlab
      by_cases h3 : 255 < out.length + 1 + b.toNat + 1
      · go_wp2_with fail
        refine (curC_byte hI.cur hl' b Hb.out).mono ?_; rintro e w2 ⟨rfl, hc2, ho2⟩
        have hE2 : Ext w w2 := hI.ext.only ho2 (Nat.le_refl _)
        go_wp2_with fail
        refine (curC_take hc2 hl' b.toNat (by omega)).mono ?_; rintro e w3 ⟨rfl, hc3, ho3⟩
        generalize (msg.drop (pos' + 1)).take b.toNat = lab at *
        have g1 : 255 < (out.length : Int) + 1 + lab.length + 1 := by rw [Hlab.out]; omega
        have g0 : (lab.length : Int) ≤ 63 := by rw [Hlab.out]; omega
        clear hlab
        go_wp2_with fail
        go_ret3
        refine ⟨?_, hE2.only ho3 (Nat.le_refl _)⟩
        rw [Hn.out, hI.eq, readS_long _ _ b Hb.out h0 h1 h2 h3]; rfl
      · go_wp2_with fail
        refine (curC_byte hI.cur hl' b Hb.out).mono ?_; rintro e w2 ⟨rfl, hc2, ho2⟩
        have hE2 : Ext w w2 := hI.ext.only ho2 (Nat.le_refl _)
        have hw2 := hI.own.only ho2 (by omega)
        have HL := Lib.hid (readS_label msg ⟨pos', lim, nx, out⟩ b Hb.out h0 h1 h2 h3)
        go_wp2_with fail
        refine (curC_take hc2 hl' b.toNat (by omega)).mono ?_; rintro e w3 ⟨rfl, hc3, ho3⟩
        have hw3 := hw2.only ho3 (by omega)
        have hE3 : Ext w w3 := hE2.only ho3 (Nat.le_refl _)
        generalize (msg.drop (pos' + 1)).take b.toNat = lab at *
        have g1 : (lab.length : Int) ≤ 63 := by rw [Hlab.out]; omega
        have g2 : (out.length : Int) + 1 + lab.length + 1 ≤ 255 := by rw [Hlab.out]; omega
        clear hlab
        go_wp2_with (first
          | (at_builtin
             refine wpList_app _ rfl (.tmp 66) (.tmp 68) _ rfl (w.heap.size + 1) 5 i0 _ 1 1 Tryd.underlying63 hi0 hz0 hz1 hz2 rfl (by omega) A out.length c (out.map U8) rfl (hw3.ext ((Ext.refl _).alloc _)) 0 _ 1 1 ([b].map U8) rfl (rd_new1 w3 0 _ _ (Nat.zero_le _)) (u8_one _) (by omega) (by omega) (by have := hc3.lt; simp; omega) ?_
             intro A4 c4 w4 hown4 hg4 hb4 _
             have hz4 : w.heap.size + 1 ≤ w4.heap.size := by have h1 := hb4.size; have h2 := hc3.lt; simp at h1; omega)
          | (refine wpList_app_str _ rfl (.tmp 69) (.tmp 70) _ _ rfl (w.heap.size + 1) 5 i0 Tryd.underlying63 Tryd.underlying9 hi0 hz0 hz1 hz2 A4 (out.length + 1) c4 (out.map U8 ++ [b].map U8) rfl hown4 lab rfl (by omega) hz4 ?_
             intro A5 c5 w5 hown5 hg5 hb5))
        have e1 : (out ++ b :: lab).length = out.length + 1 + lab.length := by simp; omega
        have E1 := Lib.hid e1
        clear e1
        go_roundw
        case rel =>
          refine ⟨⟨pos' + 1 + b.toNat, lim, nx, out ++ b :: lab⟩, A5, c5, rfl, rfl, rfl, by dsimp only; rw [E1.out], ⟨by dsimp only; omega, by dsimp only; rw [E1.out]; omega, hlim, ?_, ?_, ?_, ?_, hI.eq.trans HL.out⟩⟩
          · exact ((hc3.ext ((Ext.refl _).alloc _)).below hb4 (by omega)).below hb5 (by omega)
          · dsimp only
            rw [E1.out]
            simpa using hown5
          · exact ((hE3.alloc _).then hb4 (by omega)).then hb5 (by omega)
          · exact hg.ext (((hE3.alloc _).then hb4 (by omega)).then hb5 (by omega))
        case measure =>
          simp only [intOf, lenOf]
          simp; omega
    have f1 : ((b.toNat : Int) / 64 == 0) = false := by rw [beq_eq_false_iff_ne]; omega
    by_cases h2 : b.toNat < 192
    · have f3 : ((b.toNat : Int) / 64 == 3) = false := by rw [beq_eq_false_iff_ne]; omega
      go_wp2_with fail
      refine (curC_byte hI.cur hl' b Hb.out).mono ?_; rintro e w2 ⟨rfl, hc2, ho2⟩
      go_wp2_with fail
      go_ret3
      refine ⟨?_, hI.ext.only ho2 (Nat.le_refl _)⟩
      rw [Hn.out, hI.eq, readS_form _ _ b Hb.out h0 h1 h2]; rfl
    have f3 : ((b.toNat : Int) / 64 == 3) = true := by rw [beq_iff_eq]; omega
    rcases hc : msg[pos' + 1]? with _ | c'
    · have Hc := Lib.hid hc
      clear hc
      go_wp2_with fail
      refine (curC_byte hI.cur hl' b Hb.out).mono ?_; rintro e w2 ⟨rfl, hc2, ho2⟩
      have hE2 : Ext w w2 := hI.ext.only ho2 (Nat.le_refl _)
      go_wp2_with fail
      refine (curC_byte_short hc2 (hg.ext hE2) hl' (by omega) Hc.out).mono ?_; rintro e w3 ⟨rfl, hE3⟩
      go_wp2_with fail
      go_ret3
      refine ⟨?_, hE2.trans hE3⟩
      rw [Hn.out, hI.eq, readS_cut _ _ b Hb.out h0 h2 Hc.out]; rfl
    have Hc := Lib.hid hc
    have hlt2 : pos' + 1 < msg.length := (List.getElem?_eq_some_iff.1 hc).1
    have hcb : (c'.toNat : Int) ≤ 255 := by have := c'.toNat_lt; omega
    clear hc
    have ha := and63 b h2
    have hxlt : b.toNat - 192 < 64 := by omega
    have HX := Lib.hid (rfl : (b.toNat - 192) = (b.toNat - 192))
    obtain ⟨x, hx⟩ : ∃ x, x = b.toNat - 192 := ⟨_, rfl⟩
    rw [← hx] at ha hxlt
    have ho := or_i64 x c' hxlt
    obtain ⟨to, hto⟩ : ∃ to, to = x * 256 + c'.toNat := ⟨_, rfl⟩
    rw [← hto] at ho
    have Hto := Lib.hid (show to = (b.toNat - 192) * 256 + c'.toNat by rw [hto, hx])
    have htb : (to : Int) < 16384 := by omega
    clear HX hx hto
    by_cases h3 : lim ≤ to
    · have h3' : (lim : Int) ≤ to := by omega
      rcases nx with _ | nx
      all_goals
        dsimp only [Option.getD, Option.isSome] at hI ⊢
        go_wp2_with fail
        refine (curC_byte hI.cur hl' b Hb.out).mono ?_; rintro e w2 ⟨rfl, hc2, ho2⟩
        have hE2 : Ext w w2 := hI.ext.only ho2 (Nat.le_refl _)
        go_wp2_with fail
        refine (curC_byte hc2 hl' c' Hc.out).mono ?_; rintro e w3 ⟨rfl, hc3, ho3⟩
        have hE3 : Ext w w3 := hE2.only ho3 (Nat.le_refl _)
        go_wp2_with (go_at_call 57; refine (curC_at hc3).mono ?_; rintro e w' ⟨rfl, rfl⟩)
        go_ret3
        refine ⟨?_, hE3⟩
        rw [Hn.out, hI.eq, readS_loop _ _ b Hb.out h0 h2 c' Hc.out (by rw [← Hto.out]; exact h3)]; rfl
    · have h3' : (to : Int) < lim := by omega
      have hto2 : to ≤ msg.length := by omega
      have hJ := readS_jump msg ⟨pos', lim, nx, out⟩ b Hb.out h0 h2 c' Hc.out (by rw [← Hto.out]; exact h3)
      rw [← Hto.out] at hJ
      have HJ := Lib.hid hJ
      clear hJ
      rcases nx with _ | nx
      all_goals
        dsimp only [Option.getD, Option.isSome] at hI ⊢
        go_wp2_with fail
        refine (curC_byte hI.cur hl' b Hb.out).mono ?_; rintro e w2 ⟨rfl, hc2, ho2⟩
        have hE2 : Ext w w2 := hI.ext.only ho2 (Nat.le_refl _)
        go_wp2_with fail
        refine (curC_byte hc2 hl' c' Hc.out).mono ?_; rintro e w3 ⟨rfl, hc3, ho3⟩
        have hE3 : Ext w w3 := hE2.only ho3 (Nat.le_refl _)
        go_wp2_with (first | (go_at_call 57; refine (curC_at hc3).mono ?_; rintro e w' ⟨rfl, rfl⟩) | (go_at_call 58; refine (curC_seek hc3 hl' _ (by omega) (by omega)).mono ?_; rintro e w4 ⟨rfl, hc4, ho4⟩))
        have hE4 : Ext w w4 := hE3.only ho4 (Nat.le_refl _)
        rw [Int.toNat_natCast] at hc4
        go_roundw
        case rel =>
          refine ⟨⟨to, to, some _, out⟩, A, c, ?_, rfl, rfl, rfl, ⟨hto2, hout, hto2, hc4, ((hI.own.only ho2 (by omega)).only ho3 (by omega)).only ho4 (by omega), hE4, hg.ext hE4, hI.eq.trans HJ.out⟩⟩
          simp <;> omega
        case measure =>
          simp only [intOf, lenOf]
          simp; omega
end Go.Proofs.YtjmfpillnbnofaaDoor
