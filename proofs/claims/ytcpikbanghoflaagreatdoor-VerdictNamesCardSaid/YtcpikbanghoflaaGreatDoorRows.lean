/-
  NARROWER THAN 'FOR EVERY INPUT', by the rows' own cells (each row's printed sentence says how): VerdictNames: laid · ResolverNames: laid · HeardNames: laid.
  DERIVED. THE GIVEN ROWS OF THIS SEAT. 3 by the template 'for every input the law returns true; each argument reads behind the call as it read before'; 0 by the template 'total and deterministic' (their statements: YtcpikbanghoflaaGreatDoorTotals.lean).
  GIVEN WITH THE SEED: the statements are not yours to turn. If you find one false, say at which input.
  Laid BY PROGRAM, IN A SANDBOX (cutbox-rows.mjs): the forced cells as the released guide's own fill.sh prints them over the translation 1063f35348a1b799… (all of the seat's roots in one cut). By AI agents, Wed Nov 11 2026. No macro, syntax, notation, axiom, sorry.
-/
import Derived.Test.YtcpikbanghoflaaGreatDoorChecked
import GoSem.Claim
import GoSem.ClaimJoined
import GoSem.ClaimMapViews
import Derived.JoinedTies
import Derived.KernelRfl
namespace Go.Proofs.YtcpikbanghoflaaGreatDoor
/- THE CELL 'sum', in the pinned program and in every row, IS THE sha256 OF THE DUMP (.gsa) THAT YtcpikbanghoflaaGreatDoorProg.lean LOADS. Nothing in Lean hashes anything: it is a label: what it is worth is what the hold of that sum in a sandbox is worth. -/
noncomputable def Tryz.pinned : Pinned := { name := "ytcpikbanghoflaagreatdoor", sum := "1063f35348a1b79901195e126e2d0259cfd17b511e528d949adc9cb81e8c97b3", checked := Tryz.checked }
namespace Rows
def none {H : Type} : Left H := { results := [], args := [] }

/- WHAT THE LISTED PACKAGE-LEVEL VARIABLES READ AS WHEN THE CALL BEGINS. Each datum BY PROGRAM (the guide's laid-datum.mjs) off the statement by which the dump's own 'gosem.cut.vars' lays the variable. In a bare row this is a premise. The card (YtcpikbanghoflaaGreatDoorCards.lean) ties it to the program's text. -/
def laid_errors_errorType {H : Type} : DataW H := .iface "internal/reflectlite.rtype" (.agg [.ptr (.lit (.string [101, 114, 114, 111, 114]))])
def laid_hustings_head_bits {H : Type} : DataW H := .agg [.lit (.int .u16 32768), .lit (.int .u16 1024), .lit (.int .u16 512), .lit (.int .u16 256), .lit (.int .u16 128), .lit (.int .u16 64), .lit (.int .u16 32), .lit (.int .u16 16)]
def laid_hustings_heard_errBad {H : Type} : DataW H := .iface "*errors.errorString" (.ptr (.agg [.lit (.string [116, 104, 101, 32, 114, 101, 112, 108, 121, 32, 105, 115, 32, 98, 97, 100])]))
def laid_hustings_heard_errPass {H : Type} : DataW H := .iface "*errors.errorString" (.ptr (.agg [.lit (.string [116, 104, 101, 32, 114, 101, 112, 108, 121, 32, 105, 115, 32, 97, 32, 112, 97, 115, 115])]))

/-- 'hustingslaw11.VerdictNames': WHATEVER THE INPUT: true; the input reads as it did. -/
def verdictNamesSpec : ChangeSpec := { name := "verdictNames", fn := fun _ => fun
  | [] => { results := [.lit (.bool true)], args := [] }
  | _ => none }
def verdictNamesRow : OpenClaim := { program := "ytcpikbanghoflaagreatdoor", sum := "1063f35348a1b79901195e126e2d0259cfd17b511e528d949adc9cb81e8c97b3", func := "hustings/hustingslaw11.VerdictNames", spec := "verdictNames", inPlace := ["internal/reflectlite.ValueOf", "(internal/reflectlite.Value).Type", "(internal/reflectlite.Value).IsNil", "internal/reflectlite.TypeOf", "(internal/reflectlite.Value).Elem", "(internal/reflectlite.Value).Set", "internal/bytealg.abigen_runtime_cmpstring"], unfollowed := true, recurses := true, named := ["errors.errorType"], plainKeys := false, apart := false, laid := [("errors.errorType", laid_errors_errorType)] }
def VerdictNamesSaid : Prop := verdictNamesRow.holds Tryz.pinned (OpenSpec.ofChange verdictNamesSpec)

/-- ITS FALSE NEIGHBOUR: 'it returns false'. Refute it at one input. -/
def verdictNamesWrong : ChangeSpec := { name := "verdictNames", fn := fun _ => fun
  | [] => { results := [.lit (.bool false)], args := [] }
  | _ => none }
def VerdictNamesWrongFalsely : Prop := verdictNamesRow.holds Tryz.pinned (OpenSpec.ofChange verdictNamesWrong)

/-- 'hustingslaw30.ResolverNames': WHATEVER THE INPUT: true; the input reads as it did. -/
def resolverNamesSpec : ChangeSpec := { name := "resolverNames", fn := fun _ => fun
  | [] => { results := [.lit (.bool true)], args := [] }
  | _ => none }
def resolverNamesRow : OpenClaim := { program := "ytcpikbanghoflaagreatdoor", sum := "1063f35348a1b79901195e126e2d0259cfd17b511e528d949adc9cb81e8c97b3", func := "hustings/hustingslaw30.ResolverNames", spec := "resolverNames", inPlace := ["internal/reflectlite.ValueOf", "(internal/reflectlite.Value).Type", "(internal/reflectlite.Value).IsNil", "internal/reflectlite.TypeOf", "(internal/reflectlite.Value).Elem", "(internal/reflectlite.Value).Set", "internal/bytealg.abigen_runtime_cmpstring"], unfollowed := true, recurses := true, named := ["errors.errorType", "hustings/head.bits"], plainKeys := false, apart := false, laid := [("errors.errorType", laid_errors_errorType), ("hustings/head.bits", laid_hustings_head_bits)] }
def ResolverNamesSaid : Prop := resolverNamesRow.holds Tryz.pinned (OpenSpec.ofChange resolverNamesSpec)

/-- ITS FALSE NEIGHBOUR: 'it returns false'. Refute it at one input. -/
def resolverNamesWrong : ChangeSpec := { name := "resolverNames", fn := fun _ => fun
  | [] => { results := [.lit (.bool false)], args := [] }
  | _ => none }
def ResolverNamesWrongFalsely : Prop := resolverNamesRow.holds Tryz.pinned (OpenSpec.ofChange resolverNamesWrong)

/-- 'hustingslaw24.HeardNames': WHATEVER THE INPUT: true; the input reads as it did. -/
def heardNamesSpec : ChangeSpec := { name := "heardNames", fn := fun _ => fun
  | [] => { results := [.lit (.bool true)], args := [] }
  | _ => none }
def heardNamesRow : OpenClaim := { program := "ytcpikbanghoflaagreatdoor", sum := "1063f35348a1b79901195e126e2d0259cfd17b511e528d949adc9cb81e8c97b3", func := "hustings/hustingslaw24.HeardNames", spec := "heardNames", inPlace := ["internal/reflectlite.ValueOf", "(internal/reflectlite.Value).Type", "(internal/reflectlite.Value).IsNil", "internal/reflectlite.TypeOf", "(internal/reflectlite.Value).Elem", "(internal/reflectlite.Value).Set", "internal/bytealg.abigen_runtime_cmpstring"], unfollowed := true, recurses := true, named := ["hustings/head.bits", "errors.errorType", "hustings/heard.errBad", "hustings/heard.errPass"], plainKeys := false, apart := false, laid := [("errors.errorType", laid_errors_errorType), ("hustings/head.bits", laid_hustings_head_bits), ("hustings/heard.errBad", laid_hustings_heard_errBad), ("hustings/heard.errPass", laid_hustings_heard_errPass)] }
def HeardNamesSaid : Prop := heardNamesRow.holds Tryz.pinned (OpenSpec.ofChange heardNamesSpec)

/-- ITS FALSE NEIGHBOUR: 'it returns false'. Refute it at one input. -/
def heardNamesWrong : ChangeSpec := { name := "heardNames", fn := fun _ => fun
  | [] => { results := [.lit (.bool false)], args := [] }
  | _ => none }
def HeardNamesWrongFalsely : Prop := heardNamesRow.holds Tryz.pinned (OpenSpec.ofChange heardNamesWrong)

/- THE SECOND FORM. 'bulk': how many values and letters a reading holds, each counted each time it is reached (what is shared counts as often as it is met; a slice's spare places count too). A statement '..UptoSaid' is the law's where the arguments, and the package variables that the reading takes, are together of bulk at most 1048576: NARROWER than '..Said'. Prove '..Said' where nothing that the law and all that it calls make is longer than what came in: it says more and counts as full. Else prove '..UptoSaid'. A law counts once. -/
mutual
def uptoBulk {H : Type} : DataW H → Nat
  | .lit (.string bytes) => bytes.length + 1
  | .lit _ => 1
  | .nil => 1
  | .ptr d => uptoBulk d + 1
  | .slice elems spare => uptoBulkAll elems + uptoBulkAll spare + 1
  | .agg parts => uptoBulkAll parts + 1
  | .iface _ d => uptoBulk d + 1
  | .map entries => uptoBulkEntries entries + 1
  | .held _ => 1
def uptoBulkAll {H : Type} : List (DataW H) → Nat
  | [] => 0
  | d :: r => uptoBulk d + uptoBulkAll r
def uptoBulkEntries {H : Type} : List (Lit × DataW H) → Nat
  | [] => 0
  | x :: r => uptoBulkEntry x + uptoBulkEntries r
def uptoBulkEntry {H : Type} : Lit × DataW H → Nat
  | (.string bytes, d) => bytes.length + uptoBulk d + 1
  | (_, d) => uptoBulk d + 1
 end
def uptoSmall : (H : Type) → List (DataW H) → Bool := fun _ ds => decide (uptoBulkAll ds ≤ 1048576)
def OpenSpec.upto (s : _root_.Go.ChangeSpec) : _root_.Go.OpenSpec := { _root_.Go.OpenSpec.ofChange s with cond := some uptoSmall }

/-- 'hustingslaw11.VerdictNames', WHERE WHAT IT READS IS OF BULK AT MOST 1048576: true; the input reads as it did. -/
def verdictNamesUptoRow : OpenClaim := { program := "ytcpikbanghoflaagreatdoor", sum := "1063f35348a1b79901195e126e2d0259cfd17b511e528d949adc9cb81e8c97b3", func := "hustings/hustingslaw11.VerdictNames", spec := "verdictNames", inPlace := ["internal/reflectlite.ValueOf", "(internal/reflectlite.Value).Type", "(internal/reflectlite.Value).IsNil", "internal/reflectlite.TypeOf", "(internal/reflectlite.Value).Elem", "(internal/reflectlite.Value).Set", "internal/bytealg.abigen_runtime_cmpstring"], unfollowed := true, recurses := true, named := ["errors.errorType"], plainKeys := false, apart := false, laid := [("errors.errorType", laid_errors_errorType)], narrowed := true }
def VerdictNamesUptoSaid : Prop := verdictNamesUptoRow.holds Tryz.pinned (OpenSpec.upto verdictNamesSpec)

/-- 'hustingslaw30.ResolverNames', WHERE WHAT IT READS IS OF BULK AT MOST 1048576: true; the input reads as it did. -/
def resolverNamesUptoRow : OpenClaim := { program := "ytcpikbanghoflaagreatdoor", sum := "1063f35348a1b79901195e126e2d0259cfd17b511e528d949adc9cb81e8c97b3", func := "hustings/hustingslaw30.ResolverNames", spec := "resolverNames", inPlace := ["internal/reflectlite.ValueOf", "(internal/reflectlite.Value).Type", "(internal/reflectlite.Value).IsNil", "internal/reflectlite.TypeOf", "(internal/reflectlite.Value).Elem", "(internal/reflectlite.Value).Set", "internal/bytealg.abigen_runtime_cmpstring"], unfollowed := true, recurses := true, named := ["errors.errorType", "hustings/head.bits"], plainKeys := false, apart := false, laid := [("errors.errorType", laid_errors_errorType), ("hustings/head.bits", laid_hustings_head_bits)], narrowed := true }
def ResolverNamesUptoSaid : Prop := resolverNamesUptoRow.holds Tryz.pinned (OpenSpec.upto resolverNamesSpec)

/-- 'hustingslaw24.HeardNames', WHERE WHAT IT READS IS OF BULK AT MOST 1048576: true; the input reads as it did. -/
def heardNamesUptoRow : OpenClaim := { program := "ytcpikbanghoflaagreatdoor", sum := "1063f35348a1b79901195e126e2d0259cfd17b511e528d949adc9cb81e8c97b3", func := "hustings/hustingslaw24.HeardNames", spec := "heardNames", inPlace := ["internal/reflectlite.ValueOf", "(internal/reflectlite.Value).Type", "(internal/reflectlite.Value).IsNil", "internal/reflectlite.TypeOf", "(internal/reflectlite.Value).Elem", "(internal/reflectlite.Value).Set", "internal/bytealg.abigen_runtime_cmpstring"], unfollowed := true, recurses := true, named := ["hustings/head.bits", "errors.errorType", "hustings/heard.errBad", "hustings/heard.errPass"], plainKeys := false, apart := false, laid := [("errors.errorType", laid_errors_errorType), ("hustings/head.bits", laid_hustings_head_bits), ("hustings/heard.errBad", laid_hustings_heard_errBad), ("hustings/heard.errPass", laid_hustings_heard_errPass)], narrowed := true }
def HeardNamesUptoSaid : Prop := heardNamesUptoRow.holds Tryz.pinned (OpenSpec.upto heardNamesSpec)

end Rows
end Go.Proofs.YtcpikbanghoflaaGreatDoor
