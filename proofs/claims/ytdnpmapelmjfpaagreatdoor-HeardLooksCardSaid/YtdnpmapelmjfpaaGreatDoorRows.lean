/-
  NARROWER THAN 'FOR EVERY INPUT', by the rows' own cells (each row's printed sentence says how): AnswerFits: laid · ResolverFits: laid · ResolverAnswers: laid · HeardLooks: laid.
  DERIVED. THE GIVEN ROWS OF THIS SEAT. 4 by the template 'for every input the law returns true; each argument reads behind the call as it read before'; 0 by the template 'total and deterministic' (their statements: YtdnpmapelmjfpaaGreatDoorTotals.lean).
  GIVEN WITH THE SEED: the statements are not yours to turn. If you find one false, say at which input.
  Laid BY PROGRAM, IN A SANDBOX (cutbox-rows.mjs): the forced cells as the released guide's own fill.sh prints them over the translation dc91e994bd767ddd… (all of the seat's roots in one cut). By AI agents, Wed Nov 11 2026. No macro, syntax, notation, axiom, sorry.
-/
import Derived.Test.YtdnpmapelmjfpaaGreatDoorChecked
import GoSem.Claim
import GoSem.ClaimJoined
import GoSem.ClaimMapViews
import Derived.JoinedTies
import Derived.KernelRfl
namespace Go.Proofs.YtdnpmapelmjfpaaGreatDoor
/- THE CELL 'sum', in the pinned program and in every row, IS THE sha256 OF THE DUMP (.gsa) THAT YtdnpmapelmjfpaaGreatDoorProg.lean LOADS. Nothing in Lean hashes anything: it is a label: what it is worth is what the hold of that sum in a sandbox is worth. -/
noncomputable def Tryz.pinned : Pinned := { name := "ytdnpmapelmjfpaagreatdoor", sum := "dc91e994bd767ddd1606f917bd56b8630b289b0be4b88a45dcaa04bc4da54c98", checked := Tryz.checked }
namespace Rows
def none {H : Type} : Left H := { results := [], args := [] }

/- WHAT THE LISTED PACKAGE-LEVEL VARIABLES READ AS WHEN THE CALL BEGINS. Each datum BY PROGRAM (the guide's laid-datum.mjs) off the statement by which the dump's own 'gosem.cut.vars' lays the variable. In a bare row this is a premise. The card (YtdnpmapelmjfpaaGreatDoorCards.lean) ties it to the program's text. -/
def laid_errors_errorType {H : Type} : DataW H := .iface "internal/reflectlite.rtype" (.agg [.ptr (.lit (.string [101, 114, 114, 111, 114]))])
def laid_hustings_head_bits {H : Type} : DataW H := .agg [.lit (.int .u16 32768), .lit (.int .u16 1024), .lit (.int .u16 512), .lit (.int .u16 256), .lit (.int .u16 128), .lit (.int .u16 64), .lit (.int .u16 32), .lit (.int .u16 16)]
def laid_hustings_heard_errBad {H : Type} : DataW H := .iface "*errors.errorString" (.ptr (.agg [.lit (.string [116, 104, 101, 32, 114, 101, 112, 108, 121, 32, 105, 115, 32, 98, 97, 100])]))
def laid_hustings_heard_errPass {H : Type} : DataW H := .iface "*errors.errorString" (.ptr (.agg [.lit (.string [116, 104, 101, 32, 114, 101, 112, 108, 121, 32, 105, 115, 32, 97, 32, 112, 97, 115, 115])]))

/-- 'hustingslaw28.AnswerFits': WHATEVER THE INPUT: true; the input reads as it did. -/
def answerFitsSpec : ChangeSpec := { name := "answerFits", fn := fun _ => fun
  | [d1, d2, d3, d4, d5] => { results := [.lit (.bool true)], args := [d1, d2, d3, d4, d5] }
  | _ => none }
def answerFitsRow : OpenClaim := { program := "ytdnpmapelmjfpaagreatdoor", sum := "dc91e994bd767ddd1606f917bd56b8630b289b0be4b88a45dcaa04bc4da54c98", func := "hustings/hustingslaw28.AnswerFits", spec := "answerFits", inPlace := ["internal/reflectlite.ValueOf", "(internal/reflectlite.Value).Type", "(internal/reflectlite.Value).IsNil", "internal/reflectlite.TypeOf", "(internal/reflectlite.Value).Elem", "(internal/reflectlite.Value).Set"], unfollowed := true, recurses := true, named := ["errors.errorType", "hustings/head.bits"], plainKeys := false, apart := false, laid := [("errors.errorType", laid_errors_errorType), ("hustings/head.bits", laid_hustings_head_bits)] }
def AnswerFitsSaid : Prop := answerFitsRow.holds Tryz.pinned (OpenSpec.ofChange answerFitsSpec)

/-- ITS FALSE NEIGHBOUR: 'it returns false'. Refute it at one input. -/
def answerFitsWrong : ChangeSpec := { name := "answerFits", fn := fun _ => fun
  | [d1, d2, d3, d4, d5] => { results := [.lit (.bool false)], args := [d1, d2, d3, d4, d5] }
  | _ => none }
def AnswerFitsWrongFalsely : Prop := answerFitsRow.holds Tryz.pinned (OpenSpec.ofChange answerFitsWrong)

/-- 'hustingslaw30.ResolverFits': WHATEVER THE INPUT: true; the input reads as it did. -/
def resolverFitsSpec : ChangeSpec := { name := "resolverFits", fn := fun _ => fun
  | [d1, d2] => { results := [.lit (.bool true)], args := [d1, d2] }
  | _ => none }
def resolverFitsRow : OpenClaim := { program := "ytdnpmapelmjfpaagreatdoor", sum := "dc91e994bd767ddd1606f917bd56b8630b289b0be4b88a45dcaa04bc4da54c98", func := "hustings/hustingslaw30.ResolverFits", spec := "resolverFits", inPlace := ["internal/reflectlite.ValueOf", "(internal/reflectlite.Value).Type", "(internal/reflectlite.Value).IsNil", "internal/reflectlite.TypeOf", "(internal/reflectlite.Value).Elem", "(internal/reflectlite.Value).Set", "internal/bytealg.abigen_runtime_cmpstring"], unfollowed := true, recurses := true, named := ["errors.errorType", "hustings/head.bits"], plainKeys := false, apart := false, laid := [("errors.errorType", laid_errors_errorType), ("hustings/head.bits", laid_hustings_head_bits)] }
def ResolverFitsSaid : Prop := resolverFitsRow.holds Tryz.pinned (OpenSpec.ofChange resolverFitsSpec)

/-- ITS FALSE NEIGHBOUR: 'it returns false'. Refute it at one input. -/
def resolverFitsWrong : ChangeSpec := { name := "resolverFits", fn := fun _ => fun
  | [d1, d2] => { results := [.lit (.bool false)], args := [d1, d2] }
  | _ => none }
def ResolverFitsWrongFalsely : Prop := resolverFitsRow.holds Tryz.pinned (OpenSpec.ofChange resolverFitsWrong)

/-- 'hustingslaw30.ResolverAnswers': WHATEVER THE INPUT: true; the input reads as it did. -/
def resolverAnswersSpec : ChangeSpec := { name := "resolverAnswers", fn := fun _ => fun
  | [d1, d2, d3] => { results := [.lit (.bool true)], args := [d1, d2, d3] }
  | _ => none }
def resolverAnswersRow : OpenClaim := { program := "ytdnpmapelmjfpaagreatdoor", sum := "dc91e994bd767ddd1606f917bd56b8630b289b0be4b88a45dcaa04bc4da54c98", func := "hustings/hustingslaw30.ResolverAnswers", spec := "resolverAnswers", inPlace := ["internal/reflectlite.ValueOf", "(internal/reflectlite.Value).Type", "(internal/reflectlite.Value).IsNil", "internal/reflectlite.TypeOf", "(internal/reflectlite.Value).Elem", "(internal/reflectlite.Value).Set", "internal/bytealg.abigen_runtime_cmpstring"], unfollowed := true, recurses := true, named := ["errors.errorType", "hustings/head.bits"], plainKeys := false, apart := false, laid := [("errors.errorType", laid_errors_errorType), ("hustings/head.bits", laid_hustings_head_bits)] }
def ResolverAnswersSaid : Prop := resolverAnswersRow.holds Tryz.pinned (OpenSpec.ofChange resolverAnswersSpec)

/-- ITS FALSE NEIGHBOUR: 'it returns false'. Refute it at one input. -/
def resolverAnswersWrong : ChangeSpec := { name := "resolverAnswers", fn := fun _ => fun
  | [d1, d2, d3] => { results := [.lit (.bool false)], args := [d1, d2, d3] }
  | _ => none }
def ResolverAnswersWrongFalsely : Prop := resolverAnswersRow.holds Tryz.pinned (OpenSpec.ofChange resolverAnswersWrong)

/-- 'hustingslaw24.HeardLooks': WHATEVER THE INPUT: true; the input reads as it did. -/
def heardLooksSpec : ChangeSpec := { name := "heardLooks", fn := fun _ => fun
  | [d1, d2] => { results := [.lit (.bool true)], args := [d1, d2] }
  | _ => none }
def heardLooksRow : OpenClaim := { program := "ytdnpmapelmjfpaagreatdoor", sum := "dc91e994bd767ddd1606f917bd56b8630b289b0be4b88a45dcaa04bc4da54c98", func := "hustings/hustingslaw24.HeardLooks", spec := "heardLooks", inPlace := ["internal/reflectlite.ValueOf", "(internal/reflectlite.Value).Type", "(internal/reflectlite.Value).IsNil", "internal/reflectlite.TypeOf", "(internal/reflectlite.Value).Elem", "(internal/reflectlite.Value).Set", "internal/bytealg.abigen_runtime_cmpstring"], unfollowed := true, recurses := true, named := ["hustings/head.bits", "errors.errorType", "hustings/heard.errBad", "hustings/heard.errPass"], plainKeys := false, apart := false, laid := [("errors.errorType", laid_errors_errorType), ("hustings/head.bits", laid_hustings_head_bits), ("hustings/heard.errBad", laid_hustings_heard_errBad), ("hustings/heard.errPass", laid_hustings_heard_errPass)] }
def HeardLooksSaid : Prop := heardLooksRow.holds Tryz.pinned (OpenSpec.ofChange heardLooksSpec)

/-- ITS FALSE NEIGHBOUR: 'it returns false'. Refute it at one input. -/
def heardLooksWrong : ChangeSpec := { name := "heardLooks", fn := fun _ => fun
  | [d1, d2] => { results := [.lit (.bool false)], args := [d1, d2] }
  | _ => none }
def HeardLooksWrongFalsely : Prop := heardLooksRow.holds Tryz.pinned (OpenSpec.ofChange heardLooksWrong)

/- THE SECOND FORM. 'bulk': how many values and letters a reading holds, each counted each time it is reached (what is shared counts as often as it is met; a slice's spare places count too). A statement '..UptoSaid' is the law's where the arguments, and the package variables that the reading takes, are together of bulk at most 1048576: NARROWER than '..Said'. Prove '..Said' where nothing that the law and all that it calls make is longer than what came in: it says more and counts as full. Else prove '..UptoSaid'. A law counts once. -/
mutual
def uptoBulk {H : Type} : DataW H → Nat
  | .lit (.string bytes) => bytes.length + 1
  | .lit _ => 1
  | .nil => 1
  | .ptr d => uptoBulk d + 1
  | .slice elems spare => uptoBulkAll elems + uptoBulkAll spare + 1
  | .agg parts => uptoBulkAll parts + 1
  | .iface _ d => uptoBulk d + 1
  | .map entries => uptoBulkEntries entries + 1
  | .held _ => 1
def uptoBulkAll {H : Type} : List (DataW H) → Nat
  | [] => 0
  | d :: r => uptoBulk d + uptoBulkAll r
def uptoBulkEntries {H : Type} : List (Lit × DataW H) → Nat
  | [] => 0
  | x :: r => uptoBulkEntry x + uptoBulkEntries r
def uptoBulkEntry {H : Type} : Lit × DataW H → Nat
  | (.string bytes, d) => bytes.length + uptoBulk d + 1
  | (_, d) => uptoBulk d + 1
 end
def uptoSmall : (H : Type) → List (DataW H) → Bool := fun _ ds => decide (uptoBulkAll ds ≤ 1048576)
def OpenSpec.upto (s : _root_.Go.ChangeSpec) : _root_.Go.OpenSpec := { _root_.Go.OpenSpec.ofChange s with cond := some uptoSmall }

/-- 'hustingslaw28.AnswerFits', WHERE WHAT IT READS IS OF BULK AT MOST 1048576: true; the input reads as it did. -/
def answerFitsUptoRow : OpenClaim := { program := "ytdnpmapelmjfpaagreatdoor", sum := "dc91e994bd767ddd1606f917bd56b8630b289b0be4b88a45dcaa04bc4da54c98", func := "hustings/hustingslaw28.AnswerFits", spec := "answerFits", inPlace := ["internal/reflectlite.ValueOf", "(internal/reflectlite.Value).Type", "(internal/reflectlite.Value).IsNil", "internal/reflectlite.TypeOf", "(internal/reflectlite.Value).Elem", "(internal/reflectlite.Value).Set"], unfollowed := true, recurses := true, named := ["errors.errorType", "hustings/head.bits"], plainKeys := false, apart := false, laid := [("errors.errorType", laid_errors_errorType), ("hustings/head.bits", laid_hustings_head_bits)], narrowed := true }
def AnswerFitsUptoSaid : Prop := answerFitsUptoRow.holds Tryz.pinned (OpenSpec.upto answerFitsSpec)

/-- 'hustingslaw30.ResolverFits', WHERE WHAT IT READS IS OF BULK AT MOST 1048576: true; the input reads as it did. -/
def resolverFitsUptoRow : OpenClaim := { program := "ytdnpmapelmjfpaagreatdoor", sum := "dc91e994bd767ddd1606f917bd56b8630b289b0be4b88a45dcaa04bc4da54c98", func := "hustings/hustingslaw30.ResolverFits", spec := "resolverFits", inPlace := ["internal/reflectlite.ValueOf", "(internal/reflectlite.Value).Type", "(internal/reflectlite.Value).IsNil", "internal/reflectlite.TypeOf", "(internal/reflectlite.Value).Elem", "(internal/reflectlite.Value).Set", "internal/bytealg.abigen_runtime_cmpstring"], unfollowed := true, recurses := true, named := ["errors.errorType", "hustings/head.bits"], plainKeys := false, apart := false, laid := [("errors.errorType", laid_errors_errorType), ("hustings/head.bits", laid_hustings_head_bits)], narrowed := true }
def ResolverFitsUptoSaid : Prop := resolverFitsUptoRow.holds Tryz.pinned (OpenSpec.upto resolverFitsSpec)

/-- 'hustingslaw30.ResolverAnswers', WHERE WHAT IT READS IS OF BULK AT MOST 1048576: true; the input reads as it did. -/
def resolverAnswersUptoRow : OpenClaim := { program := "ytdnpmapelmjfpaagreatdoor", sum := "dc91e994bd767ddd1606f917bd56b8630b289b0be4b88a45dcaa04bc4da54c98", func := "hustings/hustingslaw30.ResolverAnswers", spec := "resolverAnswers", inPlace := ["internal/reflectlite.ValueOf", "(internal/reflectlite.Value).Type", "(internal/reflectlite.Value).IsNil", "internal/reflectlite.TypeOf", "(internal/reflectlite.Value).Elem", "(internal/reflectlite.Value).Set", "internal/bytealg.abigen_runtime_cmpstring"], unfollowed := true, recurses := true, named := ["errors.errorType", "hustings/head.bits"], plainKeys := false, apart := false, laid := [("errors.errorType", laid_errors_errorType), ("hustings/head.bits", laid_hustings_head_bits)], narrowed := true }
def ResolverAnswersUptoSaid : Prop := resolverAnswersUptoRow.holds Tryz.pinned (OpenSpec.upto resolverAnswersSpec)

/-- 'hustingslaw24.HeardLooks', WHERE WHAT IT READS IS OF BULK AT MOST 1048576: true; the input reads as it did. -/
def heardLooksUptoRow : OpenClaim := { program := "ytdnpmapelmjfpaagreatdoor", sum := "dc91e994bd767ddd1606f917bd56b8630b289b0be4b88a45dcaa04bc4da54c98", func := "hustings/hustingslaw24.HeardLooks", spec := "heardLooks", inPlace := ["internal/reflectlite.ValueOf", "(internal/reflectlite.Value).Type", "(internal/reflectlite.Value).IsNil", "internal/reflectlite.TypeOf", "(internal/reflectlite.Value).Elem", "(internal/reflectlite.Value).Set", "internal/bytealg.abigen_runtime_cmpstring"], unfollowed := true, recurses := true, named := ["hustings/head.bits", "errors.errorType", "hustings/heard.errBad", "hustings/heard.errPass"], plainKeys := false, apart := false, laid := [("errors.errorType", laid_errors_errorType), ("hustings/head.bits", laid_hustings_head_bits), ("hustings/heard.errBad", laid_hustings_heard_errBad), ("hustings/heard.errPass", laid_hustings_heard_errPass)], narrowed := true }
def HeardLooksUptoSaid : Prop := heardLooksUptoRow.holds Tryz.pinned (OpenSpec.upto heardLooksSpec)

end Rows
end Go.Proofs.YtdnpmapelmjfpaaGreatDoor
