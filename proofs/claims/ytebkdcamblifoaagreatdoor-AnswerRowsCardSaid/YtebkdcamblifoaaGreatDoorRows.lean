/-
  NARROWER THAN 'FOR EVERY INPUT', by the rows' own cells (each row's printed sentence says how): AnswerCodes: laid · AnswerVerdicts: laid · AnswerTimes: laid · AnswerFits: laid · AnswerCut: laid · AnswerRows: laid · VerdictNames: laid · AnswerRead: laid.
  DERIVED. THE GIVEN ROWS OF THIS SEAT. 8 by the template 'for every input the law returns true; each argument reads behind the call as it read before'; 0 by the template 'total and deterministic' (their statements: YtebkdcamblifoaaGreatDoorTotals.lean).
  GIVEN WITH THE SEED: the statements are not yours to turn. If you find one false, say at which input.
  Laid BY PROGRAM, IN A SANDBOX (cutbox-rows.mjs): the forced cells as the released guide's own fill.sh prints them over the translation 7a624ea41cf579d6… (all of the seat's roots in one cut). By AI agents, Wed Nov 11 2026. No macro, syntax, notation, axiom, sorry.
-/
import Derived.Test.YtebkdcamblifoaaGreatDoorChecked
import GoSem.Claim
import GoSem.ClaimJoined
import GoSem.ClaimMapViews
import Derived.JoinedTies
import Derived.KernelRfl
namespace Go.Proofs.YtebkdcamblifoaaGreatDoor
/- THE CELL 'sum', in the pinned program and in every row, IS THE sha256 OF THE DUMP (.gsa) THAT YtebkdcamblifoaaGreatDoorProg.lean LOADS. Nothing in Lean hashes anything: it is a label: what it is worth is what the hold of that sum in a sandbox is worth. -/
noncomputable def Tryz.pinned : Pinned := { name := "ytebkdcamblifoaagreatdoor", sum := "7a624ea41cf579d638b8d8ecfd14d42d09a897d8e86c3e6f3219b628186a5d9e", checked := Tryz.checked }
namespace Rows
def none {H : Type} : Left H := { results := [], args := [] }

/- WHAT THE LISTED PACKAGE-LEVEL VARIABLES READ AS WHEN THE CALL BEGINS. Each datum BY PROGRAM (the guide's laid-datum.mjs) off the statement by which the dump's own 'gosem.cut.vars' lays the variable. In a bare row this is a premise. The card (YtebkdcamblifoaaGreatDoorCards.lean) ties it to the program's text. -/
def laid_errors_errorType {H : Type} : DataW H := .iface "internal/reflectlite.rtype" (.agg [.ptr (.lit (.string [101, 114, 114, 111, 114]))])
def laid_hustings_head_bits {H : Type} : DataW H := .agg [.lit (.int .u16 32768), .lit (.int .u16 1024), .lit (.int .u16 512), .lit (.int .u16 256), .lit (.int .u16 128), .lit (.int .u16 64), .lit (.int .u16 32), .lit (.int .u16 16)]
def laid_hustings_heard_errBad {H : Type} : DataW H := .iface "*errors.errorString" (.ptr (.agg [.lit (.string [116, 104, 101, 32, 114, 101, 112, 108, 121, 32, 105, 115, 32, 98, 97, 100])]))
def laid_hustings_heard_errPass {H : Type} : DataW H := .iface "*errors.errorString" (.ptr (.agg [.lit (.string [116, 104, 101, 32, 114, 101, 112, 108, 121, 32, 105, 115, 32, 97, 32, 112, 97, 115, 115])]))

/-- 'hustingslaw28.AnswerCodes': WHATEVER THE INPUT: true; the input reads as it did. -/
def answerCodesSpec : ChangeSpec := { name := "answerCodes", fn := fun _ => fun
  | [d1, d2, d3] => { results := [.lit (.bool true)], args := [d1, d2, d3] }
  | _ => none }
def answerCodesRow : OpenClaim := { program := "ytebkdcamblifoaagreatdoor", sum := "7a624ea41cf579d638b8d8ecfd14d42d09a897d8e86c3e6f3219b628186a5d9e", func := "hustings/hustingslaw28.AnswerCodes", spec := "answerCodes", inPlace := ["internal/reflectlite.ValueOf", "(internal/reflectlite.Value).Type", "(internal/reflectlite.Value).IsNil", "internal/reflectlite.TypeOf", "(internal/reflectlite.Value).Elem", "(internal/reflectlite.Value).Set"], unfollowed := true, recurses := true, named := ["errors.errorType", "hustings/head.bits"], plainKeys := false, apart := false, laid := [("errors.errorType", laid_errors_errorType), ("hustings/head.bits", laid_hustings_head_bits)] }
def AnswerCodesSaid : Prop := answerCodesRow.holds Tryz.pinned (OpenSpec.ofChange answerCodesSpec)

/-- ITS FALSE NEIGHBOUR: 'it returns false'. Refute it at one input. -/
def answerCodesWrong : ChangeSpec := { name := "answerCodes", fn := fun _ => fun
  | [d1, d2, d3] => { results := [.lit (.bool false)], args := [d1, d2, d3] }
  | _ => none }
def AnswerCodesWrongFalsely : Prop := answerCodesRow.holds Tryz.pinned (OpenSpec.ofChange answerCodesWrong)

/-- 'hustingslaw28.AnswerVerdicts': WHATEVER THE INPUT: true; the input reads as it did. -/
def answerVerdictsSpec : ChangeSpec := { name := "answerVerdicts", fn := fun _ => fun
  | [d1, d2, d3, d4] => { results := [.lit (.bool true)], args := [d1, d2, d3, d4] }
  | _ => none }
def answerVerdictsRow : OpenClaim := { program := "ytebkdcamblifoaagreatdoor", sum := "7a624ea41cf579d638b8d8ecfd14d42d09a897d8e86c3e6f3219b628186a5d9e", func := "hustings/hustingslaw28.AnswerVerdicts", spec := "answerVerdicts", inPlace := ["internal/reflectlite.ValueOf", "(internal/reflectlite.Value).Type", "(internal/reflectlite.Value).IsNil", "internal/reflectlite.TypeOf", "(internal/reflectlite.Value).Elem", "(internal/reflectlite.Value).Set"], unfollowed := true, recurses := true, named := ["errors.errorType", "hustings/head.bits"], plainKeys := false, apart := false, laid := [("errors.errorType", laid_errors_errorType), ("hustings/head.bits", laid_hustings_head_bits)] }
def AnswerVerdictsSaid : Prop := answerVerdictsRow.holds Tryz.pinned (OpenSpec.ofChange answerVerdictsSpec)

/-- ITS FALSE NEIGHBOUR: 'it returns false'. Refute it at one input. -/
def answerVerdictsWrong : ChangeSpec := { name := "answerVerdicts", fn := fun _ => fun
  | [d1, d2, d3, d4] => { results := [.lit (.bool false)], args := [d1, d2, d3, d4] }
  | _ => none }
def AnswerVerdictsWrongFalsely : Prop := answerVerdictsRow.holds Tryz.pinned (OpenSpec.ofChange answerVerdictsWrong)

/-- 'hustingslaw28.AnswerTimes': WHATEVER THE INPUT: true; the input reads as it did. -/
def answerTimesSpec : ChangeSpec := { name := "answerTimes", fn := fun _ => fun
  | [d1, d2, d3, d4, d5] => { results := [.lit (.bool true)], args := [d1, d2, d3, d4, d5] }
  | _ => none }
def answerTimesRow : OpenClaim := { program := "ytebkdcamblifoaagreatdoor", sum := "7a624ea41cf579d638b8d8ecfd14d42d09a897d8e86c3e6f3219b628186a5d9e", func := "hustings/hustingslaw28.AnswerTimes", spec := "answerTimes", inPlace := ["internal/reflectlite.ValueOf", "(internal/reflectlite.Value).Type", "(internal/reflectlite.Value).IsNil", "internal/reflectlite.TypeOf", "(internal/reflectlite.Value).Elem", "(internal/reflectlite.Value).Set"], unfollowed := true, recurses := true, named := ["errors.errorType", "hustings/head.bits"], plainKeys := false, apart := false, laid := [("errors.errorType", laid_errors_errorType), ("hustings/head.bits", laid_hustings_head_bits)] }
def AnswerTimesSaid : Prop := answerTimesRow.holds Tryz.pinned (OpenSpec.ofChange answerTimesSpec)

/-- ITS FALSE NEIGHBOUR: 'it returns false'. Refute it at one input. -/
def answerTimesWrong : ChangeSpec := { name := "answerTimes", fn := fun _ => fun
  | [d1, d2, d3, d4, d5] => { results := [.lit (.bool false)], args := [d1, d2, d3, d4, d5] }
  | _ => none }
def AnswerTimesWrongFalsely : Prop := answerTimesRow.holds Tryz.pinned (OpenSpec.ofChange answerTimesWrong)

/-- 'hustingslaw28.AnswerFits': WHATEVER THE INPUT: true; the input reads as it did. -/
def answerFitsSpec : ChangeSpec := { name := "answerFits", fn := fun _ => fun
  | [d1, d2, d3, d4, d5] => { results := [.lit (.bool true)], args := [d1, d2, d3, d4, d5] }
  | _ => none }
def answerFitsRow : OpenClaim := { program := "ytebkdcamblifoaagreatdoor", sum := "7a624ea41cf579d638b8d8ecfd14d42d09a897d8e86c3e6f3219b628186a5d9e", func := "hustings/hustingslaw28.AnswerFits", spec := "answerFits", inPlace := ["internal/reflectlite.ValueOf", "(internal/reflectlite.Value).Type", "(internal/reflectlite.Value).IsNil", "internal/reflectlite.TypeOf", "(internal/reflectlite.Value).Elem", "(internal/reflectlite.Value).Set"], unfollowed := true, recurses := true, named := ["errors.errorType", "hustings/head.bits"], plainKeys := false, apart := false, laid := [("errors.errorType", laid_errors_errorType), ("hustings/head.bits", laid_hustings_head_bits)] }
def AnswerFitsSaid : Prop := answerFitsRow.holds Tryz.pinned (OpenSpec.ofChange answerFitsSpec)

/-- ITS FALSE NEIGHBOUR: 'it returns false'. Refute it at one input. -/
def answerFitsWrong : ChangeSpec := { name := "answerFits", fn := fun _ => fun
  | [d1, d2, d3, d4, d5] => { results := [.lit (.bool false)], args := [d1, d2, d3, d4, d5] }
  | _ => none }
def AnswerFitsWrongFalsely : Prop := answerFitsRow.holds Tryz.pinned (OpenSpec.ofChange answerFitsWrong)

/-- 'hustingslaw28.AnswerCut': WHATEVER THE INPUT: true; the input reads as it did. -/
def answerCutSpec : ChangeSpec := { name := "answerCut", fn := fun _ => fun
  | [d1, d2, d3, d4, d5] => { results := [.lit (.bool true)], args := [d1, d2, d3, d4, d5] }
  | _ => none }
def answerCutRow : OpenClaim := { program := "ytebkdcamblifoaagreatdoor", sum := "7a624ea41cf579d638b8d8ecfd14d42d09a897d8e86c3e6f3219b628186a5d9e", func := "hustings/hustingslaw28.AnswerCut", spec := "answerCut", inPlace := ["internal/reflectlite.ValueOf", "(internal/reflectlite.Value).Type", "(internal/reflectlite.Value).IsNil", "internal/reflectlite.TypeOf", "(internal/reflectlite.Value).Elem", "(internal/reflectlite.Value).Set"], unfollowed := true, recurses := true, named := ["errors.errorType", "hustings/head.bits"], plainKeys := false, apart := false, laid := [("errors.errorType", laid_errors_errorType), ("hustings/head.bits", laid_hustings_head_bits)] }
def AnswerCutSaid : Prop := answerCutRow.holds Tryz.pinned (OpenSpec.ofChange answerCutSpec)

/-- ITS FALSE NEIGHBOUR: 'it returns false'. Refute it at one input. -/
def answerCutWrong : ChangeSpec := { name := "answerCut", fn := fun _ => fun
  | [d1, d2, d3, d4, d5] => { results := [.lit (.bool false)], args := [d1, d2, d3, d4, d5] }
  | _ => none }
def AnswerCutWrongFalsely : Prop := answerCutRow.holds Tryz.pinned (OpenSpec.ofChange answerCutWrong)

/-- 'hustingslaw28.AnswerRows': WHATEVER THE INPUT: true; the input reads as it did. -/
def answerRowsSpec : ChangeSpec := { name := "answerRows", fn := fun _ => fun
  | [d1, d2, d3, d4] => { results := [.lit (.bool true)], args := [d1, d2, d3, d4] }
  | _ => none }
def answerRowsRow : OpenClaim := { program := "ytebkdcamblifoaagreatdoor", sum := "7a624ea41cf579d638b8d8ecfd14d42d09a897d8e86c3e6f3219b628186a5d9e", func := "hustings/hustingslaw28.AnswerRows", spec := "answerRows", inPlace := ["internal/reflectlite.ValueOf", "(internal/reflectlite.Value).Type", "(internal/reflectlite.Value).IsNil", "internal/reflectlite.TypeOf", "(internal/reflectlite.Value).Elem", "(internal/reflectlite.Value).Set"], unfollowed := true, recurses := true, named := ["errors.errorType", "hustings/head.bits"], plainKeys := false, apart := false, laid := [("errors.errorType", laid_errors_errorType), ("hustings/head.bits", laid_hustings_head_bits)] }
def AnswerRowsSaid : Prop := answerRowsRow.holds Tryz.pinned (OpenSpec.ofChange answerRowsSpec)

/-- ITS FALSE NEIGHBOUR: 'it returns false'. Refute it at one input. -/
def answerRowsWrong : ChangeSpec := { name := "answerRows", fn := fun _ => fun
  | [d1, d2, d3, d4] => { results := [.lit (.bool false)], args := [d1, d2, d3, d4] }
  | _ => none }
def AnswerRowsWrongFalsely : Prop := answerRowsRow.holds Tryz.pinned (OpenSpec.ofChange answerRowsWrong)

/-- 'hustingslaw11.VerdictNames': WHATEVER THE INPUT: true; the input reads as it did. -/
def verdictNamesSpec : ChangeSpec := { name := "verdictNames", fn := fun _ => fun
  | [] => { results := [.lit (.bool true)], args := [] }
  | _ => none }
def verdictNamesRow : OpenClaim := { program := "ytebkdcamblifoaagreatdoor", sum := "7a624ea41cf579d638b8d8ecfd14d42d09a897d8e86c3e6f3219b628186a5d9e", func := "hustings/hustingslaw11.VerdictNames", spec := "verdictNames", inPlace := ["internal/reflectlite.ValueOf", "(internal/reflectlite.Value).Type", "(internal/reflectlite.Value).IsNil", "internal/reflectlite.TypeOf", "(internal/reflectlite.Value).Elem", "(internal/reflectlite.Value).Set", "internal/bytealg.abigen_runtime_cmpstring"], unfollowed := true, recurses := true, named := ["errors.errorType"], plainKeys := false, apart := false, laid := [("errors.errorType", laid_errors_errorType)] }
def VerdictNamesSaid : Prop := verdictNamesRow.holds Tryz.pinned (OpenSpec.ofChange verdictNamesSpec)

/-- ITS FALSE NEIGHBOUR: 'it returns false'. Refute it at one input. -/
def verdictNamesWrong : ChangeSpec := { name := "verdictNames", fn := fun _ => fun
  | [] => { results := [.lit (.bool false)], args := [] }
  | _ => none }
def VerdictNamesWrongFalsely : Prop := verdictNamesRow.holds Tryz.pinned (OpenSpec.ofChange verdictNamesWrong)

/-- 'hustingslaw28.AnswerRead': WHATEVER THE INPUT: true; the input reads as it did. -/
def answerReadSpec : ChangeSpec := { name := "answerRead", fn := fun _ => fun
  | [d1, d2, d3, d4] => { results := [.lit (.bool true)], args := [d1, d2, d3, d4] }
  | _ => none }
def answerReadRow : OpenClaim := { program := "ytebkdcamblifoaagreatdoor", sum := "7a624ea41cf579d638b8d8ecfd14d42d09a897d8e86c3e6f3219b628186a5d9e", func := "hustings/hustingslaw28.AnswerRead", spec := "answerRead", inPlace := ["internal/reflectlite.ValueOf", "(internal/reflectlite.Value).Type", "(internal/reflectlite.Value).IsNil", "internal/reflectlite.TypeOf", "(internal/reflectlite.Value).Elem", "(internal/reflectlite.Value).Set", "internal/bytealg.abigen_runtime_cmpstring"], unfollowed := true, recurses := true, named := ["errors.errorType", "hustings/head.bits", "hustings/heard.errBad", "hustings/heard.errPass"], plainKeys := false, apart := false, laid := [("errors.errorType", laid_errors_errorType), ("hustings/head.bits", laid_hustings_head_bits), ("hustings/heard.errBad", laid_hustings_heard_errBad), ("hustings/heard.errPass", laid_hustings_heard_errPass)] }
def AnswerReadSaid : Prop := answerReadRow.holds Tryz.pinned (OpenSpec.ofChange answerReadSpec)

/-- ITS FALSE NEIGHBOUR: 'it returns false'. Refute it at one input. -/
def answerReadWrong : ChangeSpec := { name := "answerRead", fn := fun _ => fun
  | [d1, d2, d3, d4] => { results := [.lit (.bool false)], args := [d1, d2, d3, d4] }
  | _ => none }
def AnswerReadWrongFalsely : Prop := answerReadRow.holds Tryz.pinned (OpenSpec.ofChange answerReadWrong)

/- THE SECOND FORM. 'bulk': how many values and letters a reading holds, each counted each time it is reached (what is shared counts as often as it is met; a slice's spare places count too). A statement '..UptoSaid' is the law's where the arguments, and the package variables that the reading takes, are together of bulk at most 1048576: NARROWER than '..Said'. Prove '..Said' where nothing that the law and all that it calls make is longer than what came in: it says more and counts as full. Else prove '..UptoSaid'. A law counts once. -/
mutual
def uptoBulk {H : Type} : DataW H → Nat
  | .lit (.string bytes) => bytes.length + 1
  | .lit _ => 1
  | .nil => 1
  | .ptr d => uptoBulk d + 1
  | .slice elems spare => uptoBulkAll elems + uptoBulkAll spare + 1
  | .agg parts => uptoBulkAll parts + 1
  | .iface _ d => uptoBulk d + 1
  | .map entries => uptoBulkEntries entries + 1
  | .held _ => 1
def uptoBulkAll {H : Type} : List (DataW H) → Nat
  | [] => 0
  | d :: r => uptoBulk d + uptoBulkAll r
def uptoBulkEntries {H : Type} : List (Lit × DataW H) → Nat
  | [] => 0
  | x :: r => uptoBulkEntry x + uptoBulkEntries r
def uptoBulkEntry {H : Type} : Lit × DataW H → Nat
  | (.string bytes, d) => bytes.length + uptoBulk d + 1
  | (_, d) => uptoBulk d + 1
 end
def uptoSmall : (H : Type) → List (DataW H) → Bool := fun _ ds => decide (uptoBulkAll ds ≤ 1048576)
def OpenSpec.upto (s : _root_.Go.ChangeSpec) : _root_.Go.OpenSpec := { _root_.Go.OpenSpec.ofChange s with cond := some uptoSmall }

/-- 'hustingslaw28.AnswerCodes', WHERE WHAT IT READS IS OF BULK AT MOST 1048576: true; the input reads as it did. -/
def answerCodesUptoRow : OpenClaim := { program := "ytebkdcamblifoaagreatdoor", sum := "7a624ea41cf579d638b8d8ecfd14d42d09a897d8e86c3e6f3219b628186a5d9e", func := "hustings/hustingslaw28.AnswerCodes", spec := "answerCodes", inPlace := ["internal/reflectlite.ValueOf", "(internal/reflectlite.Value).Type", "(internal/reflectlite.Value).IsNil", "internal/reflectlite.TypeOf", "(internal/reflectlite.Value).Elem", "(internal/reflectlite.Value).Set"], unfollowed := true, recurses := true, named := ["errors.errorType", "hustings/head.bits"], plainKeys := false, apart := false, laid := [("errors.errorType", laid_errors_errorType), ("hustings/head.bits", laid_hustings_head_bits)], narrowed := true }
def AnswerCodesUptoSaid : Prop := answerCodesUptoRow.holds Tryz.pinned (OpenSpec.upto answerCodesSpec)

/-- 'hustingslaw28.AnswerVerdicts', WHERE WHAT IT READS IS OF BULK AT MOST 1048576: true; the input reads as it did. -/
def answerVerdictsUptoRow : OpenClaim := { program := "ytebkdcamblifoaagreatdoor", sum := "7a624ea41cf579d638b8d8ecfd14d42d09a897d8e86c3e6f3219b628186a5d9e", func := "hustings/hustingslaw28.AnswerVerdicts", spec := "answerVerdicts", inPlace := ["internal/reflectlite.ValueOf", "(internal/reflectlite.Value).Type", "(internal/reflectlite.Value).IsNil", "internal/reflectlite.TypeOf", "(internal/reflectlite.Value).Elem", "(internal/reflectlite.Value).Set"], unfollowed := true, recurses := true, named := ["errors.errorType", "hustings/head.bits"], plainKeys := false, apart := false, laid := [("errors.errorType", laid_errors_errorType), ("hustings/head.bits", laid_hustings_head_bits)], narrowed := true }
def AnswerVerdictsUptoSaid : Prop := answerVerdictsUptoRow.holds Tryz.pinned (OpenSpec.upto answerVerdictsSpec)

/-- 'hustingslaw28.AnswerTimes', WHERE WHAT IT READS IS OF BULK AT MOST 1048576: true; the input reads as it did. -/
def answerTimesUptoRow : OpenClaim := { program := "ytebkdcamblifoaagreatdoor", sum := "7a624ea41cf579d638b8d8ecfd14d42d09a897d8e86c3e6f3219b628186a5d9e", func := "hustings/hustingslaw28.AnswerTimes", spec := "answerTimes", inPlace := ["internal/reflectlite.ValueOf", "(internal/reflectlite.Value).Type", "(internal/reflectlite.Value).IsNil", "internal/reflectlite.TypeOf", "(internal/reflectlite.Value).Elem", "(internal/reflectlite.Value).Set"], unfollowed := true, recurses := true, named := ["errors.errorType", "hustings/head.bits"], plainKeys := false, apart := false, laid := [("errors.errorType", laid_errors_errorType), ("hustings/head.bits", laid_hustings_head_bits)], narrowed := true }
def AnswerTimesUptoSaid : Prop := answerTimesUptoRow.holds Tryz.pinned (OpenSpec.upto answerTimesSpec)

/-- 'hustingslaw28.AnswerFits', WHERE WHAT IT READS IS OF BULK AT MOST 1048576: true; the input reads as it did. -/
def answerFitsUptoRow : OpenClaim := { program := "ytebkdcamblifoaagreatdoor", sum := "7a624ea41cf579d638b8d8ecfd14d42d09a897d8e86c3e6f3219b628186a5d9e", func := "hustings/hustingslaw28.AnswerFits", spec := "answerFits", inPlace := ["internal/reflectlite.ValueOf", "(internal/reflectlite.Value).Type", "(internal/reflectlite.Value).IsNil", "internal/reflectlite.TypeOf", "(internal/reflectlite.Value).Elem", "(internal/reflectlite.Value).Set"], unfollowed := true, recurses := true, named := ["errors.errorType", "hustings/head.bits"], plainKeys := false, apart := false, laid := [("errors.errorType", laid_errors_errorType), ("hustings/head.bits", laid_hustings_head_bits)], narrowed := true }
def AnswerFitsUptoSaid : Prop := answerFitsUptoRow.holds Tryz.pinned (OpenSpec.upto answerFitsSpec)

/-- 'hustingslaw28.AnswerCut', WHERE WHAT IT READS IS OF BULK AT MOST 1048576: true; the input reads as it did. -/
def answerCutUptoRow : OpenClaim := { program := "ytebkdcamblifoaagreatdoor", sum := "7a624ea41cf579d638b8d8ecfd14d42d09a897d8e86c3e6f3219b628186a5d9e", func := "hustings/hustingslaw28.AnswerCut", spec := "answerCut", inPlace := ["internal/reflectlite.ValueOf", "(internal/reflectlite.Value).Type", "(internal/reflectlite.Value).IsNil", "internal/reflectlite.TypeOf", "(internal/reflectlite.Value).Elem", "(internal/reflectlite.Value).Set"], unfollowed := true, recurses := true, named := ["errors.errorType", "hustings/head.bits"], plainKeys := false, apart := false, laid := [("errors.errorType", laid_errors_errorType), ("hustings/head.bits", laid_hustings_head_bits)], narrowed := true }
def AnswerCutUptoSaid : Prop := answerCutUptoRow.holds Tryz.pinned (OpenSpec.upto answerCutSpec)

/-- 'hustingslaw28.AnswerRows', WHERE WHAT IT READS IS OF BULK AT MOST 1048576: true; the input reads as it did. -/
def answerRowsUptoRow : OpenClaim := { program := "ytebkdcamblifoaagreatdoor", sum := "7a624ea41cf579d638b8d8ecfd14d42d09a897d8e86c3e6f3219b628186a5d9e", func := "hustings/hustingslaw28.AnswerRows", spec := "answerRows", inPlace := ["internal/reflectlite.ValueOf", "(internal/reflectlite.Value).Type", "(internal/reflectlite.Value).IsNil", "internal/reflectlite.TypeOf", "(internal/reflectlite.Value).Elem", "(internal/reflectlite.Value).Set"], unfollowed := true, recurses := true, named := ["errors.errorType", "hustings/head.bits"], plainKeys := false, apart := false, laid := [("errors.errorType", laid_errors_errorType), ("hustings/head.bits", laid_hustings_head_bits)], narrowed := true }
def AnswerRowsUptoSaid : Prop := answerRowsUptoRow.holds Tryz.pinned (OpenSpec.upto answerRowsSpec)

/-- 'hustingslaw11.VerdictNames', WHERE WHAT IT READS IS OF BULK AT MOST 1048576: true; the input reads as it did. -/
def verdictNamesUptoRow : OpenClaim := { program := "ytebkdcamblifoaagreatdoor", sum := "7a624ea41cf579d638b8d8ecfd14d42d09a897d8e86c3e6f3219b628186a5d9e", func := "hustings/hustingslaw11.VerdictNames", spec := "verdictNames", inPlace := ["internal/reflectlite.ValueOf", "(internal/reflectlite.Value).Type", "(internal/reflectlite.Value).IsNil", "internal/reflectlite.TypeOf", "(internal/reflectlite.Value).Elem", "(internal/reflectlite.Value).Set", "internal/bytealg.abigen_runtime_cmpstring"], unfollowed := true, recurses := true, named := ["errors.errorType"], plainKeys := false, apart := false, laid := [("errors.errorType", laid_errors_errorType)], narrowed := true }
def VerdictNamesUptoSaid : Prop := verdictNamesUptoRow.holds Tryz.pinned (OpenSpec.upto verdictNamesSpec)

/-- 'hustingslaw28.AnswerRead', WHERE WHAT IT READS IS OF BULK AT MOST 1048576: true; the input reads as it did. -/
def answerReadUptoRow : OpenClaim := { program := "ytebkdcamblifoaagreatdoor", sum := "7a624ea41cf579d638b8d8ecfd14d42d09a897d8e86c3e6f3219b628186a5d9e", func := "hustings/hustingslaw28.AnswerRead", spec := "answerRead", inPlace := ["internal/reflectlite.ValueOf", "(internal/reflectlite.Value).Type", "(internal/reflectlite.Value).IsNil", "internal/reflectlite.TypeOf", "(internal/reflectlite.Value).Elem", "(internal/reflectlite.Value).Set", "internal/bytealg.abigen_runtime_cmpstring"], unfollowed := true, recurses := true, named := ["errors.errorType", "hustings/head.bits", "hustings/heard.errBad", "hustings/heard.errPass"], plainKeys := false, apart := false, laid := [("errors.errorType", laid_errors_errorType), ("hustings/head.bits", laid_hustings_head_bits), ("hustings/heard.errBad", laid_hustings_heard_errBad), ("hustings/heard.errPass", laid_hustings_heard_errPass)], narrowed := true }
def AnswerReadUptoSaid : Prop := answerReadUptoRow.holds Tryz.pinned (OpenSpec.upto answerReadSpec)

end Rows
end Go.Proofs.YtebkdcamblifoaaGreatDoor
