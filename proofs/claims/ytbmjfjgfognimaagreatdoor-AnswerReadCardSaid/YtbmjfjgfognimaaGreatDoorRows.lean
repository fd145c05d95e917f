/-
  NARROWER THAN 'FOR EVERY INPUT', by the rows' own cells (each row's printed sentence says how): AnswerFits: laid · AnswerCut: laid · ResolverFits: laid · ResolverMakes: laid · ResolverAnswers: laid · ResolverRows: laid · ResolverGone: laid · ResolverClass: laid · HeardLooks: laid · HeardAsked: laid · ResolverVotes: laid · AnswerRead: laid.
  DERIVED. THE GIVEN ROWS OF THIS SEAT. 12 by the template 'for every input the law returns true; each argument reads behind the call as it read before'; 0 by the template 'total and deterministic' (their statements: YtbmjfjgfognimaaGreatDoorTotals.lean).
  GIVEN WITH THE SEED: the statements are not yours to turn. If you find one false, say at which input.
  Laid BY PROGRAM, IN A SANDBOX (cutbox-rows.mjs): the forced cells as the released guide's own fill.sh prints them over the translation bddfaa15db2b1948… (all of the seat's roots in one cut). By AI agents, Wed Nov 11 2026. No macro, syntax, notation, axiom, sorry.
-/
import Derived.Test.YtbmjfjgfognimaaGreatDoorChecked
import GoSem.Claim
import GoSem.ClaimJoined
import GoSem.ClaimMapViews
import Derived.JoinedTies
import Derived.KernelRfl
namespace Go.Proofs.YtbmjfjgfognimaaGreatDoor
/- THE CELL 'sum', in the pinned program and in every row, IS THE sha256 OF THE DUMP (.gsa) THAT YtbmjfjgfognimaaGreatDoorProg.lean LOADS. Nothing in Lean hashes anything: it is a label: what it is worth is what the hold of that sum in a sandbox is worth. -/
noncomputable def Tryz.pinned : Pinned := { name := "ytbmjfjgfognimaagreatdoor", sum := "bddfaa15db2b194861924c9de9ce6c5d8bf92cada74169d6d59f01eaadf7ee13", checked := Tryz.checked }
namespace Rows
def none {H : Type} : Left H := { results := [], args := [] }

/- WHAT THE LISTED PACKAGE-LEVEL VARIABLES READ AS WHEN THE CALL BEGINS. Each datum BY PROGRAM (the guide's laid-datum.mjs) off the statement by which the dump's own 'gosem.cut.vars' lays the variable. In a bare row this is a premise. The card (YtbmjfjgfognimaaGreatDoorCards.lean) ties it to the program's text. -/
def laid_errors_errorType {H : Type} : DataW H := .iface "internal/reflectlite.rtype" (.agg [.ptr (.lit (.string [101, 114, 114, 111, 114]))])
def laid_hustings_head_bits {H : Type} : DataW H := .agg [.lit (.int .u16 32768), .lit (.int .u16 1024), .lit (.int .u16 512), .lit (.int .u16 256), .lit (.int .u16 128), .lit (.int .u16 64), .lit (.int .u16 32), .lit (.int .u16 16)]
def laid_hustings_heard_errBad {H : Type} : DataW H := .iface "*errors.errorString" (.ptr (.agg [.lit (.string [116, 104, 101, 32, 114, 101, 112, 108, 121, 32, 105, 115, 32, 98, 97, 100])]))
def laid_hustings_heard_errPass {H : Type} : DataW H := .iface "*errors.errorString" (.ptr (.agg [.lit (.string [116, 104, 101, 32, 114, 101, 112, 108, 121, 32, 105, 115, 32, 97, 32, 112, 97, 115, 115])]))

/-- 'hustingslaw28.AnswerFits': WHATEVER THE INPUT: true; the input reads as it did. -/
def answerFitsSpec : ChangeSpec := { name := "answerFits", fn := fun _ => fun
  | [d1, d2, d3, d4, d5] => { results := [.lit (.bool true)], args := [d1, d2, d3, d4, d5] }
  | _ => none }
def answerFitsRow : OpenClaim := { program := "ytbmjfjgfognimaagreatdoor", sum := "bddfaa15db2b194861924c9de9ce6c5d8bf92cada74169d6d59f01eaadf7ee13", func := "hustings/hustingslaw28.AnswerFits", spec := "answerFits", inPlace := ["internal/reflectlite.ValueOf", "(internal/reflectlite.Value).Type", "(internal/reflectlite.Value).IsNil", "internal/reflectlite.TypeOf", "(internal/reflectlite.Value).Elem", "(internal/reflectlite.Value).Set"], unfollowed := true, recurses := true, named := ["errors.errorType", "hustings/head.bits"], plainKeys := false, apart := false, laid := [("errors.errorType", laid_errors_errorType), ("hustings/head.bits", laid_hustings_head_bits)] }
def AnswerFitsSaid : Prop := answerFitsRow.holds Tryz.pinned (OpenSpec.ofChange answerFitsSpec)

/-- ITS FALSE NEIGHBOUR: 'it returns false'. Refute it at one input. -/
def answerFitsWrong : ChangeSpec := { name := "answerFits", fn := fun _ => fun
  | [d1, d2, d3, d4, d5] => { results := [.lit (.bool false)], args := [d1, d2, d3, d4, d5] }
  | _ => none }
def AnswerFitsWrongFalsely : Prop := answerFitsRow.holds Tryz.pinned (OpenSpec.ofChange answerFitsWrong)

/-- 'hustingslaw28.AnswerCut': WHATEVER THE INPUT: true; the input reads as it did. -/
def answerCutSpec : ChangeSpec := { name := "answerCut", fn := fun _ => fun
  | [d1, d2, d3, d4, d5] => { results := [.lit (.bool true)], args := [d1, d2, d3, d4, d5] }
  | _ => none }
def answerCutRow : OpenClaim := { program := "ytbmjfjgfognimaagreatdoor", sum := "bddfaa15db2b194861924c9de9ce6c5d8bf92cada74169d6d59f01eaadf7ee13", func := "hustings/hustingslaw28.AnswerCut", spec := "answerCut", inPlace := ["internal/reflectlite.ValueOf", "(internal/reflectlite.Value).Type", "(internal/reflectlite.Value).IsNil", "internal/reflectlite.TypeOf", "(internal/reflectlite.Value).Elem", "(internal/reflectlite.Value).Set"], unfollowed := true, recurses := true, named := ["errors.errorType", "hustings/head.bits"], plainKeys := false, apart := false, laid := [("errors.errorType", laid_errors_errorType), ("hustings/head.bits", laid_hustings_head_bits)] }
def AnswerCutSaid : Prop := answerCutRow.holds Tryz.pinned (OpenSpec.ofChange answerCutSpec)

/-- ITS FALSE NEIGHBOUR: 'it returns false'. Refute it at one input. -/
def answerCutWrong : ChangeSpec := { name := "answerCut", fn := fun _ => fun
  | [d1, d2, d3, d4, d5] => { results := [.lit (.bool false)], args := [d1, d2, d3, d4, d5] }
  | _ => none }
def AnswerCutWrongFalsely : Prop := answerCutRow.holds Tryz.pinned (OpenSpec.ofChange answerCutWrong)

/-- 'hustingslaw30.ResolverFits': WHATEVER THE INPUT: true; the input reads as it did. -/
def resolverFitsSpec : ChangeSpec := { name := "resolverFits", fn := fun _ => fun
  | [d1, d2] => { results := [.lit (.bool true)], args := [d1, d2] }
  | _ => none }
def resolverFitsRow : OpenClaim := { program := "ytbmjfjgfognimaagreatdoor", sum := "bddfaa15db2b194861924c9de9ce6c5d8bf92cada74169d6d59f01eaadf7ee13", func := "hustings/hustingslaw30.ResolverFits", spec := "resolverFits", inPlace := ["internal/reflectlite.ValueOf", "(internal/reflectlite.Value).Type", "(internal/reflectlite.Value).IsNil", "internal/reflectlite.TypeOf", "(internal/reflectlite.Value).Elem", "(internal/reflectlite.Value).Set", "internal/bytealg.abigen_runtime_cmpstring"], unfollowed := true, recurses := true, named := ["errors.errorType", "hustings/head.bits"], plainKeys := false, apart := false, laid := [("errors.errorType", laid_errors_errorType), ("hustings/head.bits", laid_hustings_head_bits)] }
def ResolverFitsSaid : Prop := resolverFitsRow.holds Tryz.pinned (OpenSpec.ofChange resolverFitsSpec)

/-- ITS FALSE NEIGHBOUR: 'it returns false'. Refute it at one input. -/
def resolverFitsWrong : ChangeSpec := { name := "resolverFits", fn := fun _ => fun
  | [d1, d2] => { results := [.lit (.bool false)], args := [d1, d2] }
  | _ => none }
def ResolverFitsWrongFalsely : Prop := resolverFitsRow.holds Tryz.pinned (OpenSpec.ofChange resolverFitsWrong)

/-- 'hustingslaw30.ResolverMakes': WHATEVER THE INPUT: true; the input reads as it did. -/
def resolverMakesSpec : ChangeSpec := { name := "resolverMakes", fn := fun _ => fun
  | [d] => { results := [.lit (.bool true)], args := [d] }
  | _ => none }
def resolverMakesRow : OpenClaim := { program := "ytbmjfjgfognimaagreatdoor", sum := "bddfaa15db2b194861924c9de9ce6c5d8bf92cada74169d6d59f01eaadf7ee13", func := "hustings/hustingslaw30.ResolverMakes", spec := "resolverMakes", inPlace := ["internal/reflectlite.ValueOf", "(internal/reflectlite.Value).Type", "(internal/reflectlite.Value).IsNil", "internal/reflectlite.TypeOf", "(internal/reflectlite.Value).Elem", "(internal/reflectlite.Value).Set", "internal/bytealg.abigen_runtime_cmpstring"], unfollowed := true, recurses := true, named := ["errors.errorType", "hustings/head.bits"], plainKeys := false, apart := false, laid := [("errors.errorType", laid_errors_errorType), ("hustings/head.bits", laid_hustings_head_bits)] }
def ResolverMakesSaid : Prop := resolverMakesRow.holds Tryz.pinned (OpenSpec.ofChange resolverMakesSpec)

/-- ITS FALSE NEIGHBOUR: 'it returns false'. Refute it at one input. -/
def resolverMakesWrong : ChangeSpec := { name := "resolverMakes", fn := fun _ => fun
  | [d] => { results := [.lit (.bool false)], args := [d] }
  | _ => none }
def ResolverMakesWrongFalsely : Prop := resolverMakesRow.holds Tryz.pinned (OpenSpec.ofChange resolverMakesWrong)

/-- 'hustingslaw30.ResolverAnswers': WHATEVER THE INPUT: true; the input reads as it did. -/
def resolverAnswersSpec : ChangeSpec := { name := "resolverAnswers", fn := fun _ => fun
  | [d1, d2, d3] => { results := [.lit (.bool true)], args := [d1, d2, d3] }
  | _ => none }
def resolverAnswersRow : OpenClaim := { program := "ytbmjfjgfognimaagreatdoor", sum := "bddfaa15db2b194861924c9de9ce6c5d8bf92cada74169d6d59f01eaadf7ee13", func := "hustings/hustingslaw30.ResolverAnswers", spec := "resolverAnswers", inPlace := ["internal/reflectlite.ValueOf", "(internal/reflectlite.Value).Type", "(internal/reflectlite.Value).IsNil", "internal/reflectlite.TypeOf", "(internal/reflectlite.Value).Elem", "(internal/reflectlite.Value).Set", "internal/bytealg.abigen_runtime_cmpstring"], unfollowed := true, recurses := true, named := ["errors.errorType", "hustings/head.bits"], plainKeys := false, apart := false, laid := [("errors.errorType", laid_errors_errorType), ("hustings/head.bits", laid_hustings_head_bits)] }
def ResolverAnswersSaid : Prop := resolverAnswersRow.holds Tryz.pinned (OpenSpec.ofChange resolverAnswersSpec)

/-- ITS FALSE NEIGHBOUR: 'it returns false'. Refute it at one input. -/
def resolverAnswersWrong : ChangeSpec := { name := "resolverAnswers", fn := fun _ => fun
  | [d1, d2, d3] => { results := [.lit (.bool false)], args := [d1, d2, d3] }
  | _ => none }
def ResolverAnswersWrongFalsely : Prop := resolverAnswersRow.holds Tryz.pinned (OpenSpec.ofChange resolverAnswersWrong)

/-- 'hustingslaw30.ResolverRows': WHATEVER THE INPUT: true; the input reads as it did. -/
def resolverRowsSpec : ChangeSpec := { name := "resolverRows", fn := fun _ => fun
  | [d1, d2, d3] => { results := [.lit (.bool true)], args := [d1, d2, d3] }
  | _ => none }
def resolverRowsRow : OpenClaim := { program := "ytbmjfjgfognimaagreatdoor", sum := "bddfaa15db2b194861924c9de9ce6c5d8bf92cada74169d6d59f01eaadf7ee13", func := "hustings/hustingslaw30.ResolverRows", spec := "resolverRows", inPlace := ["internal/reflectlite.ValueOf", "(internal/reflectlite.Value).Type", "(internal/reflectlite.Value).IsNil", "internal/reflectlite.TypeOf", "(internal/reflectlite.Value).Elem", "(internal/reflectlite.Value).Set", "internal/bytealg.abigen_runtime_cmpstring"], unfollowed := true, recurses := true, named := ["errors.errorType", "hustings/head.bits"], plainKeys := false, apart := false, laid := [("errors.errorType", laid_errors_errorType), ("hustings/head.bits", laid_hustings_head_bits)] }
def ResolverRowsSaid : Prop := resolverRowsRow.holds Tryz.pinned (OpenSpec.ofChange resolverRowsSpec)

/-- ITS FALSE NEIGHBOUR: 'it returns false'. Refute it at one input. -/
def resolverRowsWrong : ChangeSpec := { name := "resolverRows", fn := fun _ => fun
  | [d1, d2, d3] => { results := [.lit (.bool false)], args := [d1, d2, d3] }
  | _ => none }
def ResolverRowsWrongFalsely : Prop := resolverRowsRow.holds Tryz.pinned (OpenSpec.ofChange resolverRowsWrong)

/-- 'hustingslaw30.ResolverGone': WHATEVER THE INPUT: true; the input reads as it did. -/
def resolverGoneSpec : ChangeSpec := { name := "resolverGone", fn := fun _ => fun
  | [d1, d2, d3] => { results := [.lit (.bool true)], args := [d1, d2, d3] }
  | _ => none }
def resolverGoneRow : OpenClaim := { program := "ytbmjfjgfognimaagreatdoor", sum := "bddfaa15db2b194861924c9de9ce6c5d8bf92cada74169d6d59f01eaadf7ee13", func := "hustings/hustingslaw30.ResolverGone", spec := "resolverGone", inPlace := ["internal/reflectlite.ValueOf", "(internal/reflectlite.Value).Type", "(internal/reflectlite.Value).IsNil", "internal/reflectlite.TypeOf", "(internal/reflectlite.Value).Elem", "(internal/reflectlite.Value).Set", "internal/bytealg.abigen_runtime_cmpstring"], unfollowed := true, recurses := true, named := ["errors.errorType", "hustings/head.bits"], plainKeys := false, apart := false, laid := [("errors.errorType", laid_errors_errorType), ("hustings/head.bits", laid_hustings_head_bits)] }
def ResolverGoneSaid : Prop := resolverGoneRow.holds Tryz.pinned (OpenSpec.ofChange resolverGoneSpec)

/-- ITS FALSE NEIGHBOUR: 'it returns false'. Refute it at one input. -/
def resolverGoneWrong : ChangeSpec := { name := "resolverGone", fn := fun _ => fun
  | [d1, d2, d3] => { results := [.lit (.bool false)], args := [d1, d2, d3] }
  | _ => none }
def ResolverGoneWrongFalsely : Prop := resolverGoneRow.holds Tryz.pinned (OpenSpec.ofChange resolverGoneWrong)

/-- 'hustingslaw30.ResolverClass': WHATEVER THE INPUT: true; the input reads as it did. -/
def resolverClassSpec : ChangeSpec := { name := "resolverClass", fn := fun _ => fun
  | [d1, d2, d3, d4, d5] => { results := [.lit (.bool true)], args := [d1, d2, d3, d4, d5] }
  | _ => none }
def resolverClassRow : OpenClaim := { program := "ytbmjfjgfognimaagreatdoor", sum := "bddfaa15db2b194861924c9de9ce6c5d8bf92cada74169d6d59f01eaadf7ee13", func := "hustings/hustingslaw30.ResolverClass", spec := "resolverClass", inPlace := ["internal/reflectlite.ValueOf", "(internal/reflectlite.Value).Type", "(internal/reflectlite.Value).IsNil", "internal/reflectlite.TypeOf", "(internal/reflectlite.Value).Elem", "(internal/reflectlite.Value).Set", "internal/bytealg.abigen_runtime_cmpstring"], unfollowed := true, recurses := true, named := ["errors.errorType", "hustings/head.bits"], plainKeys := false, apart := false, laid := [("errors.errorType", laid_errors_errorType), ("hustings/head.bits", laid_hustings_head_bits)] }
def ResolverClassSaid : Prop := resolverClassRow.holds Tryz.pinned (OpenSpec.ofChange resolverClassSpec)

/-- ITS FALSE NEIGHBOUR: 'it returns false'. Refute it at one input. -/
def resolverClassWrong : ChangeSpec := { name := "resolverClass", fn := fun _ => fun
  | [d1, d2, d3, d4, d5] => { results := [.lit (.bool false)], args := [d1, d2, d3, d4, d5] }
  | _ => none }
def ResolverClassWrongFalsely : Prop := resolverClassRow.holds Tryz.pinned (OpenSpec.ofChange resolverClassWrong)

/-- 'hustingslaw24.HeardLooks': WHATEVER THE INPUT: true; the input reads as it did. -/
def heardLooksSpec : ChangeSpec := { name := "heardLooks", fn := fun _ => fun
  | [d1, d2] => { results := [.lit (.bool true)], args := [d1, d2] }
  | _ => none }
def heardLooksRow : OpenClaim := { program := "ytbmjfjgfognimaagreatdoor", sum := "bddfaa15db2b194861924c9de9ce6c5d8bf92cada74169d6d59f01eaadf7ee13", func := "hustings/hustingslaw24.HeardLooks", spec := "heardLooks", inPlace := ["internal/reflectlite.ValueOf", "(internal/reflectlite.Value).Type", "(internal/reflectlite.Value).IsNil", "internal/reflectlite.TypeOf", "(internal/reflectlite.Value).Elem", "(internal/reflectlite.Value).Set", "internal/bytealg.abigen_runtime_cmpstring"], unfollowed := true, recurses := true, named := ["hustings/head.bits", "errors.errorType", "hustings/heard.errBad", "hustings/heard.errPass"], plainKeys := false, apart := false, laid := [("errors.errorType", laid_errors_errorType), ("hustings/head.bits", laid_hustings_head_bits), ("hustings/heard.errBad", laid_hustings_heard_errBad), ("hustings/heard.errPass", laid_hustings_heard_errPass)] }
def HeardLooksSaid : Prop := heardLooksRow.holds Tryz.pinned (OpenSpec.ofChange heardLooksSpec)

/-- ITS FALSE NEIGHBOUR: 'it returns false'. Refute it at one input. -/
def heardLooksWrong : ChangeSpec := { name := "heardLooks", fn := fun _ => fun
  | [d1, d2] => { results := [.lit (.bool false)], args := [d1, d2] }
  | _ => none }
def HeardLooksWrongFalsely : Prop := heardLooksRow.holds Tryz.pinned (OpenSpec.ofChange heardLooksWrong)

/-- 'hustingslaw24.HeardAsked': WHATEVER THE INPUT: true; the input reads as it did. -/
def heardAskedSpec : ChangeSpec := { name := "heardAsked", fn := fun _ => fun
  | [d1, d2, d3] => { results := [.lit (.bool true)], args := [d1, d2, d3] }
  | _ => none }
def heardAskedRow : OpenClaim := { program := "ytbmjfjgfognimaagreatdoor", sum := "bddfaa15db2b194861924c9de9ce6c5d8bf92cada74169d6d59f01eaadf7ee13", func := "hustings/hustingslaw24.HeardAsked", spec := "heardAsked", inPlace := ["internal/reflectlite.ValueOf", "(internal/reflectlite.Value).Type", "(internal/reflectlite.Value).IsNil", "internal/reflectlite.TypeOf", "(internal/reflectlite.Value).Elem", "(internal/reflectlite.Value).Set", "internal/bytealg.abigen_runtime_cmpstring"], unfollowed := true, recurses := true, named := ["hustings/head.bits", "errors.errorType", "hustings/heard.errBad", "hustings/heard.errPass"], plainKeys := false, apart := false, laid := [("errors.errorType", laid_errors_errorType), ("hustings/head.bits", laid_hustings_head_bits), ("hustings/heard.errBad", laid_hustings_heard_errBad), ("hustings/heard.errPass", laid_hustings_heard_errPass)] }
def HeardAskedSaid : Prop := heardAskedRow.holds Tryz.pinned (OpenSpec.ofChange heardAskedSpec)

/-- ITS FALSE NEIGHBOUR: 'it returns false'. Refute it at one input. -/
def heardAskedWrong : ChangeSpec := { name := "heardAsked", fn := fun _ => fun
  | [d1, d2, d3] => { results := [.lit (.bool false)], args := [d1, d2, d3] }
  | _ => none }
def HeardAskedWrongFalsely : Prop := heardAskedRow.holds Tryz.pinned (OpenSpec.ofChange heardAskedWrong)

/-- 'hustingslaw30.ResolverVotes': WHATEVER THE INPUT: true; the input reads as it did. -/
def resolverVotesSpec : ChangeSpec := { name := "resolverVotes", fn := fun _ => fun
  | [d1, d2, d3, d4] => { results := [.lit (.bool true)], args := [d1, d2, d3, d4] }
  | _ => none }
def resolverVotesRow : OpenClaim := { program := "ytbmjfjgfognimaagreatdoor", sum := "bddfaa15db2b194861924c9de9ce6c5d8bf92cada74169d6d59f01eaadf7ee13", func := "hustings/hustingslaw30.ResolverVotes", spec := "resolverVotes", inPlace := ["internal/reflectlite.ValueOf", "(internal/reflectlite.Value).Type", "(internal/reflectlite.Value).IsNil", "internal/reflectlite.TypeOf", "(internal/reflectlite.Value).Elem", "(internal/reflectlite.Value).Set", "internal/bytealg.abigen_runtime_cmpstring"], unfollowed := true, recurses := true, named := ["errors.errorType", "hustings/head.bits", "hustings/heard.errBad", "hustings/heard.errPass"], plainKeys := false, apart := false, laid := [("errors.errorType", laid_errors_errorType), ("hustings/head.bits", laid_hustings_head_bits), ("hustings/heard.errBad", laid_hustings_heard_errBad), ("hustings/heard.errPass", laid_hustings_heard_errPass)] }
def ResolverVotesSaid : Prop := resolverVotesRow.holds Tryz.pinned (OpenSpec.ofChange resolverVotesSpec)

/-- ITS FALSE NEIGHBOUR: 'it returns false'. Refute it at one input. -/
def resolverVotesWrong : ChangeSpec := { name := "resolverVotes", fn := fun _ => fun
  | [d1, d2, d3, d4] => { results := [.lit (.bool false)], args := [d1, d2, d3, d4] }
  | _ => none }
def ResolverVotesWrongFalsely : Prop := resolverVotesRow.holds Tryz.pinned (OpenSpec.ofChange resolverVotesWrong)

/-- 'hustingslaw28.AnswerRead': WHATEVER THE INPUT: true; the input reads as it did. -/
def answerReadSpec : ChangeSpec := { name := "answerRead", fn := fun _ => fun
  | [d1, d2, d3, d4] => { results := [.lit (.bool true)], args := [d1, d2, d3, d4] }
  | _ => none }
def answerReadRow : OpenClaim := { program := "ytbmjfjgfognimaagreatdoor", sum := "bddfaa15db2b194861924c9de9ce6c5d8bf92cada74169d6d59f01eaadf7ee13", func := "hustings/hustingslaw28.AnswerRead", spec := "answerRead", inPlace := ["internal/reflectlite.ValueOf", "(internal/reflectlite.Value).Type", "(internal/reflectlite.Value).IsNil", "internal/reflectlite.TypeOf", "(internal/reflectlite.Value).Elem", "(internal/reflectlite.Value).Set", "internal/bytealg.abigen_runtime_cmpstring"], unfollowed := true, recurses := true, named := ["errors.errorType", "hustings/head.bits", "hustings/heard.errBad", "hustings/heard.errPass"], plainKeys := false, apart := false, laid := [("errors.errorType", laid_errors_errorType), ("hustings/head.bits", laid_hustings_head_bits), ("hustings/heard.errBad", laid_hustings_heard_errBad), ("hustings/heard.errPass", laid_hustings_heard_errPass)] }
def AnswerReadSaid : Prop := answerReadRow.holds Tryz.pinned (OpenSpec.ofChange answerReadSpec)

/-- ITS FALSE NEIGHBOUR: 'it returns false'. Refute it at one input. -/
def answerReadWrong : ChangeSpec := { name := "answerRead", fn := fun _ => fun
  | [d1, d2, d3, d4] => { results := [.lit (.bool false)], args := [d1, d2, d3, d4] }
  | _ => none }
def AnswerReadWrongFalsely : Prop := answerReadRow.holds Tryz.pinned (OpenSpec.ofChange answerReadWrong)

/- THE SECOND FORM. 'bulk': how many values and letters a reading holds, each counted each time it is reached (what is shared counts as often as it is met; a slice's spare places count too). A statement '..UptoSaid' is the law's where the arguments, and the package variables that the reading takes, are together of bulk at most 1048576: NARROWER than '..Said'. Prove '..Said' where nothing that the law and all that it calls make is longer than what came in: it says more and counts as full. Else prove '..UptoSaid'. A law counts once. -/
mutual
def uptoBulk {H : Type} : DataW H → Nat
  | .lit (.string bytes) => bytes.length + 1
  | .lit _ => 1
  | .nil => 1
  | .ptr d => uptoBulk d + 1
  | .slice elems spare => uptoBulkAll elems + uptoBulkAll spare + 1
  | .agg parts => uptoBulkAll parts + 1
  | .iface _ d => uptoBulk d + 1
  | .map entries => uptoBulkEntries entries + 1
  | .held _ => 1
def uptoBulkAll {H : Type} : List (DataW H) → Nat
  | [] => 0
  | d :: r => uptoBulk d + uptoBulkAll r
def uptoBulkEntries {H : Type} : List (Lit × DataW H) → Nat
  | [] => 0
  | x :: r => uptoBulkEntry x + uptoBulkEntries r
def uptoBulkEntry {H : Type} : Lit × DataW H → Nat
  | (.string bytes, d) => bytes.length + uptoBulk d + 1
  | (_, d) => uptoBulk d + 1
 end
def uptoSmall : (H : Type) → List (DataW H) → Bool := fun _ ds => decide (uptoBulkAll ds ≤ 1048576)
def OpenSpec.upto (s : _root_.Go.ChangeSpec) : _root_.Go.OpenSpec := { _root_.Go.OpenSpec.ofChange s with cond := some uptoSmall }

/-- 'hustingslaw28.AnswerFits', WHERE WHAT IT READS IS OF BULK AT MOST 1048576: true; the input reads as it did. -/
def answerFitsUptoRow : OpenClaim := { program := "ytbmjfjgfognimaagreatdoor", sum := "bddfaa15db2b194861924c9de9ce6c5d8bf92cada74169d6d59f01eaadf7ee13", func := "hustings/hustingslaw28.AnswerFits", spec := "answerFits", inPlace := ["internal/reflectlite.ValueOf", "(internal/reflectlite.Value).Type", "(internal/reflectlite.Value).IsNil", "internal/reflectlite.TypeOf", "(internal/reflectlite.Value).Elem", "(internal/reflectlite.Value).Set"], unfollowed := true, recurses := true, named := ["errors.errorType", "hustings/head.bits"], plainKeys := false, apart := false, laid := [("errors.errorType", laid_errors_errorType), ("hustings/head.bits", laid_hustings_head_bits)], narrowed := true }
def AnswerFitsUptoSaid : Prop := answerFitsUptoRow.holds Tryz.pinned (OpenSpec.upto answerFitsSpec)

/-- 'hustingslaw28.AnswerCut', WHERE WHAT IT READS IS OF BULK AT MOST 1048576: true; the input reads as it did. -/
def answerCutUptoRow : OpenClaim := { program := "ytbmjfjgfognimaagreatdoor", sum := "bddfaa15db2b194861924c9de9ce6c5d8bf92cada74169d6d59f01eaadf7ee13", func := "hustings/hustingslaw28.AnswerCut", spec := "answerCut", inPlace := ["internal/reflectlite.ValueOf", "(internal/reflectlite.Value).Type", "(internal/reflectlite.Value).IsNil", "internal/reflectlite.TypeOf", "(internal/reflectlite.Value).Elem", "(internal/reflectlite.Value).Set"], unfollowed := true, recurses := true, named := ["errors.errorType", "hustings/head.bits"], plainKeys := false, apart := false, laid := [("errors.errorType", laid_errors_errorType), ("hustings/head.bits", laid_hustings_head_bits)], narrowed := true }
def AnswerCutUptoSaid : Prop := answerCutUptoRow.holds Tryz.pinned (OpenSpec.upto answerCutSpec)

/-- 'hustingslaw30.ResolverFits', WHERE WHAT IT READS IS OF BULK AT MOST 1048576: true; the input reads as it did. -/
def resolverFitsUptoRow : OpenClaim := { program := "ytbmjfjgfognimaagreatdoor", sum := "bddfaa15db2b194861924c9de9ce6c5d8bf92cada74169d6d59f01eaadf7ee13", func := "hustings/hustingslaw30.ResolverFits", spec := "resolverFits", inPlace := ["internal/reflectlite.ValueOf", "(internal/reflectlite.Value).Type", "(internal/reflectlite.Value).IsNil", "internal/reflectlite.TypeOf", "(internal/reflectlite.Value).Elem", "(internal/reflectlite.Value).Set", "internal/bytealg.abigen_runtime_cmpstring"], unfollowed := true, recurses := true, named := ["errors.errorType", "hustings/head.bits"], plainKeys := false, apart := false, laid := [("errors.errorType", laid_errors_errorType), ("hustings/head.bits", laid_hustings_head_bits)], narrowed := true }
def ResolverFitsUptoSaid : Prop := resolverFitsUptoRow.holds Tryz.pinned (OpenSpec.upto resolverFitsSpec)

/-- 'hustingslaw30.ResolverMakes', WHERE WHAT IT READS IS OF BULK AT MOST 1048576: true; the input reads as it did. -/
def resolverMakesUptoRow : OpenClaim := { program := "ytbmjfjgfognimaagreatdoor", sum := "bddfaa15db2b194861924c9de9ce6c5d8bf92cada74169d6d59f01eaadf7ee13", func := "hustings/hustingslaw30.ResolverMakes", spec := "resolverMakes", inPlace := ["internal/reflectlite.ValueOf", "(internal/reflectlite.Value).Type", "(internal/reflectlite.Value).IsNil", "internal/reflectlite.TypeOf", "(internal/reflectlite.Value).Elem", "(internal/reflectlite.Value).Set", "internal/bytealg.abigen_runtime_cmpstring"], unfollowed := true, recurses := true, named := ["errors.errorType", "hustings/head.bits"], plainKeys := false, apart := false, laid := [("errors.errorType", laid_errors_errorType), ("hustings/head.bits", laid_hustings_head_bits)], narrowed := true }
def ResolverMakesUptoSaid : Prop := resolverMakesUptoRow.holds Tryz.pinned (OpenSpec.upto resolverMakesSpec)

/-- 'hustingslaw30.ResolverAnswers', WHERE WHAT IT READS IS OF BULK AT MOST 1048576: true; the input reads as it did. -/
def resolverAnswersUptoRow : OpenClaim := { program := "ytbmjfjgfognimaagreatdoor", sum := "bddfaa15db2b194861924c9de9ce6c5d8bf92cada74169d6d59f01eaadf7ee13", func := "hustings/hustingslaw30.ResolverAnswers", spec := "resolverAnswers", inPlace := ["internal/reflectlite.ValueOf", "(internal/reflectlite.Value).Type", "(internal/reflectlite.Value).IsNil", "internal/reflectlite.TypeOf", "(internal/reflectlite.Value).Elem", "(internal/reflectlite.Value).Set", "internal/bytealg.abigen_runtime_cmpstring"], unfollowed := true, recurses := true, named := ["errors.errorType", "hustings/head.bits"], plainKeys := false, apart := false, laid := [("errors.errorType", laid_errors_errorType), ("hustings/head.bits", laid_hustings_head_bits)], narrowed := true }
def ResolverAnswersUptoSaid : Prop := resolverAnswersUptoRow.holds Tryz.pinned (OpenSpec.upto resolverAnswersSpec)

/-- 'hustingslaw30.ResolverRows', WHERE WHAT IT READS IS OF BULK AT MOST 1048576: true; the input reads as it did. -/
def resolverRowsUptoRow : OpenClaim := { program := "ytbmjfjgfognimaagreatdoor", sum := "bddfaa15db2b194861924c9de9ce6c5d8bf92cada74169d6d59f01eaadf7ee13", func := "hustings/hustingslaw30.ResolverRows", spec := "resolverRows", inPlace := ["internal/reflectlite.ValueOf", "(internal/reflectlite.Value).Type", "(internal/reflectlite.Value).IsNil", "internal/reflectlite.TypeOf", "(internal/reflectlite.Value).Elem", "(internal/reflectlite.Value).Set", "internal/bytealg.abigen_runtime_cmpstring"], unfollowed := true, recurses := true, named := ["errors.errorType", "hustings/head.bits"], plainKeys := false, apart := false, laid := [("errors.errorType", laid_errors_errorType), ("hustings/head.bits", laid_hustings_head_bits)], narrowed := true }
def ResolverRowsUptoSaid : Prop := resolverRowsUptoRow.holds Tryz.pinned (OpenSpec.upto resolverRowsSpec)

/-- 'hustingslaw30.ResolverGone', WHERE WHAT IT READS IS OF BULK AT MOST 1048576: true; the input reads as it did. -/
def resolverGoneUptoRow : OpenClaim := { program := "ytbmjfjgfognimaagreatdoor", sum := "bddfaa15db2b194861924c9de9ce6c5d8bf92cada74169d6d59f01eaadf7ee13", func := "hustings/hustingslaw30.ResolverGone", spec := "resolverGone", inPlace := ["internal/reflectlite.ValueOf", "(internal/reflectlite.Value).Type", "(internal/reflectlite.Value).IsNil", "internal/reflectlite.TypeOf", "(internal/reflectlite.Value).Elem", "(internal/reflectlite.Value).Set", "internal/bytealg.abigen_runtime_cmpstring"], unfollowed := true, recurses := true, named := ["errors.errorType", "hustings/head.bits"], plainKeys := false, apart := false, laid := [("errors.errorType", laid_errors_errorType), ("hustings/head.bits", laid_hustings_head_bits)], narrowed := true }
def ResolverGoneUptoSaid : Prop := resolverGoneUptoRow.holds Tryz.pinned (OpenSpec.upto resolverGoneSpec)

/-- 'hustingslaw30.ResolverClass', WHERE WHAT IT READS IS OF BULK AT MOST 1048576: true; the input reads as it did. -/
def resolverClassUptoRow : OpenClaim := { program := "ytbmjfjgfognimaagreatdoor", sum := "bddfaa15db2b194861924c9de9ce6c5d8bf92cada74169d6d59f01eaadf7ee13", func := "hustings/hustingslaw30.ResolverClass", spec := "resolverClass", inPlace := ["internal/reflectlite.ValueOf", "(internal/reflectlite.Value).Type", "(internal/reflectlite.Value).IsNil", "internal/reflectlite.TypeOf", "(internal/reflectlite.Value).Elem", "(internal/reflectlite.Value).Set", "internal/bytealg.abigen_runtime_cmpstring"], unfollowed := true, recurses := true, named := ["errors.errorType", "hustings/head.bits"], plainKeys := false, apart := false, laid := [("errors.errorType", laid_errors_errorType), ("hustings/head.bits", laid_hustings_head_bits)], narrowed := true }
def ResolverClassUptoSaid : Prop := resolverClassUptoRow.holds Tryz.pinned (OpenSpec.upto resolverClassSpec)

/-- 'hustingslaw24.HeardLooks', WHERE WHAT IT READS IS OF BULK AT MOST 1048576: true; the input reads as it did. -/
def heardLooksUptoRow : OpenClaim := { program := "ytbmjfjgfognimaagreatdoor", sum := "bddfaa15db2b194861924c9de9ce6c5d8bf92cada74169d6d59f01eaadf7ee13", func := "hustings/hustingslaw24.HeardLooks", spec := "heardLooks", inPlace := ["internal/reflectlite.ValueOf", "(internal/reflectlite.Value).Type", "(internal/reflectlite.Value).IsNil", "internal/reflectlite.TypeOf", "(internal/reflectlite.Value).Elem", "(internal/reflectlite.Value).Set", "internal/bytealg.abigen_runtime_cmpstring"], unfollowed := true, recurses := true, named := ["hustings/head.bits", "errors.errorType", "hustings/heard.errBad", "hustings/heard.errPass"], plainKeys := false, apart := false, laid := [("errors.errorType", laid_errors_errorType), ("hustings/head.bits", laid_hustings_head_bits), ("hustings/heard.errBad", laid_hustings_heard_errBad), ("hustings/heard.errPass", laid_hustings_heard_errPass)], narrowed := true }
def HeardLooksUptoSaid : Prop := heardLooksUptoRow.holds Tryz.pinned (OpenSpec.upto heardLooksSpec)

/-- 'hustingslaw24.HeardAsked', WHERE WHAT IT READS IS OF BULK AT MOST 1048576: true; the input reads as it did. -/
def heardAskedUptoRow : OpenClaim := { program := "ytbmjfjgfognimaagreatdoor", sum := "bddfaa15db2b194861924c9de9ce6c5d8bf92cada74169d6d59f01eaadf7ee13", func := "hustings/hustingslaw24.HeardAsked", spec := "heardAsked", inPlace := ["internal/reflectlite.ValueOf", "(internal/reflectlite.Value).Type", "(internal/reflectlite.Value).IsNil", "internal/reflectlite.TypeOf", "(internal/reflectlite.Value).Elem", "(internal/reflectlite.Value).Set", "internal/bytealg.abigen_runtime_cmpstring"], unfollowed := true, recurses := true, named := ["hustings/head.bits", "errors.errorType", "hustings/heard.errBad", "hustings/heard.errPass"], plainKeys := false, apart := false, laid := [("errors.errorType", laid_errors_errorType), ("hustings/head.bits", laid_hustings_head_bits), ("hustings/heard.errBad", laid_hustings_heard_errBad), ("hustings/heard.errPass", laid_hustings_heard_errPass)], narrowed := true }
def HeardAskedUptoSaid : Prop := heardAskedUptoRow.holds Tryz.pinned (OpenSpec.upto heardAskedSpec)

/-- 'hustingslaw30.ResolverVotes', WHERE WHAT IT READS IS OF BULK AT MOST 1048576: true; the input reads as it did. -/
def resolverVotesUptoRow : OpenClaim := { program := "ytbmjfjgfognimaagreatdoor", sum := "bddfaa15db2b194861924c9de9ce6c5d8bf92cada74169d6d59f01eaadf7ee13", func := "hustings/hustingslaw30.ResolverVotes", spec := "resolverVotes", inPlace := ["internal/reflectlite.ValueOf", "(internal/reflectlite.Value).Type", "(internal/reflectlite.Value).IsNil", "internal/reflectlite.TypeOf", "(internal/reflectlite.Value).Elem", "(internal/reflectlite.Value).Set", "internal/bytealg.abigen_runtime_cmpstring"], unfollowed := true, recurses := true, named := ["errors.errorType", "hustings/head.bits", "hustings/heard.errBad", "hustings/heard.errPass"], plainKeys := false, apart := false, laid := [("errors.errorType", laid_errors_errorType), ("hustings/head.bits", laid_hustings_head_bits), ("hustings/heard.errBad", laid_hustings_heard_errBad), ("hustings/heard.errPass", laid_hustings_heard_errPass)], narrowed := true }
def ResolverVotesUptoSaid : Prop := resolverVotesUptoRow.holds Tryz.pinned (OpenSpec.upto resolverVotesSpec)

/-- 'hustingslaw28.AnswerRead', WHERE WHAT IT READS IS OF BULK AT MOST 1048576: true; the input reads as it did. -/
def answerReadUptoRow : OpenClaim := { program := "ytbmjfjgfognimaagreatdoor", sum := "bddfaa15db2b194861924c9de9ce6c5d8bf92cada74169d6d59f01eaadf7ee13", func := "hustings/hustingslaw28.AnswerRead", spec := "answerRead", inPlace := ["internal/reflectlite.ValueOf", "(internal/reflectlite.Value).Type", "(internal/reflectlite.Value).IsNil", "internal/reflectlite.TypeOf", "(internal/reflectlite.Value).Elem", "(internal/reflectlite.Value).Set", "internal/bytealg.abigen_runtime_cmpstring"], unfollowed := true, recurses := true, named := ["errors.errorType", "hustings/head.bits", "hustings/heard.errBad", "hustings/heard.errPass"], plainKeys := false, apart := false, laid := [("errors.errorType", laid_errors_errorType), ("hustings/head.bits", laid_hustings_head_bits), ("hustings/heard.errBad", laid_hustings_heard_errBad), ("hustings/heard.errPass", laid_hustings_heard_errPass)], narrowed := true }
def AnswerReadUptoSaid : Prop := answerReadUptoRow.holds Tryz.pinned (OpenSpec.upto answerReadSpec)

end Rows
end Go.Proofs.YtbmjfjgfognimaaGreatDoor
