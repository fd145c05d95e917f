/-
  NARROWER THAN 'FOR EVERY INPUT', by the rows' own cells (each row's printed sentence says how): HeardQueries: laid · HeardLooks: laid · HeardNames: laid · HeardVotes: laid · HeardCut: laid · HeardRows: laid · HeardAsked: laid.
  DERIVED. THE GIVEN ROWS OF THIS SEAT. 7 by the template 'for every input the law returns true; each argument reads behind the call as it read before'; 0 by the template 'total and deterministic' (their statements: YtfjfmnnjempdaaaGreatDoorTotals.lean).
  GIVEN WITH THE SEED: the statements are not yours to turn. If you find one false, say at which input.
  Laid BY PROGRAM, IN A SANDBOX (cutbox-rows.mjs): the forced cells as the released guide's own fill.sh prints them over the translation 96d71f5003bdb9b7… (all of the seat's roots in one cut). By AI agents, Wed Nov 11 2026. No macro, syntax, notation, axiom, sorry.
-/
import Derived.Test.YtfjfmnnjempdaaaGreatDoorChecked
import GoSem.Claim
import GoSem.ClaimJoined
import GoSem.ClaimMapViews
import Derived.JoinedTies
import Derived.KernelRfl
namespace Go.Proofs.YtfjfmnnjempdaaaGreatDoor
/- THE CELL 'sum', in the pinned program and in every row, IS THE sha256 OF THE DUMP (.gsa) THAT YtfjfmnnjempdaaaGreatDoorProg.lean LOADS. Nothing in Lean hashes anything: it is a label: what it is worth is what the hold of that sum in a sandbox is worth. -/
noncomputable def Tryz.pinned : Pinned := { name := "ytfjfmnnjempdaaagreatdoor", sum := "96d71f5003bdb9b763598e46d240a568e5afa14724a58027095ded5236a8dbfd", checked := Tryz.checked }
namespace Rows
def none {H : Type} : Left H := { results := [], args := [] }

/- WHAT THE LISTED PACKAGE-LEVEL VARIABLES READ AS WHEN THE CALL BEGINS. Each datum BY PROGRAM (the guide's laid-datum.mjs) off the statement by which the dump's own 'gosem.cut.vars' lays the variable. In a bare row this is a premise. The card (YtfjfmnnjempdaaaGreatDoorCards.lean) ties it to the program's text. -/
def laid_errors_errorType {H : Type} : DataW H := .iface "internal/reflectlite.rtype" (.agg [.ptr (.lit (.string [101, 114, 114, 111, 114]))])
def laid_hustings_head_bits {H : Type} : DataW H := .agg [.lit (.int .u16 32768), .lit (.int .u16 1024), .lit (.int .u16 512), .lit (.int .u16 256), .lit (.int .u16 128), .lit (.int .u16 64), .lit (.int .u16 32), .lit (.int .u16 16)]
def laid_hustings_heard_errBad {H : Type} : DataW H := .iface "*errors.errorString" (.ptr (.agg [.lit (.string [116, 104, 101, 32, 114, 101, 112, 108, 121, 32, 105, 115, 32, 98, 97, 100])]))
def laid_hustings_heard_errPass {H : Type} : DataW H := .iface "*errors.errorString" (.ptr (.agg [.lit (.string [116, 104, 101, 32, 114, 101, 112, 108, 121, 32, 105, 115, 32, 97, 32, 112, 97, 115, 115])]))

/-- 'hustingslaw24.HeardQueries': WHATEVER THE INPUT: true; the input reads as it did. -/
def heardQueriesSpec : ChangeSpec := { name := "heardQueries", fn := fun _ => fun
  | [d1, d2, d3] => { results := [.lit (.bool true)], args := [d1, d2, d3] }
  | _ => none }
def heardQueriesRow : OpenClaim := { program := "ytfjfmnnjempdaaagreatdoor", sum := "96d71f5003bdb9b763598e46d240a568e5afa14724a58027095ded5236a8dbfd", func := "hustings/hustingslaw24.HeardQueries", spec := "heardQueries", inPlace := ["internal/reflectlite.ValueOf", "(internal/reflectlite.Value).Type", "(internal/reflectlite.Value).IsNil", "internal/reflectlite.TypeOf", "(internal/reflectlite.Value).Elem", "(internal/reflectlite.Value).Set", "internal/bytealg.abigen_runtime_cmpstring"], unfollowed := true, recurses := true, named := ["hustings/head.bits", "errors.errorType", "hustings/heard.errBad", "hustings/heard.errPass"], plainKeys := false, apart := false, laid := [("errors.errorType", laid_errors_errorType), ("hustings/head.bits", laid_hustings_head_bits), ("hustings/heard.errBad", laid_hustings_heard_errBad), ("hustings/heard.errPass", laid_hustings_heard_errPass)] }
def HeardQueriesSaid : Prop := heardQueriesRow.holds Tryz.pinned (OpenSpec.ofChange heardQueriesSpec)

/-- ITS FALSE NEIGHBOUR: 'it returns false'. Refute it at one input. -/
def heardQueriesWrong : ChangeSpec := { name := "heardQueries", fn := fun _ => fun
  | [d1, d2, d3] => { results := [.lit (.bool false)], args := [d1, d2, d3] }
  | _ => none }
def HeardQueriesWrongFalsely : Prop := heardQueriesRow.holds Tryz.pinned (OpenSpec.ofChange heardQueriesWrong)

/-- 'hustingslaw24.HeardLooks': WHATEVER THE INPUT: true; the input reads as it did. -/
def heardLooksSpec : ChangeSpec := { name := "heardLooks", fn := fun _ => fun
  | [d1, d2] => { results := [.lit (.bool true)], args := [d1, d2] }
  | _ => none }
def heardLooksRow : OpenClaim := { program := "ytfjfmnnjempdaaagreatdoor", sum := "96d71f5003bdb9b763598e46d240a568e5afa14724a58027095ded5236a8dbfd", func := "hustings/hustingslaw24.HeardLooks", spec := "heardLooks", inPlace := ["internal/reflectlite.ValueOf", "(internal/reflectlite.Value).Type", "(internal/reflectlite.Value).IsNil", "internal/reflectlite.TypeOf", "(internal/reflectlite.Value).Elem", "(internal/reflectlite.Value).Set", "internal/bytealg.abigen_runtime_cmpstring"], unfollowed := true, recurses := true, named := ["hustings/head.bits", "errors.errorType", "hustings/heard.errBad", "hustings/heard.errPass"], plainKeys := false, apart := false, laid := [("errors.errorType", laid_errors_errorType), ("hustings/head.bits", laid_hustings_head_bits), ("hustings/heard.errBad", laid_hustings_heard_errBad), ("hustings/heard.errPass", laid_hustings_heard_errPass)] }
def HeardLooksSaid : Prop := heardLooksRow.holds Tryz.pinned (OpenSpec.ofChange heardLooksSpec)

/-- ITS FALSE NEIGHBOUR: 'it returns false'. Refute it at one input. -/
def heardLooksWrong : ChangeSpec := { name := "heardLooks", fn := fun _ => fun
  | [d1, d2] => { results := [.lit (.bool false)], args := [d1, d2] }
  | _ => none }
def HeardLooksWrongFalsely : Prop := heardLooksRow.holds Tryz.pinned (OpenSpec.ofChange heardLooksWrong)

/-- 'hustingslaw24.HeardNames': WHATEVER THE INPUT: true; the input reads as it did. -/
def heardNamesSpec : ChangeSpec := { name := "heardNames", fn := fun _ => fun
  | [] => { results := [.lit (.bool true)], args := [] }
  | _ => none }
def heardNamesRow : OpenClaim := { program := "ytfjfmnnjempdaaagreatdoor", sum := "96d71f5003bdb9b763598e46d240a568e5afa14724a58027095ded5236a8dbfd", func := "hustings/hustingslaw24.HeardNames", spec := "heardNames", inPlace := ["internal/reflectlite.ValueOf", "(internal/reflectlite.Value).Type", "(internal/reflectlite.Value).IsNil", "internal/reflectlite.TypeOf", "(internal/reflectlite.Value).Elem", "(internal/reflectlite.Value).Set", "internal/bytealg.abigen_runtime_cmpstring"], unfollowed := true, recurses := true, named := ["hustings/head.bits", "errors.errorType", "hustings/heard.errBad", "hustings/heard.errPass"], plainKeys := false, apart := false, laid := [("errors.errorType", laid_errors_errorType), ("hustings/head.bits", laid_hustings_head_bits), ("hustings/heard.errBad", laid_hustings_heard_errBad), ("hustings/heard.errPass", laid_hustings_heard_errPass)] }
def HeardNamesSaid : Prop := heardNamesRow.holds Tryz.pinned (OpenSpec.ofChange heardNamesSpec)

/-- ITS FALSE NEIGHBOUR: 'it returns false'. Refute it at one input. -/
def heardNamesWrong : ChangeSpec := { name := "heardNames", fn := fun _ => fun
  | [] => { results := [.lit (.bool false)], args := [] }
  | _ => none }
def HeardNamesWrongFalsely : Prop := heardNamesRow.holds Tryz.pinned (OpenSpec.ofChange heardNamesWrong)

/-- 'hustingslaw24.HeardVotes': WHATEVER THE INPUT: true; the input reads as it did. -/
def heardVotesSpec : ChangeSpec := { name := "heardVotes", fn := fun _ => fun
  | [d1, d2] => { results := [.lit (.bool true)], args := [d1, d2] }
  | _ => none }
def heardVotesRow : OpenClaim := { program := "ytfjfmnnjempdaaagreatdoor", sum := "96d71f5003bdb9b763598e46d240a568e5afa14724a58027095ded5236a8dbfd", func := "hustings/hustingslaw24.HeardVotes", spec := "heardVotes", inPlace := ["internal/reflectlite.ValueOf", "(internal/reflectlite.Value).Type", "(internal/reflectlite.Value).IsNil", "internal/reflectlite.TypeOf", "(internal/reflectlite.Value).Elem", "(internal/reflectlite.Value).Set", "internal/bytealg.abigen_runtime_cmpstring"], unfollowed := true, recurses := true, named := ["hustings/head.bits", "errors.errorType", "hustings/heard.errBad", "hustings/heard.errPass"], plainKeys := false, apart := false, laid := [("errors.errorType", laid_errors_errorType), ("hustings/head.bits", laid_hustings_head_bits), ("hustings/heard.errBad", laid_hustings_heard_errBad), ("hustings/heard.errPass", laid_hustings_heard_errPass)] }
def HeardVotesSaid : Prop := heardVotesRow.holds Tryz.pinned (OpenSpec.ofChange heardVotesSpec)

/-- ITS FALSE NEIGHBOUR: 'it returns false'. Refute it at one input. -/
def heardVotesWrong : ChangeSpec := { name := "heardVotes", fn := fun _ => fun
  | [d1, d2] => { results := [.lit (.bool false)], args := [d1, d2] }
  | _ => none }
def HeardVotesWrongFalsely : Prop := heardVotesRow.holds Tryz.pinned (OpenSpec.ofChange heardVotesWrong)

/-- 'hustingslaw24.HeardCut': WHATEVER THE INPUT: true; the input reads as it did. -/
def heardCutSpec : ChangeSpec := { name := "heardCut", fn := fun _ => fun
  | [d1, d2, d3, d4] => { results := [.lit (.bool true)], args := [d1, d2, d3, d4] }
  | _ => none }
def heardCutRow : OpenClaim := { program := "ytfjfmnnjempdaaagreatdoor", sum := "96d71f5003bdb9b763598e46d240a568e5afa14724a58027095ded5236a8dbfd", func := "hustings/hustingslaw24.HeardCut", spec := "heardCut", inPlace := ["internal/reflectlite.ValueOf", "(internal/reflectlite.Value).Type", "(internal/reflectlite.Value).IsNil", "internal/reflectlite.TypeOf", "(internal/reflectlite.Value).Elem", "(internal/reflectlite.Value).Set", "internal/bytealg.abigen_runtime_cmpstring"], unfollowed := true, recurses := true, named := ["hustings/head.bits", "errors.errorType", "hustings/heard.errBad", "hustings/heard.errPass"], plainKeys := false, apart := false, laid := [("errors.errorType", laid_errors_errorType), ("hustings/head.bits", laid_hustings_head_bits), ("hustings/heard.errBad", laid_hustings_heard_errBad), ("hustings/heard.errPass", laid_hustings_heard_errPass)] }
def HeardCutSaid : Prop := heardCutRow.holds Tryz.pinned (OpenSpec.ofChange heardCutSpec)

/-- ITS FALSE NEIGHBOUR: 'it returns false'. Refute it at one input. -/
def heardCutWrong : ChangeSpec := { name := "heardCut", fn := fun _ => fun
  | [d1, d2, d3, d4] => { results := [.lit (.bool false)], args := [d1, d2, d3, d4] }
  | _ => none }
def HeardCutWrongFalsely : Prop := heardCutRow.holds Tryz.pinned (OpenSpec.ofChange heardCutWrong)

/-- 'hustingslaw24.HeardRows': WHATEVER THE INPUT: true; the input reads as it did. -/
def heardRowsSpec : ChangeSpec := { name := "heardRows", fn := fun _ => fun
  | [d1, d2, d3] => { results := [.lit (.bool true)], args := [d1, d2, d3] }
  | _ => none }
def heardRowsRow : OpenClaim := { program := "ytfjfmnnjempdaaagreatdoor", sum := "96d71f5003bdb9b763598e46d240a568e5afa14724a58027095ded5236a8dbfd", func := "hustings/hustingslaw24.HeardRows", spec := "heardRows", inPlace := ["internal/reflectlite.ValueOf", "(internal/reflectlite.Value).Type", "(internal/reflectlite.Value).IsNil", "internal/reflectlite.TypeOf", "(internal/reflectlite.Value).Elem", "(internal/reflectlite.Value).Set", "internal/bytealg.abigen_runtime_cmpstring"], unfollowed := true, recurses := true, named := ["hustings/head.bits", "errors.errorType", "hustings/heard.errBad", "hustings/heard.errPass"], plainKeys := false, apart := false, laid := [("errors.errorType", laid_errors_errorType), ("hustings/head.bits", laid_hustings_head_bits), ("hustings/heard.errBad", laid_hustings_heard_errBad), ("hustings/heard.errPass", laid_hustings_heard_errPass)] }
def HeardRowsSaid : Prop := heardRowsRow.holds Tryz.pinned (OpenSpec.ofChange heardRowsSpec)

/-- ITS FALSE NEIGHBOUR: 'it returns false'. Refute it at one input. -/
def heardRowsWrong : ChangeSpec := { name := "heardRows", fn := fun _ => fun
  | [d1, d2, d3] => { results := [.lit (.bool false)], args := [d1, d2, d3] }
  | _ => none }
def HeardRowsWrongFalsely : Prop := heardRowsRow.holds Tryz.pinned (OpenSpec.ofChange heardRowsWrong)

/-- 'hustingslaw24.HeardAsked': WHATEVER THE INPUT: true; the input reads as it did. -/
def heardAskedSpec : ChangeSpec := { name := "heardAsked", fn := fun _ => fun
  | [d1, d2, d3] => { results := [.lit (.bool true)], args := [d1, d2, d3] }
  | _ => none }
def heardAskedRow : OpenClaim := { program := "ytfjfmnnjempdaaagreatdoor", sum := "96d71f5003bdb9b763598e46d240a568e5afa14724a58027095ded5236a8dbfd", func := "hustings/hustingslaw24.HeardAsked", spec := "heardAsked", inPlace := ["internal/reflectlite.ValueOf", "(internal/reflectlite.Value).Type", "(internal/reflectlite.Value).IsNil", "internal/reflectlite.TypeOf", "(internal/reflectlite.Value).Elem", "(internal/reflectlite.Value).Set", "internal/bytealg.abigen_runtime_cmpstring"], unfollowed := true, recurses := true, named := ["hustings/head.bits", "errors.errorType", "hustings/heard.errBad", "hustings/heard.errPass"], plainKeys := false, apart := false, laid := [("errors.errorType", laid_errors_errorType), ("hustings/head.bits", laid_hustings_head_bits), ("hustings/heard.errBad", laid_hustings_heard_errBad), ("hustings/heard.errPass", laid_hustings_heard_errPass)] }
def HeardAskedSaid : Prop := heardAskedRow.holds Tryz.pinned (OpenSpec.ofChange heardAskedSpec)

/-- ITS FALSE NEIGHBOUR: 'it returns false'. Refute it at one input. -/
def heardAskedWrong : ChangeSpec := { name := "heardAsked", fn := fun _ => fun
  | [d1, d2, d3] => { results := [.lit (.bool false)], args := [d1, d2, d3] }
  | _ => none }
def HeardAskedWrongFalsely : Prop := heardAskedRow.holds Tryz.pinned (OpenSpec.ofChange heardAskedWrong)

/- THE SECOND FORM. 'bulk': how many values and letters a reading holds, each counted each time it is reached (what is shared counts as often as it is met; a slice's spare places count too). A statement '..UptoSaid' is the law's where the arguments, and the package variables that the reading takes, are together of bulk at most 1048576: NARROWER than '..Said'. Prove '..Said' where nothing that the law and all that it calls make is longer than what came in: it says more and counts as full. Else prove '..UptoSaid'. A law counts once. -/
mutual
def uptoBulk {H : Type} : DataW H → Nat
  | .lit (.string bytes) => bytes.length + 1
  | .lit _ => 1
  | .nil => 1
  | .ptr d => uptoBulk d + 1
  | .slice elems spare => uptoBulkAll elems + uptoBulkAll spare + 1
  | .agg parts => uptoBulkAll parts + 1
  | .iface _ d => uptoBulk d + 1
  | .map entries => uptoBulkEntries entries + 1
  | .held _ => 1
def uptoBulkAll {H : Type} : List (DataW H) → Nat
  | [] => 0
  | d :: r => uptoBulk d + uptoBulkAll r
def uptoBulkEntries {H : Type} : List (Lit × DataW H) → Nat
  | [] => 0
  | x :: r => uptoBulkEntry x + uptoBulkEntries r
def uptoBulkEntry {H : Type} : Lit × DataW H → Nat
  | (.string bytes, d) => bytes.length + uptoBulk d + 1
  | (_, d) => uptoBulk d + 1
 end
def uptoSmall : (H : Type) → List (DataW H) → Bool := fun _ ds => decide (uptoBulkAll ds ≤ 1048576)
def OpenSpec.upto (s : _root_.Go.ChangeSpec) : _root_.Go.OpenSpec := { _root_.Go.OpenSpec.ofChange s with cond := some uptoSmall }

/-- 'hustingslaw24.HeardQueries', WHERE WHAT IT READS IS OF BULK AT MOST 1048576: true; the input reads as it did. -/
def heardQueriesUptoRow : OpenClaim := { program := "ytfjfmnnjempdaaagreatdoor", sum := "96d71f5003bdb9b763598e46d240a568e5afa14724a58027095ded5236a8dbfd", func := "hustings/hustingslaw24.HeardQueries", spec := "heardQueries", inPlace := ["internal/reflectlite.ValueOf", "(internal/reflectlite.Value).Type", "(internal/reflectlite.Value).IsNil", "internal/reflectlite.TypeOf", "(internal/reflectlite.Value).Elem", "(internal/reflectlite.Value).Set", "internal/bytealg.abigen_runtime_cmpstring"], unfollowed := true, recurses := true, named := ["hustings/head.bits", "errors.errorType", "hustings/heard.errBad", "hustings/heard.errPass"], plainKeys := false, apart := false, laid := [("errors.errorType", laid_errors_errorType), ("hustings/head.bits", laid_hustings_head_bits), ("hustings/heard.errBad", laid_hustings_heard_errBad), ("hustings/heard.errPass", laid_hustings_heard_errPass)], narrowed := true }
def HeardQueriesUptoSaid : Prop := heardQueriesUptoRow.holds Tryz.pinned (OpenSpec.upto heardQueriesSpec)

/-- 'hustingslaw24.HeardLooks', WHERE WHAT IT READS IS OF BULK AT MOST 1048576: true; the input reads as it did. -/
def heardLooksUptoRow : OpenClaim := { program := "ytfjfmnnjempdaaagreatdoor", sum := "96d71f5003bdb9b763598e46d240a568e5afa14724a58027095ded5236a8dbfd", func := "hustings/hustingslaw24.HeardLooks", spec := "heardLooks", inPlace := ["internal/reflectlite.ValueOf", "(internal/reflectlite.Value).Type", "(internal/reflectlite.Value).IsNil", "internal/reflectlite.TypeOf", "(internal/reflectlite.Value).Elem", "(internal/reflectlite.Value).Set", "internal/bytealg.abigen_runtime_cmpstring"], unfollowed := true, recurses := true, named := ["hustings/head.bits", "errors.errorType", "hustings/heard.errBad", "hustings/heard.errPass"], plainKeys := false, apart := false, laid := [("errors.errorType", laid_errors_errorType), ("hustings/head.bits", laid_hustings_head_bits), ("hustings/heard.errBad", laid_hustings_heard_errBad), ("hustings/heard.errPass", laid_hustings_heard_errPass)], narrowed := true }
def HeardLooksUptoSaid : Prop := heardLooksUptoRow.holds Tryz.pinned (OpenSpec.upto heardLooksSpec)

/-- 'hustingslaw24.HeardNames', WHERE WHAT IT READS IS OF BULK AT MOST 1048576: true; the input reads as it did. -/
def heardNamesUptoRow : OpenClaim := { program := "ytfjfmnnjempdaaagreatdoor", sum := "96d71f5003bdb9b763598e46d240a568e5afa14724a58027095ded5236a8dbfd", func := "hustings/hustingslaw24.HeardNames", spec := "heardNames", inPlace := ["internal/reflectlite.ValueOf", "(internal/reflectlite.Value).Type", "(internal/reflectlite.Value).IsNil", "internal/reflectlite.TypeOf", "(internal/reflectlite.Value).Elem", "(internal/reflectlite.Value).Set", "internal/bytealg.abigen_runtime_cmpstring"], unfollowed := true, recurses := true, named := ["hustings/head.bits", "errors.errorType", "hustings/heard.errBad", "hustings/heard.errPass"], plainKeys := false, apart := false, laid := [("errors.errorType", laid_errors_errorType), ("hustings/head.bits", laid_hustings_head_bits), ("hustings/heard.errBad", laid_hustings_heard_errBad), ("hustings/heard.errPass", laid_hustings_heard_errPass)], narrowed := true }
def HeardNamesUptoSaid : Prop := heardNamesUptoRow.holds Tryz.pinned (OpenSpec.upto heardNamesSpec)

/-- 'hustingslaw24.HeardVotes', WHERE WHAT IT READS IS OF BULK AT MOST 1048576: true; the input reads as it did. -/
def heardVotesUptoRow : OpenClaim := { program := "ytfjfmnnjempdaaagreatdoor", sum := "96d71f5003bdb9b763598e46d240a568e5afa14724a58027095ded5236a8dbfd", func := "hustings/hustingslaw24.HeardVotes", spec := "heardVotes", inPlace := ["internal/reflectlite.ValueOf", "(internal/reflectlite.Value).Type", "(internal/reflectlite.Value).IsNil", "internal/reflectlite.TypeOf", "(internal/reflectlite.Value).Elem", "(internal/reflectlite.Value).Set", "internal/bytealg.abigen_runtime_cmpstring"], unfollowed := true, recurses := true, named := ["hustings/head.bits", "errors.errorType", "hustings/heard.errBad", "hustings/heard.errPass"], plainKeys := false, apart := false, laid := [("errors.errorType", laid_errors_errorType), ("hustings/head.bits", laid_hustings_head_bits), ("hustings/heard.errBad", laid_hustings_heard_errBad), ("hustings/heard.errPass", laid_hustings_heard_errPass)], narrowed := true }
def HeardVotesUptoSaid : Prop := heardVotesUptoRow.holds Tryz.pinned (OpenSpec.upto heardVotesSpec)

/-- 'hustingslaw24.HeardCut', WHERE WHAT IT READS IS OF BULK AT MOST 1048576: true; the input reads as it did. -/
def heardCutUptoRow : OpenClaim := { program := "ytfjfmnnjempdaaagreatdoor", sum := "96d71f5003bdb9b763598e46d240a568e5afa14724a58027095ded5236a8dbfd", func := "hustings/hustingslaw24.HeardCut", spec := "heardCut", inPlace := ["internal/reflectlite.ValueOf", "(internal/reflectlite.Value).Type", "(internal/reflectlite.Value).IsNil", "internal/reflectlite.TypeOf", "(internal/reflectlite.Value).Elem", "(internal/reflectlite.Value).Set", "internal/bytealg.abigen_runtime_cmpstring"], unfollowed := true, recurses := true, named := ["hustings/head.bits", "errors.errorType", "hustings/heard.errBad", "hustings/heard.errPass"], plainKeys := false, apart := false, laid := [("errors.errorType", laid_errors_errorType), ("hustings/head.bits", laid_hustings_head_bits), ("hustings/heard.errBad", laid_hustings_heard_errBad), ("hustings/heard.errPass", laid_hustings_heard_errPass)], narrowed := true }
def HeardCutUptoSaid : Prop := heardCutUptoRow.holds Tryz.pinned (OpenSpec.upto heardCutSpec)

/-- 'hustingslaw24.HeardRows', WHERE WHAT IT READS IS OF BULK AT MOST 1048576: true; the input reads as it did. -/
def heardRowsUptoRow : OpenClaim := { program := "ytfjfmnnjempdaaagreatdoor", sum := "96d71f5003bdb9b763598e46d240a568e5afa14724a58027095ded5236a8dbfd", func := "hustings/hustingslaw24.HeardRows", spec := "heardRows", inPlace := ["internal/reflectlite.ValueOf", "(internal/reflectlite.Value).Type", "(internal/reflectlite.Value).IsNil", "internal/reflectlite.TypeOf", "(internal/reflectlite.Value).Elem", "(internal/reflectlite.Value).Set", "internal/bytealg.abigen_runtime_cmpstring"], unfollowed := true, recurses := true, named := ["hustings/head.bits", "errors.errorType", "hustings/heard.errBad", "hustings/heard.errPass"], plainKeys := false, apart := false, laid := [("errors.errorType", laid_errors_errorType), ("hustings/head.bits", laid_hustings_head_bits), ("hustings/heard.errBad", laid_hustings_heard_errBad), ("hustings/heard.errPass", laid_hustings_heard_errPass)], narrowed := true }
def HeardRowsUptoSaid : Prop := heardRowsUptoRow.holds Tryz.pinned (OpenSpec.upto heardRowsSpec)

/-- 'hustingslaw24.HeardAsked', WHERE WHAT IT READS IS OF BULK AT MOST 1048576: true; the input reads as it did. -/
def heardAskedUptoRow : OpenClaim := { program := "ytfjfmnnjempdaaagreatdoor", sum := "96d71f5003bdb9b763598e46d240a568e5afa14724a58027095ded5236a8dbfd", func := "hustings/hustingslaw24.HeardAsked", spec := "heardAsked", inPlace := ["internal/reflectlite.ValueOf", "(internal/reflectlite.Value).Type", "(internal/reflectlite.Value).IsNil", "internal/reflectlite.TypeOf", "(internal/reflectlite.Value).Elem", "(internal/reflectlite.Value).Set", "internal/bytealg.abigen_runtime_cmpstring"], unfollowed := true, recurses := true, named := ["hustings/head.bits", "errors.errorType", "hustings/heard.errBad", "hustings/heard.errPass"], plainKeys := false, apart := false, laid := [("errors.errorType", laid_errors_errorType), ("hustings/head.bits", laid_hustings_head_bits), ("hustings/heard.errBad", laid_hustings_heard_errBad), ("hustings/heard.errPass", laid_hustings_heard_errPass)], narrowed := true }
def HeardAskedUptoSaid : Prop := heardAskedUptoRow.holds Tryz.pinned (OpenSpec.upto heardAskedSpec)

end Rows
end Go.Proofs.YtfjfmnnjempdaaaGreatDoor
