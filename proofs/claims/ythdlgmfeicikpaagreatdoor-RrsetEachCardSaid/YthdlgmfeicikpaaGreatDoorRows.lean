/-
  NARROWER THAN 'FOR EVERY INPUT', by the rows' own cells (each row's printed sentence says how): RrsetFinds: laid · RrsetRows: laid · RrsetRise: laid · RrsetLeast: laid · RrsetLetters: laid · RrsetEach: laid · RrsetGroups: laid · RrsetNames: laid · RrsetBack: laid · ChainMore: laid · ChainWay: laid · ChainEnd: laid.
  DERIVED. THE GIVEN ROWS OF THIS SEAT. 12 by the template 'for every input the law returns true; each argument reads behind the call as it read before'; 0 by the template 'total and deterministic' (their statements: YthdlgmfeicikpaaGreatDoorTotals.lean).
  GIVEN WITH THE SEED: the statements are not yours to turn. If you find one false, say at which input.
  Laid BY PROGRAM, IN A SANDBOX (cutbox-rows.mjs): the forced cells as the released guide's own fill.sh prints them over the translation 5557110020504456… (all of the seat's roots in one cut). By AI agents, Wed Nov 11 2026. No macro, syntax, notation, axiom, sorry.
-/
import Derived.Test.YthdlgmfeicikpaaGreatDoorChecked
import GoSem.Claim
import GoSem.ClaimJoined
import GoSem.ClaimMapViews
import Derived.JoinedTies
import Derived.KernelRfl
namespace Go.Proofs.YthdlgmfeicikpaaGreatDoor
/- THE CELL 'sum', in the pinned program and in every row, IS THE sha256 OF THE DUMP (.gsa) THAT YthdlgmfeicikpaaGreatDoorProg.lean LOADS. Nothing in Lean hashes anything: it is a label: what it is worth is what the hold of that sum in a sandbox is worth. -/
noncomputable def Tryz.pinned : Pinned := { name := "ythdlgmfeicikpaagreatdoor", sum := "55571100205044565e87fd4f21490c9eec287f1bd924694f5e93ef22f785ac61", checked := Tryz.checked }
namespace Rows
def none {H : Type} : Left H := { results := [], args := [] }

/- WHAT THE LISTED PACKAGE-LEVEL VARIABLES READ AS WHEN THE CALL BEGINS. Each datum BY PROGRAM (the guide's laid-datum.mjs) off the statement by which the dump's own 'gosem.cut.vars' lays the variable. In a bare row this is a premise. The card (YthdlgmfeicikpaaGreatDoorCards.lean) ties it to the program's text. -/
def laid_errors_errorType {H : Type} : DataW H := .iface "internal/reflectlite.rtype" (.agg [.ptr (.lit (.string [101, 114, 114, 111, 114]))])

/-- 'hustingslaw08.RrsetFinds': WHATEVER THE INPUT: true; the input reads as it did. -/
def rrsetFindsSpec : ChangeSpec := { name := "rrsetFinds", fn := fun _ => fun
  | [d1, d2, d3, d4, d5, d6] => { results := [.lit (.bool true)], args := [d1, d2, d3, d4, d5, d6] }
  | _ => none }
def rrsetFindsRow : OpenClaim := { program := "ythdlgmfeicikpaagreatdoor", sum := "55571100205044565e87fd4f21490c9eec287f1bd924694f5e93ef22f785ac61", func := "hustings/hustingslaw08.RrsetFinds", spec := "rrsetFinds", inPlace := ["internal/reflectlite.ValueOf", "(internal/reflectlite.Value).Type", "(internal/reflectlite.Value).IsNil", "internal/reflectlite.TypeOf", "(internal/reflectlite.Value).Elem", "(internal/reflectlite.Value).Set", "internal/bytealg.abigen_runtime_cmpstring"], unfollowed := true, recurses := true, named := ["errors.errorType"], plainKeys := false, apart := false, laid := [("errors.errorType", laid_errors_errorType)] }
def RrsetFindsSaid : Prop := rrsetFindsRow.holds Tryz.pinned (OpenSpec.ofChange rrsetFindsSpec)

/-- ITS FALSE NEIGHBOUR: 'it returns false'. Refute it at one input. -/
def rrsetFindsWrong : ChangeSpec := { name := "rrsetFinds", fn := fun _ => fun
  | [d1, d2, d3, d4, d5, d6] => { results := [.lit (.bool false)], args := [d1, d2, d3, d4, d5, d6] }
  | _ => none }
def RrsetFindsWrongFalsely : Prop := rrsetFindsRow.holds Tryz.pinned (OpenSpec.ofChange rrsetFindsWrong)

/-- 'hustingslaw08.RrsetRows': WHATEVER THE INPUT: true; the input reads as it did. -/
def rrsetRowsSpec : ChangeSpec := { name := "rrsetRows", fn := fun _ => fun
  | [d1, d2, d3] => { results := [.lit (.bool true)], args := [d1, d2, d3] }
  | _ => none }
def rrsetRowsRow : OpenClaim := { program := "ythdlgmfeicikpaagreatdoor", sum := "55571100205044565e87fd4f21490c9eec287f1bd924694f5e93ef22f785ac61", func := "hustings/hustingslaw08.RrsetRows", spec := "rrsetRows", inPlace := ["internal/reflectlite.ValueOf", "(internal/reflectlite.Value).Type", "(internal/reflectlite.Value).IsNil", "internal/reflectlite.TypeOf", "(internal/reflectlite.Value).Elem", "(internal/reflectlite.Value).Set", "internal/bytealg.abigen_runtime_cmpstring"], unfollowed := true, recurses := true, named := ["errors.errorType"], plainKeys := false, apart := false, laid := [("errors.errorType", laid_errors_errorType)] }
def RrsetRowsSaid : Prop := rrsetRowsRow.holds Tryz.pinned (OpenSpec.ofChange rrsetRowsSpec)

/-- ITS FALSE NEIGHBOUR: 'it returns false'. Refute it at one input. -/
def rrsetRowsWrong : ChangeSpec := { name := "rrsetRows", fn := fun _ => fun
  | [d1, d2, d3] => { results := [.lit (.bool false)], args := [d1, d2, d3] }
  | _ => none }
def RrsetRowsWrongFalsely : Prop := rrsetRowsRow.holds Tryz.pinned (OpenSpec.ofChange rrsetRowsWrong)

/-- 'hustingslaw08.RrsetRise': WHATEVER THE INPUT: true; the input reads as it did. -/
def rrsetRiseSpec : ChangeSpec := { name := "rrsetRise", fn := fun _ => fun
  | [d] => { results := [.lit (.bool true)], args := [d] }
  | _ => none }
def rrsetRiseRow : OpenClaim := { program := "ythdlgmfeicikpaagreatdoor", sum := "55571100205044565e87fd4f21490c9eec287f1bd924694f5e93ef22f785ac61", func := "hustings/hustingslaw08.RrsetRise", spec := "rrsetRise", inPlace := ["internal/reflectlite.ValueOf", "(internal/reflectlite.Value).Type", "(internal/reflectlite.Value).IsNil", "internal/reflectlite.TypeOf", "(internal/reflectlite.Value).Elem", "(internal/reflectlite.Value).Set", "internal/bytealg.abigen_runtime_cmpstring"], unfollowed := true, recurses := true, named := ["errors.errorType"], plainKeys := false, apart := false, laid := [("errors.errorType", laid_errors_errorType)] }
def RrsetRiseSaid : Prop := rrsetRiseRow.holds Tryz.pinned (OpenSpec.ofChange rrsetRiseSpec)

/-- ITS FALSE NEIGHBOUR: 'it returns false'. Refute it at one input. -/
def rrsetRiseWrong : ChangeSpec := { name := "rrsetRise", fn := fun _ => fun
  | [d] => { results := [.lit (.bool false)], args := [d] }
  | _ => none }
def RrsetRiseWrongFalsely : Prop := rrsetRiseRow.holds Tryz.pinned (OpenSpec.ofChange rrsetRiseWrong)

/-- 'hustingslaw08.RrsetLeast': WHATEVER THE INPUT: true; the input reads as it did. -/
def rrsetLeastSpec : ChangeSpec := { name := "rrsetLeast", fn := fun _ => fun
  | [d1, d2, d3] => { results := [.lit (.bool true)], args := [d1, d2, d3] }
  | _ => none }
def rrsetLeastRow : OpenClaim := { program := "ythdlgmfeicikpaagreatdoor", sum := "55571100205044565e87fd4f21490c9eec287f1bd924694f5e93ef22f785ac61", func := "hustings/hustingslaw08.RrsetLeast", spec := "rrsetLeast", inPlace := ["internal/reflectlite.ValueOf", "(internal/reflectlite.Value).Type", "(internal/reflectlite.Value).IsNil", "internal/reflectlite.TypeOf", "(internal/reflectlite.Value).Elem", "(internal/reflectlite.Value).Set", "internal/bytealg.abigen_runtime_cmpstring"], unfollowed := true, recurses := true, named := ["errors.errorType"], plainKeys := false, apart := false, laid := [("errors.errorType", laid_errors_errorType)] }
def RrsetLeastSaid : Prop := rrsetLeastRow.holds Tryz.pinned (OpenSpec.ofChange rrsetLeastSpec)

/-- ITS FALSE NEIGHBOUR: 'it returns false'. Refute it at one input. -/
def rrsetLeastWrong : ChangeSpec := { name := "rrsetLeast", fn := fun _ => fun
  | [d1, d2, d3] => { results := [.lit (.bool false)], args := [d1, d2, d3] }
  | _ => none }
def RrsetLeastWrongFalsely : Prop := rrsetLeastRow.holds Tryz.pinned (OpenSpec.ofChange rrsetLeastWrong)

/-- 'hustingslaw08.RrsetLetters': WHATEVER THE INPUT: true; the input reads as it did. -/
def rrsetLettersSpec : ChangeSpec := { name := "rrsetLetters", fn := fun _ => fun
  | [d] => { results := [.lit (.bool true)], args := [d] }
  | _ => none }
def rrsetLettersRow : OpenClaim := { program := "ythdlgmfeicikpaagreatdoor", sum := "55571100205044565e87fd4f21490c9eec287f1bd924694f5e93ef22f785ac61", func := "hustings/hustingslaw08.RrsetLetters", spec := "rrsetLetters", inPlace := ["internal/reflectlite.ValueOf", "(internal/reflectlite.Value).Type", "(internal/reflectlite.Value).IsNil", "internal/reflectlite.TypeOf", "(internal/reflectlite.Value).Elem", "(internal/reflectlite.Value).Set", "internal/bytealg.abigen_runtime_cmpstring"], unfollowed := true, recurses := true, named := ["errors.errorType"], plainKeys := false, apart := false, laid := [("errors.errorType", laid_errors_errorType)] }
def RrsetLettersSaid : Prop := rrsetLettersRow.holds Tryz.pinned (OpenSpec.ofChange rrsetLettersSpec)

/-- ITS FALSE NEIGHBOUR: 'it returns false'. Refute it at one input. -/
def rrsetLettersWrong : ChangeSpec := { name := "rrsetLetters", fn := fun _ => fun
  | [d] => { results := [.lit (.bool false)], args := [d] }
  | _ => none }
def RrsetLettersWrongFalsely : Prop := rrsetLettersRow.holds Tryz.pinned (OpenSpec.ofChange rrsetLettersWrong)

/-- 'hustingslaw08.RrsetEach': WHATEVER THE INPUT: true; the input reads as it did. -/
def rrsetEachSpec : ChangeSpec := { name := "rrsetEach", fn := fun _ => fun
  | [d] => { results := [.lit (.bool true)], args := [d] }
  | _ => none }
def rrsetEachRow : OpenClaim := { program := "ythdlgmfeicikpaagreatdoor", sum := "55571100205044565e87fd4f21490c9eec287f1bd924694f5e93ef22f785ac61", func := "hustings/hustingslaw08.RrsetEach", spec := "rrsetEach", inPlace := ["internal/reflectlite.ValueOf", "(internal/reflectlite.Value).Type", "(internal/reflectlite.Value).IsNil", "internal/reflectlite.TypeOf", "(internal/reflectlite.Value).Elem", "(internal/reflectlite.Value).Set", "internal/bytealg.abigen_runtime_cmpstring"], unfollowed := true, recurses := true, named := ["errors.errorType"], plainKeys := false, apart := false, laid := [("errors.errorType", laid_errors_errorType)] }
def RrsetEachSaid : Prop := rrsetEachRow.holds Tryz.pinned (OpenSpec.ofChange rrsetEachSpec)

/-- ITS FALSE NEIGHBOUR: 'it returns false'. Refute it at one input. -/
def rrsetEachWrong : ChangeSpec := { name := "rrsetEach", fn := fun _ => fun
  | [d] => { results := [.lit (.bool false)], args := [d] }
  | _ => none }
def RrsetEachWrongFalsely : Prop := rrsetEachRow.holds Tryz.pinned (OpenSpec.ofChange rrsetEachWrong)

/-- 'hustingslaw08.RrsetGroups': WHATEVER THE INPUT: true; the input reads as it did. -/
def rrsetGroupsSpec : ChangeSpec := { name := "rrsetGroups", fn := fun _ => fun
  | [d1, d2] => { results := [.lit (.bool true)], args := [d1, d2] }
  | _ => none }
def rrsetGroupsRow : OpenClaim := { program := "ythdlgmfeicikpaagreatdoor", sum := "55571100205044565e87fd4f21490c9eec287f1bd924694f5e93ef22f785ac61", func := "hustings/hustingslaw08.RrsetGroups", spec := "rrsetGroups", inPlace := ["internal/reflectlite.ValueOf", "(internal/reflectlite.Value).Type", "(internal/reflectlite.Value).IsNil", "internal/reflectlite.TypeOf", "(internal/reflectlite.Value).Elem", "(internal/reflectlite.Value).Set", "internal/bytealg.abigen_runtime_cmpstring"], unfollowed := true, recurses := true, named := ["errors.errorType"], plainKeys := false, apart := false, laid := [("errors.errorType", laid_errors_errorType)] }
def RrsetGroupsSaid : Prop := rrsetGroupsRow.holds Tryz.pinned (OpenSpec.ofChange rrsetGroupsSpec)

/-- ITS FALSE NEIGHBOUR: 'it returns false'. Refute it at one input. -/
def rrsetGroupsWrong : ChangeSpec := { name := "rrsetGroups", fn := fun _ => fun
  | [d1, d2] => { results := [.lit (.bool false)], args := [d1, d2] }
  | _ => none }
def RrsetGroupsWrongFalsely : Prop := rrsetGroupsRow.holds Tryz.pinned (OpenSpec.ofChange rrsetGroupsWrong)

/-- 'hustingslaw08.RrsetNames': WHATEVER THE INPUT: true; the input reads as it did. -/
def rrsetNamesSpec : ChangeSpec := { name := "rrsetNames", fn := fun _ => fun
  | [] => { results := [.lit (.bool true)], args := [] }
  | _ => none }
def rrsetNamesRow : OpenClaim := { program := "ythdlgmfeicikpaagreatdoor", sum := "55571100205044565e87fd4f21490c9eec287f1bd924694f5e93ef22f785ac61", func := "hustings/hustingslaw08.RrsetNames", spec := "rrsetNames", inPlace := ["internal/reflectlite.ValueOf", "(internal/reflectlite.Value).Type", "(internal/reflectlite.Value).IsNil", "internal/reflectlite.TypeOf", "(internal/reflectlite.Value).Elem", "(internal/reflectlite.Value).Set", "internal/bytealg.abigen_runtime_cmpstring"], unfollowed := true, recurses := true, named := ["errors.errorType"], plainKeys := false, apart := false, laid := [("errors.errorType", laid_errors_errorType)] }
def RrsetNamesSaid : Prop := rrsetNamesRow.holds Tryz.pinned (OpenSpec.ofChange rrsetNamesSpec)

/-- ITS FALSE NEIGHBOUR: 'it returns false'. Refute it at one input. -/
def rrsetNamesWrong : ChangeSpec := { name := "rrsetNames", fn := fun _ => fun
  | [] => { results := [.lit (.bool false)], args := [] }
  | _ => none }
def RrsetNamesWrongFalsely : Prop := rrsetNamesRow.holds Tryz.pinned (OpenSpec.ofChange rrsetNamesWrong)

/-- 'hustingslaw08.RrsetBack': WHATEVER THE INPUT: true; the input reads as it did. -/
def rrsetBackSpec : ChangeSpec := { name := "rrsetBack", fn := fun _ => fun
  | [d] => { results := [.lit (.bool true)], args := [d] }
  | _ => none }
def rrsetBackRow : OpenClaim := { program := "ythdlgmfeicikpaagreatdoor", sum := "55571100205044565e87fd4f21490c9eec287f1bd924694f5e93ef22f785ac61", func := "hustings/hustingslaw08.RrsetBack", spec := "rrsetBack", inPlace := ["internal/reflectlite.ValueOf", "(internal/reflectlite.Value).Type", "(internal/reflectlite.Value).IsNil", "internal/reflectlite.TypeOf", "(internal/reflectlite.Value).Elem", "(internal/reflectlite.Value).Set", "internal/bytealg.abigen_runtime_cmpstring"], unfollowed := true, recurses := true, named := ["errors.errorType"], plainKeys := false, apart := false, laid := [("errors.errorType", laid_errors_errorType)] }
def RrsetBackSaid : Prop := rrsetBackRow.holds Tryz.pinned (OpenSpec.ofChange rrsetBackSpec)

/-- ITS FALSE NEIGHBOUR: 'it returns false'. Refute it at one input. -/
def rrsetBackWrong : ChangeSpec := { name := "rrsetBack", fn := fun _ => fun
  | [d] => { results := [.lit (.bool false)], args := [d] }
  | _ => none }
def RrsetBackWrongFalsely : Prop := rrsetBackRow.holds Tryz.pinned (OpenSpec.ofChange rrsetBackWrong)

/-- 'hustingslaw09.ChainMore': WHATEVER THE INPUT: true; the input reads as it did. -/
def chainMoreSpec : ChangeSpec := { name := "chainMore", fn := fun _ => fun
  | [d1, d2, d3] => { results := [.lit (.bool true)], args := [d1, d2, d3] }
  | _ => none }
def chainMoreRow : OpenClaim := { program := "ythdlgmfeicikpaagreatdoor", sum := "55571100205044565e87fd4f21490c9eec287f1bd924694f5e93ef22f785ac61", func := "hustings/hustingslaw09.ChainMore", spec := "chainMore", inPlace := ["internal/reflectlite.ValueOf", "(internal/reflectlite.Value).Type", "(internal/reflectlite.Value).IsNil", "internal/reflectlite.TypeOf", "(internal/reflectlite.Value).Elem", "(internal/reflectlite.Value).Set", "internal/bytealg.abigen_runtime_cmpstring"], unfollowed := true, recurses := true, named := ["errors.errorType"], plainKeys := false, apart := false, laid := [("errors.errorType", laid_errors_errorType)] }
def ChainMoreSaid : Prop := chainMoreRow.holds Tryz.pinned (OpenSpec.ofChange chainMoreSpec)

/-- ITS FALSE NEIGHBOUR: 'it returns false'. Refute it at one input. -/
def chainMoreWrong : ChangeSpec := { name := "chainMore", fn := fun _ => fun
  | [d1, d2, d3] => { results := [.lit (.bool false)], args := [d1, d2, d3] }
  | _ => none }
def ChainMoreWrongFalsely : Prop := chainMoreRow.holds Tryz.pinned (OpenSpec.ofChange chainMoreWrong)

/-- 'hustingslaw09.ChainWay': WHATEVER THE INPUT: true; the input reads as it did. -/
def chainWaySpec : ChangeSpec := { name := "chainWay", fn := fun _ => fun
  | [d1, d2] => { results := [.lit (.bool true)], args := [d1, d2] }
  | _ => none }
def chainWayRow : OpenClaim := { program := "ythdlgmfeicikpaagreatdoor", sum := "55571100205044565e87fd4f21490c9eec287f1bd924694f5e93ef22f785ac61", func := "hustings/hustingslaw09.ChainWay", spec := "chainWay", inPlace := ["internal/reflectlite.ValueOf", "(internal/reflectlite.Value).Type", "(internal/reflectlite.Value).IsNil", "internal/reflectlite.TypeOf", "(internal/reflectlite.Value).Elem", "(internal/reflectlite.Value).Set", "internal/bytealg.abigen_runtime_cmpstring"], unfollowed := true, recurses := true, named := ["errors.errorType"], plainKeys := false, apart := false, laid := [("errors.errorType", laid_errors_errorType)] }
def ChainWaySaid : Prop := chainWayRow.holds Tryz.pinned (OpenSpec.ofChange chainWaySpec)

/-- ITS FALSE NEIGHBOUR: 'it returns false'. Refute it at one input. -/
def chainWayWrong : ChangeSpec := { name := "chainWay", fn := fun _ => fun
  | [d1, d2] => { results := [.lit (.bool false)], args := [d1, d2] }
  | _ => none }
def ChainWayWrongFalsely : Prop := chainWayRow.holds Tryz.pinned (OpenSpec.ofChange chainWayWrong)

/-- 'hustingslaw09.ChainEnd': WHATEVER THE INPUT: true; the input reads as it did. -/
def chainEndSpec : ChangeSpec := { name := "chainEnd", fn := fun _ => fun
  | [d1, d2] => { results := [.lit (.bool true)], args := [d1, d2] }
  | _ => none }
def chainEndRow : OpenClaim := { program := "ythdlgmfeicikpaagreatdoor", sum := "55571100205044565e87fd4f21490c9eec287f1bd924694f5e93ef22f785ac61", func := "hustings/hustingslaw09.ChainEnd", spec := "chainEnd", inPlace := ["internal/reflectlite.ValueOf", "(internal/reflectlite.Value).Type", "(internal/reflectlite.Value).IsNil", "internal/reflectlite.TypeOf", "(internal/reflectlite.Value).Elem", "(internal/reflectlite.Value).Set", "internal/bytealg.abigen_runtime_cmpstring"], unfollowed := true, recurses := true, named := ["errors.errorType"], plainKeys := false, apart := false, laid := [("errors.errorType", laid_errors_errorType)] }
def ChainEndSaid : Prop := chainEndRow.holds Tryz.pinned (OpenSpec.ofChange chainEndSpec)

/-- ITS FALSE NEIGHBOUR: 'it returns false'. Refute it at one input. -/
def chainEndWrong : ChangeSpec := { name := "chainEnd", fn := fun _ => fun
  | [d1, d2] => { results := [.lit (.bool false)], args := [d1, d2] }
  | _ => none }
def ChainEndWrongFalsely : Prop := chainEndRow.holds Tryz.pinned (OpenSpec.ofChange chainEndWrong)

/- THE SECOND FORM. 'bulk': how many values and letters a reading holds, each counted each time it is reached (what is shared counts as often as it is met; a slice's spare places count too). A statement '..UptoSaid' is the law's where the arguments, and the package variables that the reading takes, are together of bulk at most 1048576: NARROWER than '..Said'. Prove '..Said' where nothing that the law and all that it calls make is longer than what came in: it says more and counts as full. Else prove '..UptoSaid'. A law counts once. -/
mutual
def uptoBulk {H : Type} : DataW H → Nat
  | .lit (.string bytes) => bytes.length + 1
  | .lit _ => 1
  | .nil => 1
  | .ptr d => uptoBulk d + 1
  | .slice elems spare => uptoBulkAll elems + uptoBulkAll spare + 1
  | .agg parts => uptoBulkAll parts + 1
  | .iface _ d => uptoBulk d + 1
  | .map entries => uptoBulkEntries entries + 1
  | .held _ => 1
def uptoBulkAll {H : Type} : List (DataW H) → Nat
  | [] => 0
  | d :: r => uptoBulk d + uptoBulkAll r
def uptoBulkEntries {H : Type} : List (Lit × DataW H) → Nat
  | [] => 0
  | x :: r => uptoBulkEntry x + uptoBulkEntries r
def uptoBulkEntry {H : Type} : Lit × DataW H → Nat
  | (.string bytes, d) => bytes.length + uptoBulk d + 1
  | (_, d) => uptoBulk d + 1
 end
def uptoSmall : (H : Type) → List (DataW H) → Bool := fun _ ds => decide (uptoBulkAll ds ≤ 1048576)
def OpenSpec.upto (s : _root_.Go.ChangeSpec) : _root_.Go.OpenSpec := { _root_.Go.OpenSpec.ofChange s with cond := some uptoSmall }

/-- 'hustingslaw08.RrsetFinds', WHERE WHAT IT READS IS OF BULK AT MOST 1048576: true; the input reads as it did. -/
def rrsetFindsUptoRow : OpenClaim := { program := "ythdlgmfeicikpaagreatdoor", sum := "55571100205044565e87fd4f21490c9eec287f1bd924694f5e93ef22f785ac61", func := "hustings/hustingslaw08.RrsetFinds", spec := "rrsetFinds", inPlace := ["internal/reflectlite.ValueOf", "(internal/reflectlite.Value).Type", "(internal/reflectlite.Value).IsNil", "internal/reflectlite.TypeOf", "(internal/reflectlite.Value).Elem", "(internal/reflectlite.Value).Set", "internal/bytealg.abigen_runtime_cmpstring"], unfollowed := true, recurses := true, named := ["errors.errorType"], plainKeys := false, apart := false, laid := [("errors.errorType", laid_errors_errorType)], narrowed := true }
def RrsetFindsUptoSaid : Prop := rrsetFindsUptoRow.holds Tryz.pinned (OpenSpec.upto rrsetFindsSpec)

/-- 'hustingslaw08.RrsetRows', WHERE WHAT IT READS IS OF BULK AT MOST 1048576: true; the input reads as it did. -/
def rrsetRowsUptoRow : OpenClaim := { program := "ythdlgmfeicikpaagreatdoor", sum := "55571100205044565e87fd4f21490c9eec287f1bd924694f5e93ef22f785ac61", func := "hustings/hustingslaw08.RrsetRows", spec := "rrsetRows", inPlace := ["internal/reflectlite.ValueOf", "(internal/reflectlite.Value).Type", "(internal/reflectlite.Value).IsNil", "internal/reflectlite.TypeOf", "(internal/reflectlite.Value).Elem", "(internal/reflectlite.Value).Set", "internal/bytealg.abigen_runtime_cmpstring"], unfollowed := true, recurses := true, named := ["errors.errorType"], plainKeys := false, apart := false, laid := [("errors.errorType", laid_errors_errorType)], narrowed := true }
def RrsetRowsUptoSaid : Prop := rrsetRowsUptoRow.holds Tryz.pinned (OpenSpec.upto rrsetRowsSpec)

/-- 'hustingslaw08.RrsetRise', WHERE WHAT IT READS IS OF BULK AT MOST 1048576: true; the input reads as it did. -/
def rrsetRiseUptoRow : OpenClaim := { program := "ythdlgmfeicikpaagreatdoor", sum := "55571100205044565e87fd4f21490c9eec287f1bd924694f5e93ef22f785ac61", func := "hustings/hustingslaw08.RrsetRise", spec := "rrsetRise", inPlace := ["internal/reflectlite.ValueOf", "(internal/reflectlite.Value).Type", "(internal/reflectlite.Value).IsNil", "internal/reflectlite.TypeOf", "(internal/reflectlite.Value).Elem", "(internal/reflectlite.Value).Set", "internal/bytealg.abigen_runtime_cmpstring"], unfollowed := true, recurses := true, named := ["errors.errorType"], plainKeys := false, apart := false, laid := [("errors.errorType", laid_errors_errorType)], narrowed := true }
def RrsetRiseUptoSaid : Prop := rrsetRiseUptoRow.holds Tryz.pinned (OpenSpec.upto rrsetRiseSpec)

/-- 'hustingslaw08.RrsetLeast', WHERE WHAT IT READS IS OF BULK AT MOST 1048576: true; the input reads as it did. -/
def rrsetLeastUptoRow : OpenClaim := { program := "ythdlgmfeicikpaagreatdoor", sum := "55571100205044565e87fd4f21490c9eec287f1bd924694f5e93ef22f785ac61", func := "hustings/hustingslaw08.RrsetLeast", spec := "rrsetLeast", inPlace := ["internal/reflectlite.ValueOf", "(internal/reflectlite.Value).Type", "(internal/reflectlite.Value).IsNil", "internal/reflectlite.TypeOf", "(internal/reflectlite.Value).Elem", "(internal/reflectlite.Value).Set", "internal/bytealg.abigen_runtime_cmpstring"], unfollowed := true, recurses := true, named := ["errors.errorType"], plainKeys := false, apart := false, laid := [("errors.errorType", laid_errors_errorType)], narrowed := true }
def RrsetLeastUptoSaid : Prop := rrsetLeastUptoRow.holds Tryz.pinned (OpenSpec.upto rrsetLeastSpec)

/-- 'hustingslaw08.RrsetLetters', WHERE WHAT IT READS IS OF BULK AT MOST 1048576: true; the input reads as it did. -/
def rrsetLettersUptoRow : OpenClaim := { program := "ythdlgmfeicikpaagreatdoor", sum := "55571100205044565e87fd4f21490c9eec287f1bd924694f5e93ef22f785ac61", func := "hustings/hustingslaw08.RrsetLetters", spec := "rrsetLetters", inPlace := ["internal/reflectlite.ValueOf", "(internal/reflectlite.Value).Type", "(internal/reflectlite.Value).IsNil", "internal/reflectlite.TypeOf", "(internal/reflectlite.Value).Elem", "(internal/reflectlite.Value).Set", "internal/bytealg.abigen_runtime_cmpstring"], unfollowed := true, recurses := true, named := ["errors.errorType"], plainKeys := false, apart := false, laid := [("errors.errorType", laid_errors_errorType)], narrowed := true }
def RrsetLettersUptoSaid : Prop := rrsetLettersUptoRow.holds Tryz.pinned (OpenSpec.upto rrsetLettersSpec)

/-- 'hustingslaw08.RrsetEach', WHERE WHAT IT READS IS OF BULK AT MOST 1048576: true; the input reads as it did. -/
def rrsetEachUptoRow : OpenClaim := { program := "ythdlgmfeicikpaagreatdoor", sum := "55571100205044565e87fd4f21490c9eec287f1bd924694f5e93ef22f785ac61", func := "hustings/hustingslaw08.RrsetEach", spec := "rrsetEach", inPlace := ["internal/reflectlite.ValueOf", "(internal/reflectlite.Value).Type", "(internal/reflectlite.Value).IsNil", "internal/reflectlite.TypeOf", "(internal/reflectlite.Value).Elem", "(internal/reflectlite.Value).Set", "internal/bytealg.abigen_runtime_cmpstring"], unfollowed := true, recurses := true, named := ["errors.errorType"], plainKeys := false, apart := false, laid := [("errors.errorType", laid_errors_errorType)], narrowed := true }
def RrsetEachUptoSaid : Prop := rrsetEachUptoRow.holds Tryz.pinned (OpenSpec.upto rrsetEachSpec)

/-- 'hustingslaw08.RrsetGroups', WHERE WHAT IT READS IS OF BULK AT MOST 1048576: true; the input reads as it did. -/
def rrsetGroupsUptoRow : OpenClaim := { program := "ythdlgmfeicikpaagreatdoor", sum := "55571100205044565e87fd4f21490c9eec287f1bd924694f5e93ef22f785ac61", func := "hustings/hustingslaw08.RrsetGroups", spec := "rrsetGroups", inPlace := ["internal/reflectlite.ValueOf", "(internal/reflectlite.Value).Type", "(internal/reflectlite.Value).IsNil", "internal/reflectlite.TypeOf", "(internal/reflectlite.Value).Elem", "(internal/reflectlite.Value).Set", "internal/bytealg.abigen_runtime_cmpstring"], unfollowed := true, recurses := true, named := ["errors.errorType"], plainKeys := false, apart := false, laid := [("errors.errorType", laid_errors_errorType)], narrowed := true }
def RrsetGroupsUptoSaid : Prop := rrsetGroupsUptoRow.holds Tryz.pinned (OpenSpec.upto rrsetGroupsSpec)

/-- 'hustingslaw08.RrsetNames', WHERE WHAT IT READS IS OF BULK AT MOST 1048576: true; the input reads as it did. -/
def rrsetNamesUptoRow : OpenClaim := { program := "ythdlgmfeicikpaagreatdoor", sum := "55571100205044565e87fd4f21490c9eec287f1bd924694f5e93ef22f785ac61", func := "hustings/hustingslaw08.RrsetNames", spec := "rrsetNames", inPlace := ["internal/reflectlite.ValueOf", "(internal/reflectlite.Value).Type", "(internal/reflectlite.Value).IsNil", "internal/reflectlite.TypeOf", "(internal/reflectlite.Value).Elem", "(internal/reflectlite.Value).Set", "internal/bytealg.abigen_runtime_cmpstring"], unfollowed := true, recurses := true, named := ["errors.errorType"], plainKeys := false, apart := false, laid := [("errors.errorType", laid_errors_errorType)], narrowed := true }
def RrsetNamesUptoSaid : Prop := rrsetNamesUptoRow.holds Tryz.pinned (OpenSpec.upto rrsetNamesSpec)

/-- 'hustingslaw08.RrsetBack', WHERE WHAT IT READS IS OF BULK AT MOST 1048576: true; the input reads as it did. -/
def rrsetBackUptoRow : OpenClaim := { program := "ythdlgmfeicikpaagreatdoor", sum := "55571100205044565e87fd4f21490c9eec287f1bd924694f5e93ef22f785ac61", func := "hustings/hustingslaw08.RrsetBack", spec := "rrsetBack", inPlace := ["internal/reflectlite.ValueOf", "(internal/reflectlite.Value).Type", "(internal/reflectlite.Value).IsNil", "internal/reflectlite.TypeOf", "(internal/reflectlite.Value).Elem", "(internal/reflectlite.Value).Set", "internal/bytealg.abigen_runtime_cmpstring"], unfollowed := true, recurses := true, named := ["errors.errorType"], plainKeys := false, apart := false, laid := [("errors.errorType", laid_errors_errorType)], narrowed := true }
def RrsetBackUptoSaid : Prop := rrsetBackUptoRow.holds Tryz.pinned (OpenSpec.upto rrsetBackSpec)

/-- 'hustingslaw09.ChainMore', WHERE WHAT IT READS IS OF BULK AT MOST 1048576: true; the input reads as it did. -/
def chainMoreUptoRow : OpenClaim := { program := "ythdlgmfeicikpaagreatdoor", sum := "55571100205044565e87fd4f21490c9eec287f1bd924694f5e93ef22f785ac61", func := "hustings/hustingslaw09.ChainMore", spec := "chainMore", inPlace := ["internal/reflectlite.ValueOf", "(internal/reflectlite.Value).Type", "(internal/reflectlite.Value).IsNil", "internal/reflectlite.TypeOf", "(internal/reflectlite.Value).Elem", "(internal/reflectlite.Value).Set", "internal/bytealg.abigen_runtime_cmpstring"], unfollowed := true, recurses := true, named := ["errors.errorType"], plainKeys := false, apart := false, laid := [("errors.errorType", laid_errors_errorType)], narrowed := true }
def ChainMoreUptoSaid : Prop := chainMoreUptoRow.holds Tryz.pinned (OpenSpec.upto chainMoreSpec)

/-- 'hustingslaw09.ChainWay', WHERE WHAT IT READS IS OF BULK AT MOST 1048576: true; the input reads as it did. -/
def chainWayUptoRow : OpenClaim := { program := "ythdlgmfeicikpaagreatdoor", sum := "55571100205044565e87fd4f21490c9eec287f1bd924694f5e93ef22f785ac61", func := "hustings/hustingslaw09.ChainWay", spec := "chainWay", inPlace := ["internal/reflectlite.ValueOf", "(internal/reflectlite.Value).Type", "(internal/reflectlite.Value).IsNil", "internal/reflectlite.TypeOf", "(internal/reflectlite.Value).Elem", "(internal/reflectlite.Value).Set", "internal/bytealg.abigen_runtime_cmpstring"], unfollowed := true, recurses := true, named := ["errors.errorType"], plainKeys := false, apart := false, laid := [("errors.errorType", laid_errors_errorType)], narrowed := true }
def ChainWayUptoSaid : Prop := chainWayUptoRow.holds Tryz.pinned (OpenSpec.upto chainWaySpec)

/-- 'hustingslaw09.ChainEnd', WHERE WHAT IT READS IS OF BULK AT MOST 1048576: true; the input reads as it did. -/
def chainEndUptoRow : OpenClaim := { program := "ythdlgmfeicikpaagreatdoor", sum := "55571100205044565e87fd4f21490c9eec287f1bd924694f5e93ef22f785ac61", func := "hustings/hustingslaw09.ChainEnd", spec := "chainEnd", inPlace := ["internal/reflectlite.ValueOf", "(internal/reflectlite.Value).Type", "(internal/reflectlite.Value).IsNil", "internal/reflectlite.TypeOf", "(internal/reflectlite.Value).Elem", "(internal/reflectlite.Value).Set", "internal/bytealg.abigen_runtime_cmpstring"], unfollowed := true, recurses := true, named := ["errors.errorType"], plainKeys := false, apart := false, laid := [("errors.errorType", laid_errors_errorType)], narrowed := true }
def ChainEndUptoSaid : Prop := chainEndUptoRow.holds Tryz.pinned (OpenSpec.upto chainEndSpec)

end Rows
end Go.Proofs.YthdlgmfeicikpaaGreatDoor
