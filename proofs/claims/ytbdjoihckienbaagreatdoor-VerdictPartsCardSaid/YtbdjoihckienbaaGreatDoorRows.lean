/-
  NARROWER THAN 'FOR EVERY INPUT', by the rows' own cells (each row's printed sentence says how): VerdictOf: laid · VerdictForm: laid · VerdictNames: laid · VerdictKeys: laid · VerdictTime: laid · VerdictTells: laid · VerdictParts: laid.
  DERIVED. THE GIVEN ROWS OF THIS SEAT. 7 by the template 'for every input the law returns true; each argument reads behind the call as it read before'; 0 by the template 'total and deterministic' (their statements: YtbdjoihckienbaaGreatDoorTotals.lean).
  GIVEN WITH THE SEED: the statements are not yours to turn. If you find one false, say at which input.
  Laid BY PROGRAM, IN A SANDBOX (cutbox-rows.mjs): the forced cells as the released guide's own fill.sh prints them over the translation 6b04571ced8b1360… (all of the seat's roots in one cut). By AI agents, Wed Nov 11 2026. No macro, syntax, notation, axiom, sorry.
-/
import Derived.Test.YtbdjoihckienbaaGreatDoorChecked
import GoSem.Claim
import GoSem.ClaimJoined
import GoSem.ClaimMapViews
import Derived.JoinedTies
import Derived.KernelRfl
namespace Go.Proofs.YtbdjoihckienbaaGreatDoor
/- THE CELL 'sum', in the pinned program and in every row, IS THE sha256 OF THE DUMP (.gsa) THAT YtbdjoihckienbaaGreatDoorProg.lean LOADS. Nothing in Lean hashes anything: it is a label: what it is worth is what the hold of that sum in a sandbox is worth. -/
noncomputable def Tryz.pinned : Pinned := { name := "ytbdjoihckienbaagreatdoor", sum := "6b04571ced8b13609727c1453c433628e13d78bf16a5a3a3935995d2055d0749", checked := Tryz.checked }
namespace Rows
def none {H : Type} : Left H := { results := [], args := [] }

/- WHAT THE LISTED PACKAGE-LEVEL VARIABLES READ AS WHEN THE CALL BEGINS. Each datum BY PROGRAM (the guide's laid-datum.mjs) off the statement by which the dump's own 'gosem.cut.vars' lays the variable. In a bare row this is a premise. The card (YtbdjoihckienbaaGreatDoorCards.lean) ties it to the program's text. -/
def laid_errors_errorType {H : Type} : DataW H := .iface "internal/reflectlite.rtype" (.agg [.ptr (.lit (.string [101, 114, 114, 111, 114]))])

/-- 'hustingslaw11.VerdictOf': WHATEVER THE INPUT: true; the input reads as it did. -/
def verdictOfSpec : ChangeSpec := { name := "verdictOf", fn := fun _ => fun
  | [d1, d2] => { results := [.lit (.bool true)], args := [d1, d2] }
  | _ => none }
def verdictOfRow : OpenClaim := { program := "ytbdjoihckienbaagreatdoor", sum := "6b04571ced8b13609727c1453c433628e13d78bf16a5a3a3935995d2055d0749", func := "hustings/hustingslaw11.VerdictOf", spec := "verdictOf", inPlace := ["internal/reflectlite.ValueOf", "(internal/reflectlite.Value).Type", "(internal/reflectlite.Value).IsNil", "internal/reflectlite.TypeOf", "(internal/reflectlite.Value).Elem", "(internal/reflectlite.Value).Set", "internal/bytealg.abigen_runtime_cmpstring"], unfollowed := true, recurses := true, named := ["errors.errorType"], plainKeys := false, apart := false, laid := [("errors.errorType", laid_errors_errorType)] }
def VerdictOfSaid : Prop := verdictOfRow.holds Tryz.pinned (OpenSpec.ofChange verdictOfSpec)

/-- ITS FALSE NEIGHBOUR: 'it returns false'. Refute it at one input. -/
def verdictOfWrong : ChangeSpec := { name := "verdictOf", fn := fun _ => fun
  | [d1, d2] => { results := [.lit (.bool false)], args := [d1, d2] }
  | _ => none }
def VerdictOfWrongFalsely : Prop := verdictOfRow.holds Tryz.pinned (OpenSpec.ofChange verdictOfWrong)

/-- 'hustingslaw11.VerdictForm': WHATEVER THE INPUT: true; the input reads as it did. -/
def verdictFormSpec : ChangeSpec := { name := "verdictForm", fn := fun _ => fun
  | [d1, d2, d3, d4, d5, d6] => { results := [.lit (.bool true)], args := [d1, d2, d3, d4, d5, d6] }
  | _ => none }
def verdictFormRow : OpenClaim := { program := "ytbdjoihckienbaagreatdoor", sum := "6b04571ced8b13609727c1453c433628e13d78bf16a5a3a3935995d2055d0749", func := "hustings/hustingslaw11.VerdictForm", spec := "verdictForm", inPlace := ["internal/reflectlite.ValueOf", "(internal/reflectlite.Value).Type", "(internal/reflectlite.Value).IsNil", "internal/reflectlite.TypeOf", "(internal/reflectlite.Value).Elem", "(internal/reflectlite.Value).Set", "internal/bytealg.abigen_runtime_cmpstring"], unfollowed := true, recurses := true, named := ["errors.errorType"], plainKeys := false, apart := false, laid := [("errors.errorType", laid_errors_errorType)] }
def VerdictFormSaid : Prop := verdictFormRow.holds Tryz.pinned (OpenSpec.ofChange verdictFormSpec)

/-- ITS FALSE NEIGHBOUR: 'it returns false'. Refute it at one input. -/
def verdictFormWrong : ChangeSpec := { name := "verdictForm", fn := fun _ => fun
  | [d1, d2, d3, d4, d5, d6] => { results := [.lit (.bool false)], args := [d1, d2, d3, d4, d5, d6] }
  | _ => none }
def VerdictFormWrongFalsely : Prop := verdictFormRow.holds Tryz.pinned (OpenSpec.ofChange verdictFormWrong)

/-- 'hustingslaw11.VerdictNames': WHATEVER THE INPUT: true; the input reads as it did. -/
def verdictNamesSpec : ChangeSpec := { name := "verdictNames", fn := fun _ => fun
  | [] => { results := [.lit (.bool true)], args := [] }
  | _ => none }
def verdictNamesRow : OpenClaim := { program := "ytbdjoihckienbaagreatdoor", sum := "6b04571ced8b13609727c1453c433628e13d78bf16a5a3a3935995d2055d0749", func := "hustings/hustingslaw11.VerdictNames", spec := "verdictNames", inPlace := ["internal/reflectlite.ValueOf", "(internal/reflectlite.Value).Type", "(internal/reflectlite.Value).IsNil", "internal/reflectlite.TypeOf", "(internal/reflectlite.Value).Elem", "(internal/reflectlite.Value).Set", "internal/bytealg.abigen_runtime_cmpstring"], unfollowed := true, recurses := true, named := ["errors.errorType"], plainKeys := false, apart := false, laid := [("errors.errorType", laid_errors_errorType)] }
def VerdictNamesSaid : Prop := verdictNamesRow.holds Tryz.pinned (OpenSpec.ofChange verdictNamesSpec)

/-- ITS FALSE NEIGHBOUR: 'it returns false'. Refute it at one input. -/
def verdictNamesWrong : ChangeSpec := { name := "verdictNames", fn := fun _ => fun
  | [] => { results := [.lit (.bool false)], args := [] }
  | _ => none }
def VerdictNamesWrongFalsely : Prop := verdictNamesRow.holds Tryz.pinned (OpenSpec.ofChange verdictNamesWrong)

/-- 'hustingslaw11.VerdictKeys': WHATEVER THE INPUT: true; the input reads as it did. -/
def verdictKeysSpec : ChangeSpec := { name := "verdictKeys", fn := fun _ => fun
  | [d1, d2, d3, d4] => { results := [.lit (.bool true)], args := [d1, d2, d3, d4] }
  | _ => none }
def verdictKeysRow : OpenClaim := { program := "ytbdjoihckienbaagreatdoor", sum := "6b04571ced8b13609727c1453c433628e13d78bf16a5a3a3935995d2055d0749", func := "hustings/hustingslaw11.VerdictKeys", spec := "verdictKeys", inPlace := ["internal/reflectlite.ValueOf", "(internal/reflectlite.Value).Type", "(internal/reflectlite.Value).IsNil", "internal/reflectlite.TypeOf", "(internal/reflectlite.Value).Elem", "(internal/reflectlite.Value).Set", "internal/bytealg.abigen_runtime_cmpstring"], unfollowed := true, recurses := true, named := ["errors.errorType"], plainKeys := false, apart := false, laid := [("errors.errorType", laid_errors_errorType)] }
def VerdictKeysSaid : Prop := verdictKeysRow.holds Tryz.pinned (OpenSpec.ofChange verdictKeysSpec)

/-- ITS FALSE NEIGHBOUR: 'it returns false'. Refute it at one input. -/
def verdictKeysWrong : ChangeSpec := { name := "verdictKeys", fn := fun _ => fun
  | [d1, d2, d3, d4] => { results := [.lit (.bool false)], args := [d1, d2, d3, d4] }
  | _ => none }
def VerdictKeysWrongFalsely : Prop := verdictKeysRow.holds Tryz.pinned (OpenSpec.ofChange verdictKeysWrong)

/-- 'hustingslaw11.VerdictTime': WHATEVER THE INPUT: true; the input reads as it did. -/
def verdictTimeSpec : ChangeSpec := { name := "verdictTime", fn := fun _ => fun
  | [d1, d2, d3, d4] => { results := [.lit (.bool true)], args := [d1, d2, d3, d4] }
  | _ => none }
def verdictTimeRow : OpenClaim := { program := "ytbdjoihckienbaagreatdoor", sum := "6b04571ced8b13609727c1453c433628e13d78bf16a5a3a3935995d2055d0749", func := "hustings/hustingslaw11.VerdictTime", spec := "verdictTime", inPlace := ["internal/reflectlite.ValueOf", "(internal/reflectlite.Value).Type", "(internal/reflectlite.Value).IsNil", "internal/reflectlite.TypeOf", "(internal/reflectlite.Value).Elem", "(internal/reflectlite.Value).Set", "internal/bytealg.abigen_runtime_cmpstring"], unfollowed := true, recurses := true, named := ["errors.errorType"], plainKeys := false, apart := false, laid := [("errors.errorType", laid_errors_errorType)] }
def VerdictTimeSaid : Prop := verdictTimeRow.holds Tryz.pinned (OpenSpec.ofChange verdictTimeSpec)

/-- ITS FALSE NEIGHBOUR: 'it returns false'. Refute it at one input. -/
def verdictTimeWrong : ChangeSpec := { name := "verdictTime", fn := fun _ => fun
  | [d1, d2, d3, d4] => { results := [.lit (.bool false)], args := [d1, d2, d3, d4] }
  | _ => none }
def VerdictTimeWrongFalsely : Prop := verdictTimeRow.holds Tryz.pinned (OpenSpec.ofChange verdictTimeWrong)

/-- 'hustingslaw11.VerdictTells': WHATEVER THE INPUT: true; the input reads as it did. -/
def verdictTellsSpec : ChangeSpec := { name := "verdictTells", fn := fun _ => fun
  | [d1, d2, d3] => { results := [.lit (.bool true)], args := [d1, d2, d3] }
  | _ => none }
def verdictTellsRow : OpenClaim := { program := "ytbdjoihckienbaagreatdoor", sum := "6b04571ced8b13609727c1453c433628e13d78bf16a5a3a3935995d2055d0749", func := "hustings/hustingslaw11.VerdictTells", spec := "verdictTells", inPlace := ["internal/reflectlite.ValueOf", "(internal/reflectlite.Value).Type", "(internal/reflectlite.Value).IsNil", "internal/reflectlite.TypeOf", "(internal/reflectlite.Value).Elem", "(internal/reflectlite.Value).Set", "internal/bytealg.abigen_runtime_cmpstring"], unfollowed := true, recurses := true, named := ["errors.errorType"], plainKeys := false, apart := false, laid := [("errors.errorType", laid_errors_errorType)] }
def VerdictTellsSaid : Prop := verdictTellsRow.holds Tryz.pinned (OpenSpec.ofChange verdictTellsSpec)

/-- ITS FALSE NEIGHBOUR: 'it returns false'. Refute it at one input. -/
def verdictTellsWrong : ChangeSpec := { name := "verdictTells", fn := fun _ => fun
  | [d1, d2, d3] => { results := [.lit (.bool false)], args := [d1, d2, d3] }
  | _ => none }
def VerdictTellsWrongFalsely : Prop := verdictTellsRow.holds Tryz.pinned (OpenSpec.ofChange verdictTellsWrong)

/-- 'hustingslaw11.VerdictParts': WHATEVER THE INPUT: true; the input reads as it did. -/
def verdictPartsSpec : ChangeSpec := { name := "verdictParts", fn := fun _ => fun
  | [d1, d2] => { results := [.lit (.bool true)], args := [d1, d2] }
  | _ => none }
def verdictPartsRow : OpenClaim := { program := "ytbdjoihckienbaagreatdoor", sum := "6b04571ced8b13609727c1453c433628e13d78bf16a5a3a3935995d2055d0749", func := "hustings/hustingslaw11.VerdictParts", spec := "verdictParts", inPlace := ["internal/reflectlite.ValueOf", "(internal/reflectlite.Value).Type", "(internal/reflectlite.Value).IsNil", "internal/reflectlite.TypeOf", "(internal/reflectlite.Value).Elem", "(internal/reflectlite.Value).Set", "internal/bytealg.abigen_runtime_cmpstring"], unfollowed := true, recurses := true, named := ["errors.errorType"], plainKeys := false, apart := false, laid := [("errors.errorType", laid_errors_errorType)] }
def VerdictPartsSaid : Prop := verdictPartsRow.holds Tryz.pinned (OpenSpec.ofChange verdictPartsSpec)

/-- ITS FALSE NEIGHBOUR: 'it returns false'. Refute it at one input. -/
def verdictPartsWrong : ChangeSpec := { name := "verdictParts", fn := fun _ => fun
  | [d1, d2] => { results := [.lit (.bool false)], args := [d1, d2] }
  | _ => none }
def VerdictPartsWrongFalsely : Prop := verdictPartsRow.holds Tryz.pinned (OpenSpec.ofChange verdictPartsWrong)

/- THE SECOND FORM. 'bulk': how many values and letters a reading holds, each counted each time it is reached (what is shared counts as often as it is met; a slice's spare places count too). A statement '..UptoSaid' is the law's where the arguments, and the package variables that the reading takes, are together of bulk at most 1048576: NARROWER than '..Said'. Prove '..Said' where nothing that the law and all that it calls make is longer than what came in: it says more and counts as full. Else prove '..UptoSaid'. A law counts once. -/
mutual
def uptoBulk {H : Type} : DataW H → Nat
  | .lit (.string bytes) => bytes.length + 1
  | .lit _ => 1
  | .nil => 1
  | .ptr d => uptoBulk d + 1
  | .slice elems spare => uptoBulkAll elems + uptoBulkAll spare + 1
  | .agg parts => uptoBulkAll parts + 1
  | .iface _ d => uptoBulk d + 1
  | .map entries => uptoBulkEntries entries + 1
  | .held _ => 1
def uptoBulkAll {H : Type} : List (DataW H) → Nat
  | [] => 0
  | d :: r => uptoBulk d + uptoBulkAll r
def uptoBulkEntries {H : Type} : List (Lit × DataW H) → Nat
  | [] => 0
  | x :: r => uptoBulkEntry x + uptoBulkEntries r
def uptoBulkEntry {H : Type} : Lit × DataW H → Nat
  | (.string bytes, d) => bytes.length + uptoBulk d + 1
  | (_, d) => uptoBulk d + 1
 end
def uptoSmall : (H : Type) → List (DataW H) → Bool := fun _ ds => decide (uptoBulkAll ds ≤ 1048576)
def OpenSpec.upto (s : _root_.Go.ChangeSpec) : _root_.Go.OpenSpec := { _root_.Go.OpenSpec.ofChange s with cond := some uptoSmall }

/-- 'hustingslaw11.VerdictOf', WHERE WHAT IT READS IS OF BULK AT MOST 1048576: true; the input reads as it did. -/
def verdictOfUptoRow : OpenClaim := { program := "ytbdjoihckienbaagreatdoor", sum := "6b04571ced8b13609727c1453c433628e13d78bf16a5a3a3935995d2055d0749", func := "hustings/hustingslaw11.VerdictOf", spec := "verdictOf", inPlace := ["internal/reflectlite.ValueOf", "(internal/reflectlite.Value).Type", "(internal/reflectlite.Value).IsNil", "internal/reflectlite.TypeOf", "(internal/reflectlite.Value).Elem", "(internal/reflectlite.Value).Set", "internal/bytealg.abigen_runtime_cmpstring"], unfollowed := true, recurses := true, named := ["errors.errorType"], plainKeys := false, apart := false, laid := [("errors.errorType", laid_errors_errorType)], narrowed := true }
def VerdictOfUptoSaid : Prop := verdictOfUptoRow.holds Tryz.pinned (OpenSpec.upto verdictOfSpec)

/-- 'hustingslaw11.VerdictForm', WHERE WHAT IT READS IS OF BULK AT MOST 1048576: true; the input reads as it did. -/
def verdictFormUptoRow : OpenClaim := { program := "ytbdjoihckienbaagreatdoor", sum := "6b04571ced8b13609727c1453c433628e13d78bf16a5a3a3935995d2055d0749", func := "hustings/hustingslaw11.VerdictForm", spec := "verdictForm", inPlace := ["internal/reflectlite.ValueOf", "(internal/reflectlite.Value).Type", "(internal/reflectlite.Value).IsNil", "internal/reflectlite.TypeOf", "(internal/reflectlite.Value).Elem", "(internal/reflectlite.Value).Set", "internal/bytealg.abigen_runtime_cmpstring"], unfollowed := true, recurses := true, named := ["errors.errorType"], plainKeys := false, apart := false, laid := [("errors.errorType", laid_errors_errorType)], narrowed := true }
def VerdictFormUptoSaid : Prop := verdictFormUptoRow.holds Tryz.pinned (OpenSpec.upto verdictFormSpec)

/-- 'hustingslaw11.VerdictNames', WHERE WHAT IT READS IS OF BULK AT MOST 1048576: true; the input reads as it did. -/
def verdictNamesUptoRow : OpenClaim := { program := "ytbdjoihckienbaagreatdoor", sum := "6b04571ced8b13609727c1453c433628e13d78bf16a5a3a3935995d2055d0749", func := "hustings/hustingslaw11.VerdictNames", spec := "verdictNames", inPlace := ["internal/reflectlite.ValueOf", "(internal/reflectlite.Value).Type", "(internal/reflectlite.Value).IsNil", "internal/reflectlite.TypeOf", "(internal/reflectlite.Value).Elem", "(internal/reflectlite.Value).Set", "internal/bytealg.abigen_runtime_cmpstring"], unfollowed := true, recurses := true, named := ["errors.errorType"], plainKeys := false, apart := false, laid := [("errors.errorType", laid_errors_errorType)], narrowed := true }
def VerdictNamesUptoSaid : Prop := verdictNamesUptoRow.holds Tryz.pinned (OpenSpec.upto verdictNamesSpec)

/-- 'hustingslaw11.VerdictKeys', WHERE WHAT IT READS IS OF BULK AT MOST 1048576: true; the input reads as it did. -/
def verdictKeysUptoRow : OpenClaim := { program := "ytbdjoihckienbaagreatdoor", sum := "6b04571ced8b13609727c1453c433628e13d78bf16a5a3a3935995d2055d0749", func := "hustings/hustingslaw11.VerdictKeys", spec := "verdictKeys", inPlace := ["internal/reflectlite.ValueOf", "(internal/reflectlite.Value).Type", "(internal/reflectlite.Value).IsNil", "internal/reflectlite.TypeOf", "(internal/reflectlite.Value).Elem", "(internal/reflectlite.Value).Set", "internal/bytealg.abigen_runtime_cmpstring"], unfollowed := true, recurses := true, named := ["errors.errorType"], plainKeys := false, apart := false, laid := [("errors.errorType", laid_errors_errorType)], narrowed := true }
def VerdictKeysUptoSaid : Prop := verdictKeysUptoRow.holds Tryz.pinned (OpenSpec.upto verdictKeysSpec)

/-- 'hustingslaw11.VerdictTime', WHERE WHAT IT READS IS OF BULK AT MOST 1048576: true; the input reads as it did. -/
def verdictTimeUptoRow : OpenClaim := { program := "ytbdjoihckienbaagreatdoor", sum := "6b04571ced8b13609727c1453c433628e13d78bf16a5a3a3935995d2055d0749", func := "hustings/hustingslaw11.VerdictTime", spec := "verdictTime", inPlace := ["internal/reflectlite.ValueOf", "(internal/reflectlite.Value).Type", "(internal/reflectlite.Value).IsNil", "internal/reflectlite.TypeOf", "(internal/reflectlite.Value).Elem", "(internal/reflectlite.Value).Set", "internal/bytealg.abigen_runtime_cmpstring"], unfollowed := true, recurses := true, named := ["errors.errorType"], plainKeys := false, apart := false, laid := [("errors.errorType", laid_errors_errorType)], narrowed := true }
def VerdictTimeUptoSaid : Prop := verdictTimeUptoRow.holds Tryz.pinned (OpenSpec.upto verdictTimeSpec)

/-- 'hustingslaw11.VerdictTells', WHERE WHAT IT READS IS OF BULK AT MOST 1048576: true; the input reads as it did. -/
def verdictTellsUptoRow : OpenClaim := { program := "ytbdjoihckienbaagreatdoor", sum := "6b04571ced8b13609727c1453c433628e13d78bf16a5a3a3935995d2055d0749", func := "hustings/hustingslaw11.VerdictTells", spec := "verdictTells", inPlace := ["internal/reflectlite.ValueOf", "(internal/reflectlite.Value).Type", "(internal/reflectlite.Value).IsNil", "internal/reflectlite.TypeOf", "(internal/reflectlite.Value).Elem", "(internal/reflectlite.Value).Set", "internal/bytealg.abigen_runtime_cmpstring"], unfollowed := true, recurses := true, named := ["errors.errorType"], plainKeys := false, apart := false, laid := [("errors.errorType", laid_errors_errorType)], narrowed := true }
def VerdictTellsUptoSaid : Prop := verdictTellsUptoRow.holds Tryz.pinned (OpenSpec.upto verdictTellsSpec)

/-- 'hustingslaw11.VerdictParts', WHERE WHAT IT READS IS OF BULK AT MOST 1048576: true; the input reads as it did. -/
def verdictPartsUptoRow : OpenClaim := { program := "ytbdjoihckienbaagreatdoor", sum := "6b04571ced8b13609727c1453c433628e13d78bf16a5a3a3935995d2055d0749", func := "hustings/hustingslaw11.VerdictParts", spec := "verdictParts", inPlace := ["internal/reflectlite.ValueOf", "(internal/reflectlite.Value).Type", "(internal/reflectlite.Value).IsNil", "internal/reflectlite.TypeOf", "(internal/reflectlite.Value).Elem", "(internal/reflectlite.Value).Set", "internal/bytealg.abigen_runtime_cmpstring"], unfollowed := true, recurses := true, named := ["errors.errorType"], plainKeys := false, apart := false, laid := [("errors.errorType", laid_errors_errorType)], narrowed := true }
def VerdictPartsUptoSaid : Prop := verdictPartsUptoRow.holds Tryz.pinned (OpenSpec.upto verdictPartsSpec)

end Rows
end Go.Proofs.YtbdjoihckienbaaGreatDoor
