/-
  NARROWER THAN 'FOR EVERY INPUT', by the rows' own cells (each row's printed sentence says how): PathTells: laid · PathKnown: laid · PathPrefix: laid · PathMeets: laid · PathLeast: laid.
  DERIVED. THE GIVEN ROWS OF THIS SEAT. 5 by the template 'for every input the law returns true; each argument reads behind the call as it read before'; 0 by the template 'total and deterministic' (their statements: YtjamcgoebnafkaaGreatDoorTotals.lean).
  GIVEN WITH THE SEED: the statements are not yours to turn. If you find one false, say at which input.
  Laid BY PROGRAM, IN A SANDBOX (cutbox-rows.mjs): the forced cells as the released guide's own fill.sh prints them over the translation ee0fd8bfaba39090… (all of the seat's roots in one cut). By AI agents, Wed Nov 11 2026. No macro, syntax, notation, axiom, sorry.
-/
import Derived.Test.YtjamcgoebnafkaaGreatDoorChecked
import GoSem.Claim
import GoSem.ClaimJoined
import GoSem.ClaimMapViews
import Derived.JoinedTies
import Derived.KernelRfl
namespace Go.Proofs.YtjamcgoebnafkaaGreatDoor
/- THE CELL 'sum', in the pinned program and in every row, IS THE sha256 OF THE DUMP (.gsa) THAT YtjamcgoebnafkaaGreatDoorProg.lean LOADS. Nothing in Lean hashes anything: it is a label: what it is worth is what the hold of that sum in a sandbox is worth. -/
noncomputable def Tryz.pinned : Pinned := { name := "ytjamcgoebnafkaagreatdoor", sum := "ee0fd8bfaba390908823bdc2706e539893533be7e84dac0669e103d05037a696", checked := Tryz.checked }
namespace Rows
def none {H : Type} : Left H := { results := [], args := [] }

/- WHAT THE LISTED PACKAGE-LEVEL VARIABLES READ AS WHEN THE CALL BEGINS. Each datum BY PROGRAM (the guide's laid-datum.mjs) off the statement by which the dump's own 'gosem.cut.vars' lays the variable. In a bare row this is a premise. The card (YtjamcgoebnafkaaGreatDoorCards.lean) ties it to the program's text. -/
def laid_errors_errorType {H : Type} : DataW H := .iface "internal/reflectlite.rtype" (.agg [.ptr (.lit (.string [101, 114, 114, 111, 114]))])

/-- 'milestonelaw11.PathTells': WHATEVER THE INPUT: true; the input reads as it did. -/
def pathTellsSpec : ChangeSpec := { name := "pathTells", fn := fun _ => fun
  | [d1, d2, d3] => { results := [.lit (.bool true)], args := [d1, d2, d3] }
  | _ => none }
def pathTellsRow : OpenClaim := { program := "ytjamcgoebnafkaagreatdoor", sum := "ee0fd8bfaba390908823bdc2706e539893533be7e84dac0669e103d05037a696", func := "milestone/milestonelaw11.PathTells", spec := "pathTells", inPlace := ["internal/reflectlite.ValueOf", "(internal/reflectlite.Value).Type", "(internal/reflectlite.Value).IsNil", "internal/reflectlite.TypeOf", "(internal/reflectlite.Value).Elem", "(internal/reflectlite.Value).Set"], unfollowed := true, recurses := true, named := ["errors.errorType"], apart := false, laid := [("errors.errorType", laid_errors_errorType)] }
def PathTellsSaid : Prop := pathTellsRow.holds Tryz.pinned (OpenSpec.ofChange pathTellsSpec)

/-- ITS FALSE NEIGHBOUR: 'it returns false'. Refute it at one input. -/
def pathTellsWrong : ChangeSpec := { name := "pathTells", fn := fun _ => fun
  | [d1, d2, d3] => { results := [.lit (.bool false)], args := [d1, d2, d3] }
  | _ => none }
def PathTellsWrongFalsely : Prop := pathTellsRow.holds Tryz.pinned (OpenSpec.ofChange pathTellsWrong)

/-- 'milestonelaw11.PathKnown': WHATEVER THE INPUT: true; the input reads as it did. -/
def pathKnownSpec : ChangeSpec := { name := "pathKnown", fn := fun _ => fun
  | [] => { results := [.lit (.bool true)], args := [] }
  | _ => none }
def pathKnownRow : OpenClaim := { program := "ytjamcgoebnafkaagreatdoor", sum := "ee0fd8bfaba390908823bdc2706e539893533be7e84dac0669e103d05037a696", func := "milestone/milestonelaw11.PathKnown", spec := "pathKnown", inPlace := ["internal/reflectlite.ValueOf", "(internal/reflectlite.Value).Type", "(internal/reflectlite.Value).IsNil", "internal/reflectlite.TypeOf", "(internal/reflectlite.Value).Elem", "(internal/reflectlite.Value).Set"], unfollowed := true, recurses := true, named := ["errors.errorType"], apart := false, laid := [("errors.errorType", laid_errors_errorType)] }
def PathKnownSaid : Prop := pathKnownRow.holds Tryz.pinned (OpenSpec.ofChange pathKnownSpec)

/-- ITS FALSE NEIGHBOUR: 'it returns false'. Refute it at one input. -/
def pathKnownWrong : ChangeSpec := { name := "pathKnown", fn := fun _ => fun
  | [] => { results := [.lit (.bool false)], args := [] }
  | _ => none }
def PathKnownWrongFalsely : Prop := pathKnownRow.holds Tryz.pinned (OpenSpec.ofChange pathKnownWrong)

/-- 'milestonelaw11.PathPrefix': WHATEVER THE INPUT: true; the input reads as it did. -/
def pathPrefixSpec : ChangeSpec := { name := "pathPrefix", fn := fun _ => fun
  | [d] => { results := [.lit (.bool true)], args := [d] }
  | _ => none }
def pathPrefixRow : OpenClaim := { program := "ytjamcgoebnafkaagreatdoor", sum := "ee0fd8bfaba390908823bdc2706e539893533be7e84dac0669e103d05037a696", func := "milestone/milestonelaw11.PathPrefix", spec := "pathPrefix", inPlace := ["internal/reflectlite.ValueOf", "(internal/reflectlite.Value).Type", "(internal/reflectlite.Value).IsNil", "internal/reflectlite.TypeOf", "(internal/reflectlite.Value).Elem", "(internal/reflectlite.Value).Set"], unfollowed := true, recurses := true, named := ["errors.errorType"], apart := false, laid := [("errors.errorType", laid_errors_errorType)] }
def PathPrefixSaid : Prop := pathPrefixRow.holds Tryz.pinned (OpenSpec.ofChange pathPrefixSpec)

/-- ITS FALSE NEIGHBOUR: 'it returns false'. Refute it at one input. -/
def pathPrefixWrong : ChangeSpec := { name := "pathPrefix", fn := fun _ => fun
  | [d] => { results := [.lit (.bool false)], args := [d] }
  | _ => none }
def PathPrefixWrongFalsely : Prop := pathPrefixRow.holds Tryz.pinned (OpenSpec.ofChange pathPrefixWrong)

/-- 'milestonelaw11.PathMeets': WHATEVER THE INPUT: true; the input reads as it did. -/
def pathMeetsSpec : ChangeSpec := { name := "pathMeets", fn := fun _ => fun
  | [d] => { results := [.lit (.bool true)], args := [d] }
  | _ => none }
def pathMeetsRow : OpenClaim := { program := "ytjamcgoebnafkaagreatdoor", sum := "ee0fd8bfaba390908823bdc2706e539893533be7e84dac0669e103d05037a696", func := "milestone/milestonelaw11.PathMeets", spec := "pathMeets", inPlace := ["internal/reflectlite.ValueOf", "(internal/reflectlite.Value).Type", "(internal/reflectlite.Value).IsNil", "internal/reflectlite.TypeOf", "(internal/reflectlite.Value).Elem", "(internal/reflectlite.Value).Set"], unfollowed := true, recurses := true, named := ["errors.errorType"], apart := false, laid := [("errors.errorType", laid_errors_errorType)] }
def PathMeetsSaid : Prop := pathMeetsRow.holds Tryz.pinned (OpenSpec.ofChange pathMeetsSpec)

/-- ITS FALSE NEIGHBOUR: 'it returns false'. Refute it at one input. -/
def pathMeetsWrong : ChangeSpec := { name := "pathMeets", fn := fun _ => fun
  | [d] => { results := [.lit (.bool false)], args := [d] }
  | _ => none }
def PathMeetsWrongFalsely : Prop := pathMeetsRow.holds Tryz.pinned (OpenSpec.ofChange pathMeetsWrong)

/-- 'milestonelaw11.PathLeast': WHATEVER THE INPUT: true; the input reads as it did. -/
def pathLeastSpec : ChangeSpec := { name := "pathLeast", fn := fun _ => fun
  | [d] => { results := [.lit (.bool true)], args := [d] }
  | _ => none }
def pathLeastRow : OpenClaim := { program := "ytjamcgoebnafkaagreatdoor", sum := "ee0fd8bfaba390908823bdc2706e539893533be7e84dac0669e103d05037a696", func := "milestone/milestonelaw11.PathLeast", spec := "pathLeast", inPlace := ["internal/reflectlite.ValueOf", "(internal/reflectlite.Value).Type", "(internal/reflectlite.Value).IsNil", "internal/reflectlite.TypeOf", "(internal/reflectlite.Value).Elem", "(internal/reflectlite.Value).Set"], unfollowed := true, recurses := true, named := ["errors.errorType"], apart := false, laid := [("errors.errorType", laid_errors_errorType)] }
def PathLeastSaid : Prop := pathLeastRow.holds Tryz.pinned (OpenSpec.ofChange pathLeastSpec)

/-- ITS FALSE NEIGHBOUR: 'it returns false'. Refute it at one input. -/
def pathLeastWrong : ChangeSpec := { name := "pathLeast", fn := fun _ => fun
  | [d] => { results := [.lit (.bool false)], args := [d] }
  | _ => none }
def PathLeastWrongFalsely : Prop := pathLeastRow.holds Tryz.pinned (OpenSpec.ofChange pathLeastWrong)

/- THE SECOND FORM. 'bulk': how many values and letters a reading holds, each counted each time it is reached (what is shared counts as often as it is met; a slice's spare places count too). A statement '..UptoSaid' is the law's where the arguments, and the package variables that the reading takes, are together of bulk at most 1048576: NARROWER than '..Said'. Prove '..Said' where nothing that the law and all that it calls make is longer than what came in: it says more and counts as full. Else prove '..UptoSaid'. A law counts once. -/
mutual
def uptoBulk {H : Type} : DataW H → Nat
  | .lit (.string bytes) => bytes.length + 1
  | .lit _ => 1
  | .nil => 1
  | .ptr d => uptoBulk d + 1
  | .slice elems spare => uptoBulkAll elems + uptoBulkAll spare + 1
  | .agg parts => uptoBulkAll parts + 1
  | .iface _ d => uptoBulk d + 1
  | .map entries => uptoBulkEntries entries + 1
  | .held _ => 1
def uptoBulkAll {H : Type} : List (DataW H) → Nat
  | [] => 0
  | d :: r => uptoBulk d + uptoBulkAll r
def uptoBulkEntries {H : Type} : List (Lit × DataW H) → Nat
  | [] => 0
  | x :: r => uptoBulkEntry x + uptoBulkEntries r
def uptoBulkEntry {H : Type} : Lit × DataW H → Nat
  | (.string bytes, d) => bytes.length + uptoBulk d + 1
  | (_, d) => uptoBulk d + 1
 end
def uptoSmall : (H : Type) → List (DataW H) → Bool := fun _ ds => decide (uptoBulkAll ds ≤ 1048576)
def OpenSpec.upto (s : _root_.Go.ChangeSpec) : _root_.Go.OpenSpec := { _root_.Go.OpenSpec.ofChange s with cond := some uptoSmall }

/-- 'milestonelaw11.PathTells', WHERE WHAT IT READS IS OF BULK AT MOST 1048576: true; the input reads as it did. -/
def pathTellsUptoRow : OpenClaim := { program := "ytjamcgoebnafkaagreatdoor", sum := "ee0fd8bfaba390908823bdc2706e539893533be7e84dac0669e103d05037a696", func := "milestone/milestonelaw11.PathTells", spec := "pathTells", inPlace := ["internal/reflectlite.ValueOf", "(internal/reflectlite.Value).Type", "(internal/reflectlite.Value).IsNil", "internal/reflectlite.TypeOf", "(internal/reflectlite.Value).Elem", "(internal/reflectlite.Value).Set"], unfollowed := true, recurses := true, named := ["errors.errorType"], apart := false, laid := [("errors.errorType", laid_errors_errorType)], narrowed := true }
def PathTellsUptoSaid : Prop := pathTellsUptoRow.holds Tryz.pinned (OpenSpec.upto pathTellsSpec)

/-- 'milestonelaw11.PathKnown', WHERE WHAT IT READS IS OF BULK AT MOST 1048576: true; the input reads as it did. -/
def pathKnownUptoRow : OpenClaim := { program := "ytjamcgoebnafkaagreatdoor", sum := "ee0fd8bfaba390908823bdc2706e539893533be7e84dac0669e103d05037a696", func := "milestone/milestonelaw11.PathKnown", spec := "pathKnown", inPlace := ["internal/reflectlite.ValueOf", "(internal/reflectlite.Value).Type", "(internal/reflectlite.Value).IsNil", "internal/reflectlite.TypeOf", "(internal/reflectlite.Value).Elem", "(internal/reflectlite.Value).Set"], unfollowed := true, recurses := true, named := ["errors.errorType"], apart := false, laid := [("errors.errorType", laid_errors_errorType)], narrowed := true }
def PathKnownUptoSaid : Prop := pathKnownUptoRow.holds Tryz.pinned (OpenSpec.upto pathKnownSpec)

/-- 'milestonelaw11.PathPrefix', WHERE WHAT IT READS IS OF BULK AT MOST 1048576: true; the input reads as it did. -/
def pathPrefixUptoRow : OpenClaim := { program := "ytjamcgoebnafkaagreatdoor", sum := "ee0fd8bfaba390908823bdc2706e539893533be7e84dac0669e103d05037a696", func := "milestone/milestonelaw11.PathPrefix", spec := "pathPrefix", inPlace := ["internal/reflectlite.ValueOf", "(internal/reflectlite.Value).Type", "(internal/reflectlite.Value).IsNil", "internal/reflectlite.TypeOf", "(internal/reflectlite.Value).Elem", "(internal/reflectlite.Value).Set"], unfollowed := true, recurses := true, named := ["errors.errorType"], apart := false, laid := [("errors.errorType", laid_errors_errorType)], narrowed := true }
def PathPrefixUptoSaid : Prop := pathPrefixUptoRow.holds Tryz.pinned (OpenSpec.upto pathPrefixSpec)

/-- 'milestonelaw11.PathMeets', WHERE WHAT IT READS IS OF BULK AT MOST 1048576: true; the input reads as it did. -/
def pathMeetsUptoRow : OpenClaim := { program := "ytjamcgoebnafkaagreatdoor", sum := "ee0fd8bfaba390908823bdc2706e539893533be7e84dac0669e103d05037a696", func := "milestone/milestonelaw11.PathMeets", spec := "pathMeets", inPlace := ["internal/reflectlite.ValueOf", "(internal/reflectlite.Value).Type", "(internal/reflectlite.Value).IsNil", "internal/reflectlite.TypeOf", "(internal/reflectlite.Value).Elem", "(internal/reflectlite.Value).Set"], unfollowed := true, recurses := true, named := ["errors.errorType"], apart := false, laid := [("errors.errorType", laid_errors_errorType)], narrowed := true }
def PathMeetsUptoSaid : Prop := pathMeetsUptoRow.holds Tryz.pinned (OpenSpec.upto pathMeetsSpec)

/-- 'milestonelaw11.PathLeast', WHERE WHAT IT READS IS OF BULK AT MOST 1048576: true; the input reads as it did. -/
def pathLeastUptoRow : OpenClaim := { program := "ytjamcgoebnafkaagreatdoor", sum := "ee0fd8bfaba390908823bdc2706e539893533be7e84dac0669e103d05037a696", func := "milestone/milestonelaw11.PathLeast", spec := "pathLeast", inPlace := ["internal/reflectlite.ValueOf", "(internal/reflectlite.Value).Type", "(internal/reflectlite.Value).IsNil", "internal/reflectlite.TypeOf", "(internal/reflectlite.Value).Elem", "(internal/reflectlite.Value).Set"], unfollowed := true, recurses := true, named := ["errors.errorType"], apart := false, laid := [("errors.errorType", laid_errors_errorType)], narrowed := true }
def PathLeastUptoSaid : Prop := pathLeastUptoRow.holds Tryz.pinned (OpenSpec.upto pathLeastSpec)

end Rows
end Go.Proofs.YtjamcgoebnafkaaGreatDoor
