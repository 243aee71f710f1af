/-
  NARROWER THAN 'FOR EVERY INPUT', by the rows' own cells (each row's printed sentence says how): BothErrors: laid · BothTurned: laid · BothLabels: laid · BothExact: laid · BothOnce: laid · BothPlain: laid.
  DERIVED. THE GIVEN ROWS OF THIS SEAT. 6 by the template 'for every input the law returns true; each argument reads behind the call as it read before'; 0 by the template 'total and deterministic' (their statements: YtkeoponidgpfpaaGreatDoorTotals.lean).
  GIVEN WITH THE SEED: the statements are not yours to turn. If you find one false, say at which input.
  Laid BY PROGRAM, IN A SANDBOX (cutbox-rows.mjs): the forced cells as the released guide's own fill.sh prints them over the translation 7c28e222a8b1f8ce… (all of the seat's roots in one cut). By AI agents, Wed Nov 11 2026. No macro, syntax, notation, axiom, sorry.
-/
import Derived.Test.YtkeoponidgpfpaaGreatDoorChecked
import GoSem.Claim
import GoSem.ClaimJoined
import GoSem.ClaimMapViews
import Derived.JoinedTies
import Derived.KernelRfl
namespace Go.Proofs.YtkeoponidgpfpaaGreatDoor
/- THE CELL 'sum', in the pinned program and in every row, IS THE sha256 OF THE DUMP (.gsa) THAT YtkeoponidgpfpaaGreatDoorProg.lean LOADS. Nothing in Lean hashes anything: it is a label: what it is worth is what the hold of that sum in a sandbox is worth. -/
noncomputable def Tryz.pinned : Pinned := { name := "ytkeoponidgpfpaagreatdoor", sum := "7c28e222a8b1f8ce58648c7383501bb314b893f30521746edc3c2f915afb27a3", checked := Tryz.checked }
namespace Rows
def none {H : Type} : Left H := { results := [], args := [] }

/- WHAT THE LISTED PACKAGE-LEVEL VARIABLES READ AS WHEN THE CALL BEGINS. Each datum BY PROGRAM (the guide's laid-datum.mjs) off the statement by which the dump's own 'gosem.cut.vars' lays the variable. In a bare row this is a premise. The card (YtkeoponidgpfpaaGreatDoorCards.lean) ties it to the program's text. -/
def laid_errors_errorType {H : Type} : DataW H := .iface "internal/reflectlite.rtype" (.agg [.ptr (.lit (.string [101, 114, 114, 111, 114]))])

/-- 'milestonelaw14.BothErrors': WHATEVER THE INPUT: true; the input reads as it did. -/
def bothErrorsSpec : ChangeSpec := { name := "bothErrors", fn := fun _ => fun
  | [d1, d2] => { results := [.lit (.bool true)], args := [d1, d2] }
  | _ => none }
def bothErrorsRow : OpenClaim := { program := "ytkeoponidgpfpaagreatdoor", sum := "7c28e222a8b1f8ce58648c7383501bb314b893f30521746edc3c2f915afb27a3", func := "milestone/milestonelaw14.BothErrors", spec := "bothErrors", inPlace := ["internal/reflectlite.ValueOf", "(internal/reflectlite.Value).Type", "(internal/reflectlite.Value).IsNil", "internal/reflectlite.TypeOf", "(internal/reflectlite.Value).Elem", "(internal/reflectlite.Value).Set"], unfollowed := true, recurses := true, named := ["errors.errorType"], plainKeys := false, apart := false, laid := [("errors.errorType", laid_errors_errorType)] }
def BothErrorsSaid : Prop := bothErrorsRow.holds Tryz.pinned (OpenSpec.ofChange bothErrorsSpec)

/-- ITS FALSE NEIGHBOUR: 'it returns false'. Refute it at one input. -/
def bothErrorsWrong : ChangeSpec := { name := "bothErrors", fn := fun _ => fun
  | [d1, d2] => { results := [.lit (.bool false)], args := [d1, d2] }
  | _ => none }
def BothErrorsWrongFalsely : Prop := bothErrorsRow.holds Tryz.pinned (OpenSpec.ofChange bothErrorsWrong)

/-- 'milestonelaw14.BothTurned': WHATEVER THE INPUT: true; the input reads as it did. -/
def bothTurnedSpec : ChangeSpec := { name := "bothTurned", fn := fun _ => fun
  | [d] => { results := [.lit (.bool true)], args := [d] }
  | _ => none }
def bothTurnedRow : OpenClaim := { program := "ytkeoponidgpfpaagreatdoor", sum := "7c28e222a8b1f8ce58648c7383501bb314b893f30521746edc3c2f915afb27a3", func := "milestone/milestonelaw14.BothTurned", spec := "bothTurned", inPlace := ["internal/reflectlite.ValueOf", "(internal/reflectlite.Value).Type", "(internal/reflectlite.Value).IsNil", "internal/reflectlite.TypeOf", "(internal/reflectlite.Value).Elem", "(internal/reflectlite.Value).Set"], unfollowed := true, recurses := true, named := ["errors.errorType"], plainKeys := false, apart := false, laid := [("errors.errorType", laid_errors_errorType)] }
def BothTurnedSaid : Prop := bothTurnedRow.holds Tryz.pinned (OpenSpec.ofChange bothTurnedSpec)

/-- ITS FALSE NEIGHBOUR: 'it returns false'. Refute it at one input. -/
def bothTurnedWrong : ChangeSpec := { name := "bothTurned", fn := fun _ => fun
  | [d] => { results := [.lit (.bool false)], args := [d] }
  | _ => none }
def BothTurnedWrongFalsely : Prop := bothTurnedRow.holds Tryz.pinned (OpenSpec.ofChange bothTurnedWrong)

/-- 'milestonelaw14.BothLabels': WHATEVER THE INPUT: true; the input reads as it did. -/
def bothLabelsSpec : ChangeSpec := { name := "bothLabels", fn := fun _ => fun
  | [d] => { results := [.lit (.bool true)], args := [d] }
  | _ => none }
def bothLabelsRow : OpenClaim := { program := "ytkeoponidgpfpaagreatdoor", sum := "7c28e222a8b1f8ce58648c7383501bb314b893f30521746edc3c2f915afb27a3", func := "milestone/milestonelaw14.BothLabels", spec := "bothLabels", inPlace := ["internal/reflectlite.ValueOf", "(internal/reflectlite.Value).Type", "(internal/reflectlite.Value).IsNil", "internal/reflectlite.TypeOf", "(internal/reflectlite.Value).Elem", "(internal/reflectlite.Value).Set"], unfollowed := true, recurses := true, named := ["errors.errorType"], plainKeys := false, apart := false, laid := [("errors.errorType", laid_errors_errorType)] }
def BothLabelsSaid : Prop := bothLabelsRow.holds Tryz.pinned (OpenSpec.ofChange bothLabelsSpec)

/-- ITS FALSE NEIGHBOUR: 'it returns false'. Refute it at one input. -/
def bothLabelsWrong : ChangeSpec := { name := "bothLabels", fn := fun _ => fun
  | [d] => { results := [.lit (.bool false)], args := [d] }
  | _ => none }
def BothLabelsWrongFalsely : Prop := bothLabelsRow.holds Tryz.pinned (OpenSpec.ofChange bothLabelsWrong)

/-- 'milestonelaw14.BothExact': WHATEVER THE INPUT: true; the input reads as it did. -/
def bothExactSpec : ChangeSpec := { name := "bothExact", fn := fun _ => fun
  | [d] => { results := [.lit (.bool true)], args := [d] }
  | _ => none }
def bothExactRow : OpenClaim := { program := "ytkeoponidgpfpaagreatdoor", sum := "7c28e222a8b1f8ce58648c7383501bb314b893f30521746edc3c2f915afb27a3", func := "milestone/milestonelaw14.BothExact", spec := "bothExact", inPlace := ["internal/reflectlite.ValueOf", "(internal/reflectlite.Value).Type", "(internal/reflectlite.Value).IsNil", "internal/reflectlite.TypeOf", "(internal/reflectlite.Value).Elem", "(internal/reflectlite.Value).Set"], unfollowed := true, recurses := true, named := ["errors.errorType"], plainKeys := false, apart := false, laid := [("errors.errorType", laid_errors_errorType)] }
def BothExactSaid : Prop := bothExactRow.holds Tryz.pinned (OpenSpec.ofChange bothExactSpec)

/-- ITS FALSE NEIGHBOUR: 'it returns false'. Refute it at one input. -/
def bothExactWrong : ChangeSpec := { name := "bothExact", fn := fun _ => fun
  | [d] => { results := [.lit (.bool false)], args := [d] }
  | _ => none }
def BothExactWrongFalsely : Prop := bothExactRow.holds Tryz.pinned (OpenSpec.ofChange bothExactWrong)

/-- 'milestonelaw14.BothOnce': WHATEVER THE INPUT: true; the input reads as it did. -/
def bothOnceSpec : ChangeSpec := { name := "bothOnce", fn := fun _ => fun
  | [d] => { results := [.lit (.bool true)], args := [d] }
  | _ => none }
def bothOnceRow : OpenClaim := { program := "ytkeoponidgpfpaagreatdoor", sum := "7c28e222a8b1f8ce58648c7383501bb314b893f30521746edc3c2f915afb27a3", func := "milestone/milestonelaw14.BothOnce", spec := "bothOnce", inPlace := ["internal/reflectlite.ValueOf", "(internal/reflectlite.Value).Type", "(internal/reflectlite.Value).IsNil", "internal/reflectlite.TypeOf", "(internal/reflectlite.Value).Elem", "(internal/reflectlite.Value).Set"], unfollowed := true, recurses := true, named := ["errors.errorType"], plainKeys := false, apart := false, laid := [("errors.errorType", laid_errors_errorType)] }
def BothOnceSaid : Prop := bothOnceRow.holds Tryz.pinned (OpenSpec.ofChange bothOnceSpec)

/-- ITS FALSE NEIGHBOUR: 'it returns false'. Refute it at one input. -/
def bothOnceWrong : ChangeSpec := { name := "bothOnce", fn := fun _ => fun
  | [d] => { results := [.lit (.bool false)], args := [d] }
  | _ => none }
def BothOnceWrongFalsely : Prop := bothOnceRow.holds Tryz.pinned (OpenSpec.ofChange bothOnceWrong)

/-- 'milestonelaw14.BothPlain': WHATEVER THE INPUT: true; the input reads as it did. -/
def bothPlainSpec : ChangeSpec := { name := "bothPlain", fn := fun _ => fun
  | [d] => { results := [.lit (.bool true)], args := [d] }
  | _ => none }
def bothPlainRow : OpenClaim := { program := "ytkeoponidgpfpaagreatdoor", sum := "7c28e222a8b1f8ce58648c7383501bb314b893f30521746edc3c2f915afb27a3", func := "milestone/milestonelaw14.BothPlain", spec := "bothPlain", inPlace := ["internal/reflectlite.ValueOf", "(internal/reflectlite.Value).Type", "(internal/reflectlite.Value).IsNil", "internal/reflectlite.TypeOf", "(internal/reflectlite.Value).Elem", "(internal/reflectlite.Value).Set"], unfollowed := true, recurses := true, named := ["errors.errorType"], plainKeys := false, apart := false, laid := [("errors.errorType", laid_errors_errorType)] }
def BothPlainSaid : Prop := bothPlainRow.holds Tryz.pinned (OpenSpec.ofChange bothPlainSpec)

/-- ITS FALSE NEIGHBOUR: 'it returns false'. Refute it at one input. -/
def bothPlainWrong : ChangeSpec := { name := "bothPlain", fn := fun _ => fun
  | [d] => { results := [.lit (.bool false)], args := [d] }
  | _ => none }
def BothPlainWrongFalsely : Prop := bothPlainRow.holds Tryz.pinned (OpenSpec.ofChange bothPlainWrong)

/- THE SECOND FORM. 'bulk': how many values and letters a reading holds, each counted each time it is reached (what is shared counts as often as it is met; a slice's spare places count too). A statement '..UptoSaid' is the law's where the arguments, and the package variables that the reading takes, are together of bulk at most 1048576: NARROWER than '..Said'. Prove '..Said' where nothing that the law and all that it calls make is longer than what came in: it says more and counts as full. Else prove '..UptoSaid'. A law counts once. -/
mutual
def uptoBulk {H : Type} : DataW H → Nat
  | .lit (.string bytes) => bytes.length + 1
  | .lit _ => 1
  | .nil => 1
  | .ptr d => uptoBulk d + 1
  | .slice elems spare => uptoBulkAll elems + uptoBulkAll spare + 1
  | .agg parts => uptoBulkAll parts + 1
  | .iface _ d => uptoBulk d + 1
  | .map entries => uptoBulkEntries entries + 1
  | .held _ => 1
def uptoBulkAll {H : Type} : List (DataW H) → Nat
  | [] => 0
  | d :: r => uptoBulk d + uptoBulkAll r
def uptoBulkEntries {H : Type} : List (Lit × DataW H) → Nat
  | [] => 0
  | x :: r => uptoBulkEntry x + uptoBulkEntries r
def uptoBulkEntry {H : Type} : Lit × DataW H → Nat
  | (.string bytes, d) => bytes.length + uptoBulk d + 1
  | (_, d) => uptoBulk d + 1
 end
def uptoSmall : (H : Type) → List (DataW H) → Bool := fun _ ds => decide (uptoBulkAll ds ≤ 1048576)
def OpenSpec.upto (s : _root_.Go.ChangeSpec) : _root_.Go.OpenSpec := { _root_.Go.OpenSpec.ofChange s with cond := some uptoSmall }

/-- 'milestonelaw14.BothErrors', WHERE WHAT IT READS IS OF BULK AT MOST 1048576: true; the input reads as it did. -/
def bothErrorsUptoRow : OpenClaim := { program := "ytkeoponidgpfpaagreatdoor", sum := "7c28e222a8b1f8ce58648c7383501bb314b893f30521746edc3c2f915afb27a3", func := "milestone/milestonelaw14.BothErrors", spec := "bothErrors", inPlace := ["internal/reflectlite.ValueOf", "(internal/reflectlite.Value).Type", "(internal/reflectlite.Value).IsNil", "internal/reflectlite.TypeOf", "(internal/reflectlite.Value).Elem", "(internal/reflectlite.Value).Set"], unfollowed := true, recurses := true, named := ["errors.errorType"], plainKeys := false, apart := false, laid := [("errors.errorType", laid_errors_errorType)], narrowed := true }
def BothErrorsUptoSaid : Prop := bothErrorsUptoRow.holds Tryz.pinned (OpenSpec.upto bothErrorsSpec)

/-- 'milestonelaw14.BothTurned', WHERE WHAT IT READS IS OF BULK AT MOST 1048576: true; the input reads as it did. -/
def bothTurnedUptoRow : OpenClaim := { program := "ytkeoponidgpfpaagreatdoor", sum := "7c28e222a8b1f8ce58648c7383501bb314b893f30521746edc3c2f915afb27a3", func := "milestone/milestonelaw14.BothTurned", spec := "bothTurned", inPlace := ["internal/reflectlite.ValueOf", "(internal/reflectlite.Value).Type", "(internal/reflectlite.Value).IsNil", "internal/reflectlite.TypeOf", "(internal/reflectlite.Value).Elem", "(internal/reflectlite.Value).Set"], unfollowed := true, recurses := true, named := ["errors.errorType"], plainKeys := false, apart := false, laid := [("errors.errorType", laid_errors_errorType)], narrowed := true }
def BothTurnedUptoSaid : Prop := bothTurnedUptoRow.holds Tryz.pinned (OpenSpec.upto bothTurnedSpec)

/-- 'milestonelaw14.BothLabels', WHERE WHAT IT READS IS OF BULK AT MOST 1048576: true; the input reads as it did. -/
def bothLabelsUptoRow : OpenClaim := { program := "ytkeoponidgpfpaagreatdoor", sum := "7c28e222a8b1f8ce58648c7383501bb314b893f30521746edc3c2f915afb27a3", func := "milestone/milestonelaw14.BothLabels", spec := "bothLabels", inPlace := ["internal/reflectlite.ValueOf", "(internal/reflectlite.Value).Type", "(internal/reflectlite.Value).IsNil", "internal/reflectlite.TypeOf", "(internal/reflectlite.Value).Elem", "(internal/reflectlite.Value).Set"], unfollowed := true, recurses := true, named := ["errors.errorType"], plainKeys := false, apart := false, laid := [("errors.errorType", laid_errors_errorType)], narrowed := true }
def BothLabelsUptoSaid : Prop := bothLabelsUptoRow.holds Tryz.pinned (OpenSpec.upto bothLabelsSpec)

/-- 'milestonelaw14.BothExact', WHERE WHAT IT READS IS OF BULK AT MOST 1048576: true; the input reads as it did. -/
def bothExactUptoRow : OpenClaim := { program := "ytkeoponidgpfpaagreatdoor", sum := "7c28e222a8b1f8ce58648c7383501bb314b893f30521746edc3c2f915afb27a3", func := "milestone/milestonelaw14.BothExact", spec := "bothExact", inPlace := ["internal/reflectlite.ValueOf", "(internal/reflectlite.Value).Type", "(internal/reflectlite.Value).IsNil", "internal/reflectlite.TypeOf", "(internal/reflectlite.Value).Elem", "(internal/reflectlite.Value).Set"], unfollowed := true, recurses := true, named := ["errors.errorType"], plainKeys := false, apart := false, laid := [("errors.errorType", laid_errors_errorType)], narrowed := true }
def BothExactUptoSaid : Prop := bothExactUptoRow.holds Tryz.pinned (OpenSpec.upto bothExactSpec)

/-- 'milestonelaw14.BothOnce', WHERE WHAT IT READS IS OF BULK AT MOST 1048576: true; the input reads as it did. -/
def bothOnceUptoRow : OpenClaim := { program := "ytkeoponidgpfpaagreatdoor", sum := "7c28e222a8b1f8ce58648c7383501bb314b893f30521746edc3c2f915afb27a3", func := "milestone/milestonelaw14.BothOnce", spec := "bothOnce", inPlace := ["internal/reflectlite.ValueOf", "(internal/reflectlite.Value).Type", "(internal/reflectlite.Value).IsNil", "internal/reflectlite.TypeOf", "(internal/reflectlite.Value).Elem", "(internal/reflectlite.Value).Set"], unfollowed := true, recurses := true, named := ["errors.errorType"], plainKeys := false, apart := false, laid := [("errors.errorType", laid_errors_errorType)], narrowed := true }
def BothOnceUptoSaid : Prop := bothOnceUptoRow.holds Tryz.pinned (OpenSpec.upto bothOnceSpec)

/-- 'milestonelaw14.BothPlain', WHERE WHAT IT READS IS OF BULK AT MOST 1048576: true; the input reads as it did. -/
def bothPlainUptoRow : OpenClaim := { program := "ytkeoponidgpfpaagreatdoor", sum := "7c28e222a8b1f8ce58648c7383501bb314b893f30521746edc3c2f915afb27a3", func := "milestone/milestonelaw14.BothPlain", spec := "bothPlain", inPlace := ["internal/reflectlite.ValueOf", "(internal/reflectlite.Value).Type", "(internal/reflectlite.Value).IsNil", "internal/reflectlite.TypeOf", "(internal/reflectlite.Value).Elem", "(internal/reflectlite.Value).Set"], unfollowed := true, recurses := true, named := ["errors.errorType"], plainKeys := false, apart := false, laid := [("errors.errorType", laid_errors_errorType)], narrowed := true }
def BothPlainUptoSaid : Prop := bothPlainUptoRow.holds Tryz.pinned (OpenSpec.upto bothPlainSpec)

end Rows
end Go.Proofs.YtkeoponidgpfpaaGreatDoor
