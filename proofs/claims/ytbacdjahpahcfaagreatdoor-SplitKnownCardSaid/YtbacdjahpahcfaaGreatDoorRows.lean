/-
  NARROWER THAN 'FOR EVERY INPUT', by the rows' own cells (each row's printed sentence says how): SplitTells: laid · SplitEven: laid · SplitHalves: laid · SplitMoves: laid · SplitKnown: laid.
  DERIVED. THE GIVEN ROWS OF THIS SEAT. 5 by the template 'for every input the law returns true; each argument reads behind the call as it read before'; 0 by the template 'total and deterministic' (their statements: YtbacdjahpahcfaaGreatDoorTotals.lean).
  GIVEN WITH THE SEED: the statements are not yours to turn. If you find one false, say at which input.
  Laid BY PROGRAM, IN A SANDBOX (cutbox-rows.mjs): the forced cells as the released guide's own fill.sh prints them over the translation f4c3026478ca5232… (all of the seat's roots in one cut). By AI agents, Wed Nov 11 2026. No macro, syntax, notation, axiom, sorry.
-/
import Derived.Test.YtbacdjahpahcfaaGreatDoorChecked
import GoSem.Claim
import GoSem.ClaimJoined
import GoSem.ClaimMapViews
import Derived.JoinedTies
import Derived.KernelRfl
namespace Go.Proofs.YtbacdjahpahcfaaGreatDoor
/- THE CELL 'sum', in the pinned program and in every row, IS THE sha256 OF THE DUMP (.gsa) THAT YtbacdjahpahcfaaGreatDoorProg.lean LOADS. Nothing in Lean hashes anything: it is a label: what it is worth is what the hold of that sum in a sandbox is worth. -/
noncomputable def Tryz.pinned : Pinned := { name := "ytbacdjahpahcfaagreatdoor", sum := "f4c3026478ca52327343177a3bc0a062f6484f4820b0718a693bd507283b174c", checked := Tryz.checked }
namespace Rows
def none {H : Type} : Left H := { results := [], args := [] }

/- WHAT THE LISTED PACKAGE-LEVEL VARIABLES READ AS WHEN THE CALL BEGINS. Each datum BY PROGRAM (the guide's laid-datum.mjs) off the statement by which the dump's own 'gosem.cut.vars' lays the variable. In a bare row this is a premise. The card (YtbacdjahpahcfaaGreatDoorCards.lean) ties it to the program's text. -/
def laid_errors_errorType {H : Type} : DataW H := .iface "internal/reflectlite.rtype" (.agg [.ptr (.lit (.string [101, 114, 114, 111, 114]))])

/-- 'milestonelaw22.SplitTells': WHATEVER THE INPUT: true; the input reads as it did. -/
def splitTellsSpec : ChangeSpec := { name := "splitTells", fn := fun _ => fun
  | [d1, d2, d3] => { results := [.lit (.bool true)], args := [d1, d2, d3] }
  | _ => none }
def splitTellsRow : OpenClaim := { program := "ytbacdjahpahcfaagreatdoor", sum := "f4c3026478ca52327343177a3bc0a062f6484f4820b0718a693bd507283b174c", func := "milestone/milestonelaw22.SplitTells", spec := "splitTells", inPlace := ["internal/reflectlite.ValueOf", "(internal/reflectlite.Value).Type", "(internal/reflectlite.Value).IsNil", "internal/reflectlite.TypeOf", "(internal/reflectlite.Value).Elem", "(internal/reflectlite.Value).Set"], unfollowed := true, recurses := true, named := ["errors.errorType"], apart := false, laid := [("errors.errorType", laid_errors_errorType)] }
def SplitTellsSaid : Prop := splitTellsRow.holds Tryz.pinned (OpenSpec.ofChange splitTellsSpec)

/-- ITS FALSE NEIGHBOUR: 'it returns false'. Refute it at one input. -/
def splitTellsWrong : ChangeSpec := { name := "splitTells", fn := fun _ => fun
  | [d1, d2, d3] => { results := [.lit (.bool false)], args := [d1, d2, d3] }
  | _ => none }
def SplitTellsWrongFalsely : Prop := splitTellsRow.holds Tryz.pinned (OpenSpec.ofChange splitTellsWrong)

/-- 'milestonelaw22.SplitEven': WHATEVER THE INPUT: true; the input reads as it did. -/
def splitEvenSpec : ChangeSpec := { name := "splitEven", fn := fun _ => fun
  | [d1, d2, d3] => { results := [.lit (.bool true)], args := [d1, d2, d3] }
  | _ => none }
def splitEvenRow : OpenClaim := { program := "ytbacdjahpahcfaagreatdoor", sum := "f4c3026478ca52327343177a3bc0a062f6484f4820b0718a693bd507283b174c", func := "milestone/milestonelaw22.SplitEven", spec := "splitEven", inPlace := ["internal/reflectlite.ValueOf", "(internal/reflectlite.Value).Type", "(internal/reflectlite.Value).IsNil", "internal/reflectlite.TypeOf", "(internal/reflectlite.Value).Elem", "(internal/reflectlite.Value).Set"], unfollowed := true, recurses := true, named := ["errors.errorType"], apart := false, laid := [("errors.errorType", laid_errors_errorType)] }
def SplitEvenSaid : Prop := splitEvenRow.holds Tryz.pinned (OpenSpec.ofChange splitEvenSpec)

/-- ITS FALSE NEIGHBOUR: 'it returns false'. Refute it at one input. -/
def splitEvenWrong : ChangeSpec := { name := "splitEven", fn := fun _ => fun
  | [d1, d2, d3] => { results := [.lit (.bool false)], args := [d1, d2, d3] }
  | _ => none }
def SplitEvenWrongFalsely : Prop := splitEvenRow.holds Tryz.pinned (OpenSpec.ofChange splitEvenWrong)

/-- 'milestonelaw22.SplitHalves': WHATEVER THE INPUT: true; the input reads as it did. -/
def splitHalvesSpec : ChangeSpec := { name := "splitHalves", fn := fun _ => fun
  | [d1, d2] => { results := [.lit (.bool true)], args := [d1, d2] }
  | _ => none }
def splitHalvesRow : OpenClaim := { program := "ytbacdjahpahcfaagreatdoor", sum := "f4c3026478ca52327343177a3bc0a062f6484f4820b0718a693bd507283b174c", func := "milestone/milestonelaw22.SplitHalves", spec := "splitHalves", inPlace := ["internal/reflectlite.ValueOf", "(internal/reflectlite.Value).Type", "(internal/reflectlite.Value).IsNil", "internal/reflectlite.TypeOf", "(internal/reflectlite.Value).Elem", "(internal/reflectlite.Value).Set"], unfollowed := true, recurses := true, named := ["errors.errorType"], apart := false, laid := [("errors.errorType", laid_errors_errorType)] }
def SplitHalvesSaid : Prop := splitHalvesRow.holds Tryz.pinned (OpenSpec.ofChange splitHalvesSpec)

/-- ITS FALSE NEIGHBOUR: 'it returns false'. Refute it at one input. -/
def splitHalvesWrong : ChangeSpec := { name := "splitHalves", fn := fun _ => fun
  | [d1, d2] => { results := [.lit (.bool false)], args := [d1, d2] }
  | _ => none }
def SplitHalvesWrongFalsely : Prop := splitHalvesRow.holds Tryz.pinned (OpenSpec.ofChange splitHalvesWrong)

/-- 'milestonelaw22.SplitMoves': WHATEVER THE INPUT: true; the input reads as it did. -/
def splitMovesSpec : ChangeSpec := { name := "splitMoves", fn := fun _ => fun
  | [d1, d2, d3] => { results := [.lit (.bool true)], args := [d1, d2, d3] }
  | _ => none }
def splitMovesRow : OpenClaim := { program := "ytbacdjahpahcfaagreatdoor", sum := "f4c3026478ca52327343177a3bc0a062f6484f4820b0718a693bd507283b174c", func := "milestone/milestonelaw22.SplitMoves", spec := "splitMoves", inPlace := ["internal/reflectlite.ValueOf", "(internal/reflectlite.Value).Type", "(internal/reflectlite.Value).IsNil", "internal/reflectlite.TypeOf", "(internal/reflectlite.Value).Elem", "(internal/reflectlite.Value).Set"], unfollowed := true, recurses := true, named := ["errors.errorType"], apart := false, laid := [("errors.errorType", laid_errors_errorType)] }
def SplitMovesSaid : Prop := splitMovesRow.holds Tryz.pinned (OpenSpec.ofChange splitMovesSpec)

/-- ITS FALSE NEIGHBOUR: 'it returns false'. Refute it at one input. -/
def splitMovesWrong : ChangeSpec := { name := "splitMoves", fn := fun _ => fun
  | [d1, d2, d3] => { results := [.lit (.bool false)], args := [d1, d2, d3] }
  | _ => none }
def SplitMovesWrongFalsely : Prop := splitMovesRow.holds Tryz.pinned (OpenSpec.ofChange splitMovesWrong)

/-- 'milestonelaw22.SplitKnown': WHATEVER THE INPUT: true; the input reads as it did. -/
def splitKnownSpec : ChangeSpec := { name := "splitKnown", fn := fun _ => fun
  | [] => { results := [.lit (.bool true)], args := [] }
  | _ => none }
def splitKnownRow : OpenClaim := { program := "ytbacdjahpahcfaagreatdoor", sum := "f4c3026478ca52327343177a3bc0a062f6484f4820b0718a693bd507283b174c", func := "milestone/milestonelaw22.SplitKnown", spec := "splitKnown", inPlace := ["internal/reflectlite.ValueOf", "(internal/reflectlite.Value).Type", "(internal/reflectlite.Value).IsNil", "internal/reflectlite.TypeOf", "(internal/reflectlite.Value).Elem", "(internal/reflectlite.Value).Set"], unfollowed := true, recurses := true, named := ["errors.errorType"], apart := false, laid := [("errors.errorType", laid_errors_errorType)] }
def SplitKnownSaid : Prop := splitKnownRow.holds Tryz.pinned (OpenSpec.ofChange splitKnownSpec)

/-- ITS FALSE NEIGHBOUR: 'it returns false'. Refute it at one input. -/
def splitKnownWrong : ChangeSpec := { name := "splitKnown", fn := fun _ => fun
  | [] => { results := [.lit (.bool false)], args := [] }
  | _ => none }
def SplitKnownWrongFalsely : Prop := splitKnownRow.holds Tryz.pinned (OpenSpec.ofChange splitKnownWrong)

/- THE SECOND FORM. 'bulk': how many values and letters a reading holds, each counted each time it is reached (what is shared counts as often as it is met; a slice's spare places count too). A statement '..UptoSaid' is the law's where the arguments, and the package variables that the reading takes, are together of bulk at most 1048576: NARROWER than '..Said'. Prove '..Said' where nothing that the law and all that it calls make is longer than what came in: it says more and counts as full. Else prove '..UptoSaid'. A law counts once. -/
mutual
def uptoBulk {H : Type} : DataW H → Nat
  | .lit (.string bytes) => bytes.length + 1
  | .lit _ => 1
  | .nil => 1
  | .ptr d => uptoBulk d + 1
  | .slice elems spare => uptoBulkAll elems + uptoBulkAll spare + 1
  | .agg parts => uptoBulkAll parts + 1
  | .iface _ d => uptoBulk d + 1
  | .map entries => uptoBulkEntries entries + 1
  | .held _ => 1
def uptoBulkAll {H : Type} : List (DataW H) → Nat
  | [] => 0
  | d :: r => uptoBulk d + uptoBulkAll r
def uptoBulkEntries {H : Type} : List (Lit × DataW H) → Nat
  | [] => 0
  | x :: r => uptoBulkEntry x + uptoBulkEntries r
def uptoBulkEntry {H : Type} : Lit × DataW H → Nat
  | (.string bytes, d) => bytes.length + uptoBulk d + 1
  | (_, d) => uptoBulk d + 1
 end
def uptoSmall : (H : Type) → List (DataW H) → Bool := fun _ ds => decide (uptoBulkAll ds ≤ 1048576)
def OpenSpec.upto (s : _root_.Go.ChangeSpec) : _root_.Go.OpenSpec := { _root_.Go.OpenSpec.ofChange s with cond := some uptoSmall }

/-- 'milestonelaw22.SplitTells', WHERE WHAT IT READS IS OF BULK AT MOST 1048576: true; the input reads as it did. -/
def splitTellsUptoRow : OpenClaim := { program := "ytbacdjahpahcfaagreatdoor", sum := "f4c3026478ca52327343177a3bc0a062f6484f4820b0718a693bd507283b174c", func := "milestone/milestonelaw22.SplitTells", spec := "splitTells", inPlace := ["internal/reflectlite.ValueOf", "(internal/reflectlite.Value).Type", "(internal/reflectlite.Value).IsNil", "internal/reflectlite.TypeOf", "(internal/reflectlite.Value).Elem", "(internal/reflectlite.Value).Set"], unfollowed := true, recurses := true, named := ["errors.errorType"], apart := false, laid := [("errors.errorType", laid_errors_errorType)], narrowed := true }
def SplitTellsUptoSaid : Prop := splitTellsUptoRow.holds Tryz.pinned (OpenSpec.upto splitTellsSpec)

/-- 'milestonelaw22.SplitEven', WHERE WHAT IT READS IS OF BULK AT MOST 1048576: true; the input reads as it did. -/
def splitEvenUptoRow : OpenClaim := { program := "ytbacdjahpahcfaagreatdoor", sum := "f4c3026478ca52327343177a3bc0a062f6484f4820b0718a693bd507283b174c", func := "milestone/milestonelaw22.SplitEven", spec := "splitEven", inPlace := ["internal/reflectlite.ValueOf", "(internal/reflectlite.Value).Type", "(internal/reflectlite.Value).IsNil", "internal/reflectlite.TypeOf", "(internal/reflectlite.Value).Elem", "(internal/reflectlite.Value).Set"], unfollowed := true, recurses := true, named := ["errors.errorType"], apart := false, laid := [("errors.errorType", laid_errors_errorType)], narrowed := true }
def SplitEvenUptoSaid : Prop := splitEvenUptoRow.holds Tryz.pinned (OpenSpec.upto splitEvenSpec)

/-- 'milestonelaw22.SplitHalves', WHERE WHAT IT READS IS OF BULK AT MOST 1048576: true; the input reads as it did. -/
def splitHalvesUptoRow : OpenClaim := { program := "ytbacdjahpahcfaagreatdoor", sum := "f4c3026478ca52327343177a3bc0a062f6484f4820b0718a693bd507283b174c", func := "milestone/milestonelaw22.SplitHalves", spec := "splitHalves", inPlace := ["internal/reflectlite.ValueOf", "(internal/reflectlite.Value).Type", "(internal/reflectlite.Value).IsNil", "internal/reflectlite.TypeOf", "(internal/reflectlite.Value).Elem", "(internal/reflectlite.Value).Set"], unfollowed := true, recurses := true, named := ["errors.errorType"], apart := false, laid := [("errors.errorType", laid_errors_errorType)], narrowed := true }
def SplitHalvesUptoSaid : Prop := splitHalvesUptoRow.holds Tryz.pinned (OpenSpec.upto splitHalvesSpec)

/-- 'milestonelaw22.SplitMoves', WHERE WHAT IT READS IS OF BULK AT MOST 1048576: true; the input reads as it did. -/
def splitMovesUptoRow : OpenClaim := { program := "ytbacdjahpahcfaagreatdoor", sum := "f4c3026478ca52327343177a3bc0a062f6484f4820b0718a693bd507283b174c", func := "milestone/milestonelaw22.SplitMoves", spec := "splitMoves", inPlace := ["internal/reflectlite.ValueOf", "(internal/reflectlite.Value).Type", "(internal/reflectlite.Value).IsNil", "internal/reflectlite.TypeOf", "(internal/reflectlite.Value).Elem", "(internal/reflectlite.Value).Set"], unfollowed := true, recurses := true, named := ["errors.errorType"], apart := false, laid := [("errors.errorType", laid_errors_errorType)], narrowed := true }
def SplitMovesUptoSaid : Prop := splitMovesUptoRow.holds Tryz.pinned (OpenSpec.upto splitMovesSpec)

/-- 'milestonelaw22.SplitKnown', WHERE WHAT IT READS IS OF BULK AT MOST 1048576: true; the input reads as it did. -/
def splitKnownUptoRow : OpenClaim := { program := "ytbacdjahpahcfaagreatdoor", sum := "f4c3026478ca52327343177a3bc0a062f6484f4820b0718a693bd507283b174c", func := "milestone/milestonelaw22.SplitKnown", spec := "splitKnown", inPlace := ["internal/reflectlite.ValueOf", "(internal/reflectlite.Value).Type", "(internal/reflectlite.Value).IsNil", "internal/reflectlite.TypeOf", "(internal/reflectlite.Value).Elem", "(internal/reflectlite.Value).Set"], unfollowed := true, recurses := true, named := ["errors.errorType"], apart := false, laid := [("errors.errorType", laid_errors_errorType)], narrowed := true }
def SplitKnownUptoSaid : Prop := splitKnownUptoRow.holds Tryz.pinned (OpenSpec.upto splitKnownSpec)

end Rows
end Go.Proofs.YtbacdjahpahcfaaGreatDoor
