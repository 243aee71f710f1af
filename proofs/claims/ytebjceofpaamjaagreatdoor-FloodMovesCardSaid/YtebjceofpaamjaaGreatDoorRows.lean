/-
  NARROWER THAN 'FOR EVERY INPUT', by the rows' own cells (each row's printed sentence says how): FloodTells: laid · FloodLeast: laid · FloodSure: laid · FloodTurned: laid · FloodMoves: laid.
  DERIVED. THE GIVEN ROWS OF THIS SEAT. 5 by the template 'for every input the law returns true; each argument reads behind the call as it read before'; 0 by the template 'total and deterministic' (their statements: YtebjceofpaamjaaGreatDoorTotals.lean).
  GIVEN WITH THE SEED: the statements are not yours to turn. If you find one false, say at which input.
  Laid BY PROGRAM, IN A SANDBOX (cutbox-rows.mjs): the forced cells as the released guide's own fill.sh prints them over the translation b4273ec19a26002b… (all of the seat's roots in one cut). By AI agents, Wed Nov 11 2026. No macro, syntax, notation, axiom, sorry.
-/
import Derived.Test.YtebjceofpaamjaaGreatDoorChecked
import GoSem.Claim
import GoSem.ClaimJoined
import GoSem.ClaimMapViews
import Derived.JoinedTies
import Derived.KernelRfl
namespace Go.Proofs.YtebjceofpaamjaaGreatDoor
/- THE CELL 'sum', in the pinned program and in every row, IS THE sha256 OF THE DUMP (.gsa) THAT YtebjceofpaamjaaGreatDoorProg.lean LOADS. Nothing in Lean hashes anything: it is a label: what it is worth is what the hold of that sum in a sandbox is worth. -/
noncomputable def Tryz.pinned : Pinned := { name := "ytebjceofpaamjaagreatdoor", sum := "b4273ec19a26002bfcf6ca8b9fdd9d677d054b393075400bb4a3531e7146f383", checked := Tryz.checked }
namespace Rows
def none {H : Type} : Left H := { results := [], args := [] }

/- WHAT THE LISTED PACKAGE-LEVEL VARIABLES READ AS WHEN THE CALL BEGINS. Each datum BY PROGRAM (the guide's laid-datum.mjs) off the statement by which the dump's own 'gosem.cut.vars' lays the variable. In a bare row this is a premise. The card (YtebjceofpaamjaaGreatDoorCards.lean) ties it to the program's text. -/
def laid_errors_errorType {H : Type} : DataW H := .iface "internal/reflectlite.rtype" (.agg [.ptr (.lit (.string [101, 114, 114, 111, 114]))])

/-- 'milestonelaw10.FloodTells': WHATEVER THE INPUT: true; the input reads as it did. -/
def floodTellsSpec : ChangeSpec := { name := "floodTells", fn := fun _ => fun
  | [d1, d2] => { results := [.lit (.bool true)], args := [d1, d2] }
  | _ => none }
def floodTellsRow : OpenClaim := { program := "ytebjceofpaamjaagreatdoor", sum := "b4273ec19a26002bfcf6ca8b9fdd9d677d054b393075400bb4a3531e7146f383", func := "milestone/milestonelaw10.FloodTells", spec := "floodTells", inPlace := ["internal/reflectlite.ValueOf", "(internal/reflectlite.Value).Type", "(internal/reflectlite.Value).IsNil", "internal/reflectlite.TypeOf", "(internal/reflectlite.Value).Elem", "(internal/reflectlite.Value).Set"], unfollowed := true, recurses := true, named := ["errors.errorType"], apart := false, laid := [("errors.errorType", laid_errors_errorType)] }
def FloodTellsSaid : Prop := floodTellsRow.holds Tryz.pinned (OpenSpec.ofChange floodTellsSpec)

/-- ITS FALSE NEIGHBOUR: 'it returns false'. Refute it at one input. -/
def floodTellsWrong : ChangeSpec := { name := "floodTells", fn := fun _ => fun
  | [d1, d2] => { results := [.lit (.bool false)], args := [d1, d2] }
  | _ => none }
def FloodTellsWrongFalsely : Prop := floodTellsRow.holds Tryz.pinned (OpenSpec.ofChange floodTellsWrong)

/-- 'milestonelaw10.FloodLeast': WHATEVER THE INPUT: true; the input reads as it did. -/
def floodLeastSpec : ChangeSpec := { name := "floodLeast", fn := fun _ => fun
  | [d] => { results := [.lit (.bool true)], args := [d] }
  | _ => none }
def floodLeastRow : OpenClaim := { program := "ytebjceofpaamjaagreatdoor", sum := "b4273ec19a26002bfcf6ca8b9fdd9d677d054b393075400bb4a3531e7146f383", func := "milestone/milestonelaw10.FloodLeast", spec := "floodLeast", inPlace := ["internal/reflectlite.ValueOf", "(internal/reflectlite.Value).Type", "(internal/reflectlite.Value).IsNil", "internal/reflectlite.TypeOf", "(internal/reflectlite.Value).Elem", "(internal/reflectlite.Value).Set"], unfollowed := true, recurses := true, named := ["errors.errorType"], apart := false, laid := [("errors.errorType", laid_errors_errorType)] }
def FloodLeastSaid : Prop := floodLeastRow.holds Tryz.pinned (OpenSpec.ofChange floodLeastSpec)

/-- ITS FALSE NEIGHBOUR: 'it returns false'. Refute it at one input. -/
def floodLeastWrong : ChangeSpec := { name := "floodLeast", fn := fun _ => fun
  | [d] => { results := [.lit (.bool false)], args := [d] }
  | _ => none }
def FloodLeastWrongFalsely : Prop := floodLeastRow.holds Tryz.pinned (OpenSpec.ofChange floodLeastWrong)

/-- 'milestonelaw10.FloodSure': WHATEVER THE INPUT: true; the input reads as it did. -/
def floodSureSpec : ChangeSpec := { name := "floodSure", fn := fun _ => fun
  | [d1, d2] => { results := [.lit (.bool true)], args := [d1, d2] }
  | _ => none }
def floodSureRow : OpenClaim := { program := "ytebjceofpaamjaagreatdoor", sum := "b4273ec19a26002bfcf6ca8b9fdd9d677d054b393075400bb4a3531e7146f383", func := "milestone/milestonelaw10.FloodSure", spec := "floodSure", inPlace := ["internal/reflectlite.ValueOf", "(internal/reflectlite.Value).Type", "(internal/reflectlite.Value).IsNil", "internal/reflectlite.TypeOf", "(internal/reflectlite.Value).Elem", "(internal/reflectlite.Value).Set"], unfollowed := true, recurses := true, named := ["errors.errorType"], apart := false, laid := [("errors.errorType", laid_errors_errorType)] }
def FloodSureSaid : Prop := floodSureRow.holds Tryz.pinned (OpenSpec.ofChange floodSureSpec)

/-- ITS FALSE NEIGHBOUR: 'it returns false'. Refute it at one input. -/
def floodSureWrong : ChangeSpec := { name := "floodSure", fn := fun _ => fun
  | [d1, d2] => { results := [.lit (.bool false)], args := [d1, d2] }
  | _ => none }
def FloodSureWrongFalsely : Prop := floodSureRow.holds Tryz.pinned (OpenSpec.ofChange floodSureWrong)

/-- 'milestonelaw10.FloodTurned': WHATEVER THE INPUT: true; the input reads as it did. -/
def floodTurnedSpec : ChangeSpec := { name := "floodTurned", fn := fun _ => fun
  | [d1, d2] => { results := [.lit (.bool true)], args := [d1, d2] }
  | _ => none }
def floodTurnedRow : OpenClaim := { program := "ytebjceofpaamjaagreatdoor", sum := "b4273ec19a26002bfcf6ca8b9fdd9d677d054b393075400bb4a3531e7146f383", func := "milestone/milestonelaw10.FloodTurned", spec := "floodTurned", inPlace := ["internal/reflectlite.ValueOf", "(internal/reflectlite.Value).Type", "(internal/reflectlite.Value).IsNil", "internal/reflectlite.TypeOf", "(internal/reflectlite.Value).Elem", "(internal/reflectlite.Value).Set"], unfollowed := true, recurses := true, named := ["errors.errorType"], apart := false, laid := [("errors.errorType", laid_errors_errorType)] }
def FloodTurnedSaid : Prop := floodTurnedRow.holds Tryz.pinned (OpenSpec.ofChange floodTurnedSpec)

/-- ITS FALSE NEIGHBOUR: 'it returns false'. Refute it at one input. -/
def floodTurnedWrong : ChangeSpec := { name := "floodTurned", fn := fun _ => fun
  | [d1, d2] => { results := [.lit (.bool false)], args := [d1, d2] }
  | _ => none }
def FloodTurnedWrongFalsely : Prop := floodTurnedRow.holds Tryz.pinned (OpenSpec.ofChange floodTurnedWrong)

/-- 'milestonelaw10.FloodMoves': WHATEVER THE INPUT: true; the input reads as it did. -/
def floodMovesSpec : ChangeSpec := { name := "floodMoves", fn := fun _ => fun
  | [d1, d2, d3] => { results := [.lit (.bool true)], args := [d1, d2, d3] }
  | _ => none }
def floodMovesRow : OpenClaim := { program := "ytebjceofpaamjaagreatdoor", sum := "b4273ec19a26002bfcf6ca8b9fdd9d677d054b393075400bb4a3531e7146f383", func := "milestone/milestonelaw10.FloodMoves", spec := "floodMoves", inPlace := ["internal/reflectlite.ValueOf", "(internal/reflectlite.Value).Type", "(internal/reflectlite.Value).IsNil", "internal/reflectlite.TypeOf", "(internal/reflectlite.Value).Elem", "(internal/reflectlite.Value).Set"], unfollowed := true, recurses := true, named := ["errors.errorType"], apart := false, laid := [("errors.errorType", laid_errors_errorType)] }
def FloodMovesSaid : Prop := floodMovesRow.holds Tryz.pinned (OpenSpec.ofChange floodMovesSpec)

/-- ITS FALSE NEIGHBOUR: 'it returns false'. Refute it at one input. -/
def floodMovesWrong : ChangeSpec := { name := "floodMoves", fn := fun _ => fun
  | [d1, d2, d3] => { results := [.lit (.bool false)], args := [d1, d2, d3] }
  | _ => none }
def FloodMovesWrongFalsely : Prop := floodMovesRow.holds Tryz.pinned (OpenSpec.ofChange floodMovesWrong)

/- THE SECOND FORM. 'bulk': how many values and letters a reading holds, each counted each time it is reached (what is shared counts as often as it is met; a slice's spare places count too). A statement '..UptoSaid' is the law's where the arguments, and the package variables that the reading takes, are together of bulk at most 1048576: NARROWER than '..Said'. Prove '..Said' where nothing that the law and all that it calls make is longer than what came in: it says more and counts as full. Else prove '..UptoSaid'. A law counts once. -/
mutual
def uptoBulk {H : Type} : DataW H → Nat
  | .lit (.string bytes) => bytes.length + 1
  | .lit _ => 1
  | .nil => 1
  | .ptr d => uptoBulk d + 1
  | .slice elems spare => uptoBulkAll elems + uptoBulkAll spare + 1
  | .agg parts => uptoBulkAll parts + 1
  | .iface _ d => uptoBulk d + 1
  | .map entries => uptoBulkEntries entries + 1
  | .held _ => 1
def uptoBulkAll {H : Type} : List (DataW H) → Nat
  | [] => 0
  | d :: r => uptoBulk d + uptoBulkAll r
def uptoBulkEntries {H : Type} : List (Lit × DataW H) → Nat
  | [] => 0
  | x :: r => uptoBulkEntry x + uptoBulkEntries r
def uptoBulkEntry {H : Type} : Lit × DataW H → Nat
  | (.string bytes, d) => bytes.length + uptoBulk d + 1
  | (_, d) => uptoBulk d + 1
 end
def uptoSmall : (H : Type) → List (DataW H) → Bool := fun _ ds => decide (uptoBulkAll ds ≤ 1048576)
def OpenSpec.upto (s : _root_.Go.ChangeSpec) : _root_.Go.OpenSpec := { _root_.Go.OpenSpec.ofChange s with cond := some uptoSmall }

/-- 'milestonelaw10.FloodTells', WHERE WHAT IT READS IS OF BULK AT MOST 1048576: true; the input reads as it did. -/
def floodTellsUptoRow : OpenClaim := { program := "ytebjceofpaamjaagreatdoor", sum := "b4273ec19a26002bfcf6ca8b9fdd9d677d054b393075400bb4a3531e7146f383", func := "milestone/milestonelaw10.FloodTells", spec := "floodTells", inPlace := ["internal/reflectlite.ValueOf", "(internal/reflectlite.Value).Type", "(internal/reflectlite.Value).IsNil", "internal/reflectlite.TypeOf", "(internal/reflectlite.Value).Elem", "(internal/reflectlite.Value).Set"], unfollowed := true, recurses := true, named := ["errors.errorType"], apart := false, laid := [("errors.errorType", laid_errors_errorType)], narrowed := true }
def FloodTellsUptoSaid : Prop := floodTellsUptoRow.holds Tryz.pinned (OpenSpec.upto floodTellsSpec)

/-- 'milestonelaw10.FloodLeast', WHERE WHAT IT READS IS OF BULK AT MOST 1048576: true; the input reads as it did. -/
def floodLeastUptoRow : OpenClaim := { program := "ytebjceofpaamjaagreatdoor", sum := "b4273ec19a26002bfcf6ca8b9fdd9d677d054b393075400bb4a3531e7146f383", func := "milestone/milestonelaw10.FloodLeast", spec := "floodLeast", inPlace := ["internal/reflectlite.ValueOf", "(internal/reflectlite.Value).Type", "(internal/reflectlite.Value).IsNil", "internal/reflectlite.TypeOf", "(internal/reflectlite.Value).Elem", "(internal/reflectlite.Value).Set"], unfollowed := true, recurses := true, named := ["errors.errorType"], apart := false, laid := [("errors.errorType", laid_errors_errorType)], narrowed := true }
def FloodLeastUptoSaid : Prop := floodLeastUptoRow.holds Tryz.pinned (OpenSpec.upto floodLeastSpec)

/-- 'milestonelaw10.FloodSure', WHERE WHAT IT READS IS OF BULK AT MOST 1048576: true; the input reads as it did. -/
def floodSureUptoRow : OpenClaim := { program := "ytebjceofpaamjaagreatdoor", sum := "b4273ec19a26002bfcf6ca8b9fdd9d677d054b393075400bb4a3531e7146f383", func := "milestone/milestonelaw10.FloodSure", spec := "floodSure", inPlace := ["internal/reflectlite.ValueOf", "(internal/reflectlite.Value).Type", "(internal/reflectlite.Value).IsNil", "internal/reflectlite.TypeOf", "(internal/reflectlite.Value).Elem", "(internal/reflectlite.Value).Set"], unfollowed := true, recurses := true, named := ["errors.errorType"], apart := false, laid := [("errors.errorType", laid_errors_errorType)], narrowed := true }
def FloodSureUptoSaid : Prop := floodSureUptoRow.holds Tryz.pinned (OpenSpec.upto floodSureSpec)

/-- 'milestonelaw10.FloodTurned', WHERE WHAT IT READS IS OF BULK AT MOST 1048576: true; the input reads as it did. -/
def floodTurnedUptoRow : OpenClaim := { program := "ytebjceofpaamjaagreatdoor", sum := "b4273ec19a26002bfcf6ca8b9fdd9d677d054b393075400bb4a3531e7146f383", func := "milestone/milestonelaw10.FloodTurned", spec := "floodTurned", inPlace := ["internal/reflectlite.ValueOf", "(internal/reflectlite.Value).Type", "(internal/reflectlite.Value).IsNil", "internal/reflectlite.TypeOf", "(internal/reflectlite.Value).Elem", "(internal/reflectlite.Value).Set"], unfollowed := true, recurses := true, named := ["errors.errorType"], apart := false, laid := [("errors.errorType", laid_errors_errorType)], narrowed := true }
def FloodTurnedUptoSaid : Prop := floodTurnedUptoRow.holds Tryz.pinned (OpenSpec.upto floodTurnedSpec)

/-- 'milestonelaw10.FloodMoves', WHERE WHAT IT READS IS OF BULK AT MOST 1048576: true; the input reads as it did. -/
def floodMovesUptoRow : OpenClaim := { program := "ytebjceofpaamjaagreatdoor", sum := "b4273ec19a26002bfcf6ca8b9fdd9d677d054b393075400bb4a3531e7146f383", func := "milestone/milestonelaw10.FloodMoves", spec := "floodMoves", inPlace := ["internal/reflectlite.ValueOf", "(internal/reflectlite.Value).Type", "(internal/reflectlite.Value).IsNil", "internal/reflectlite.TypeOf", "(internal/reflectlite.Value).Elem", "(internal/reflectlite.Value).Set"], unfollowed := true, recurses := true, named := ["errors.errorType"], apart := false, laid := [("errors.errorType", laid_errors_errorType)], narrowed := true }
def FloodMovesUptoSaid : Prop := floodMovesUptoRow.holds Tryz.pinned (OpenSpec.upto floodMovesSpec)

end Rows
end Go.Proofs.YtebjceofpaamjaaGreatDoor
