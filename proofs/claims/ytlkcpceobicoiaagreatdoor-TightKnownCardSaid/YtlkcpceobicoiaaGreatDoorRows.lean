/-
  NARROWER THAN 'FOR EVERY INPUT', by the rows' own cells (each row's printed sentence says how): TightLeast: laid · TightAny: laid · TightKnown: laid · TightTells: laid · TightWalks: laid.
  DERIVED. THE GIVEN ROWS OF THIS SEAT. 5 by the template 'for every input the law returns true; each argument reads behind the call as it read before'; 0 by the template 'total and deterministic' (their statements: YtlkcpceobicoiaaGreatDoorTotals.lean).
  GIVEN WITH THE SEED: the statements are not yours to turn. If you find one false, say at which input.
  Laid BY PROGRAM, IN A SANDBOX (cutbox-rows.mjs): the forced cells as the released guide's own fill.sh prints them over the translation feecd2116e4f0245… (all of the seat's roots in one cut). By AI agents, Wed Nov 11 2026. No macro, syntax, notation, axiom, sorry.
-/
import Derived.Test.YtlkcpceobicoiaaGreatDoorChecked
import GoSem.Claim
import GoSem.ClaimJoined
import GoSem.ClaimMapViews
import Derived.JoinedTies
import Derived.KernelRfl
namespace Go.Proofs.YtlkcpceobicoiaaGreatDoor
/- THE CELL 'sum', in the pinned program and in every row, IS THE sha256 OF THE DUMP (.gsa) THAT YtlkcpceobicoiaaGreatDoorProg.lean LOADS. Nothing in Lean hashes anything: it is a label: what it is worth is what the hold of that sum in a sandbox is worth. -/
noncomputable def Tryz.pinned : Pinned := { name := "ytlkcpceobicoiaagreatdoor", sum := "feecd2116e4f0245e45ed881e2a32a88b2c5cd68568c07e705a32d3071cd1274", checked := Tryz.checked }
namespace Rows
def none {H : Type} : Left H := { results := [], args := [] }

/- WHAT THE LISTED PACKAGE-LEVEL VARIABLES READ AS WHEN THE CALL BEGINS. Each datum BY PROGRAM (the guide's laid-datum.mjs) off the statement by which the dump's own 'gosem.cut.vars' lays the variable. In a bare row this is a premise. The card (YtlkcpceobicoiaaGreatDoorCards.lean) ties it to the program's text. -/
def laid_errors_errorType {H : Type} : DataW H := .iface "internal/reflectlite.rtype" (.agg [.ptr (.lit (.string [101, 114, 114, 111, 114]))])

/-- 'milestonelaw24.TightLeast': WHATEVER THE INPUT: true; the input reads as it did. -/
def tightLeastSpec : ChangeSpec := { name := "tightLeast", fn := fun _ => fun
  | [d1, d2] => { results := [.lit (.bool true)], args := [d1, d2] }
  | _ => none }
def tightLeastRow : OpenClaim := { program := "ytlkcpceobicoiaagreatdoor", sum := "feecd2116e4f0245e45ed881e2a32a88b2c5cd68568c07e705a32d3071cd1274", func := "milestone/milestonelaw24.TightLeast", spec := "tightLeast", inPlace := ["internal/reflectlite.ValueOf", "(internal/reflectlite.Value).Type", "(internal/reflectlite.Value).IsNil", "internal/reflectlite.TypeOf", "(internal/reflectlite.Value).Elem", "(internal/reflectlite.Value).Set"], unfollowed := true, recurses := true, named := ["errors.errorType"], apart := false, laid := [("errors.errorType", laid_errors_errorType)] }
def TightLeastSaid : Prop := tightLeastRow.holds Tryz.pinned (OpenSpec.ofChange tightLeastSpec)

/-- ITS FALSE NEIGHBOUR: 'it returns false'. Refute it at one input. -/
def tightLeastWrong : ChangeSpec := { name := "tightLeast", fn := fun _ => fun
  | [d1, d2] => { results := [.lit (.bool false)], args := [d1, d2] }
  | _ => none }
def TightLeastWrongFalsely : Prop := tightLeastRow.holds Tryz.pinned (OpenSpec.ofChange tightLeastWrong)

/-- 'milestonelaw24.TightAny': WHATEVER THE INPUT: true; the input reads as it did. -/
def tightAnySpec : ChangeSpec := { name := "tightAny", fn := fun _ => fun
  | [d1, d2, d3] => { results := [.lit (.bool true)], args := [d1, d2, d3] }
  | _ => none }
def tightAnyRow : OpenClaim := { program := "ytlkcpceobicoiaagreatdoor", sum := "feecd2116e4f0245e45ed881e2a32a88b2c5cd68568c07e705a32d3071cd1274", func := "milestone/milestonelaw24.TightAny", spec := "tightAny", inPlace := ["internal/reflectlite.ValueOf", "(internal/reflectlite.Value).Type", "(internal/reflectlite.Value).IsNil", "internal/reflectlite.TypeOf", "(internal/reflectlite.Value).Elem", "(internal/reflectlite.Value).Set"], unfollowed := true, recurses := true, named := ["errors.errorType"], apart := false, laid := [("errors.errorType", laid_errors_errorType)] }
def TightAnySaid : Prop := tightAnyRow.holds Tryz.pinned (OpenSpec.ofChange tightAnySpec)

/-- ITS FALSE NEIGHBOUR: 'it returns false'. Refute it at one input. -/
def tightAnyWrong : ChangeSpec := { name := "tightAny", fn := fun _ => fun
  | [d1, d2, d3] => { results := [.lit (.bool false)], args := [d1, d2, d3] }
  | _ => none }
def TightAnyWrongFalsely : Prop := tightAnyRow.holds Tryz.pinned (OpenSpec.ofChange tightAnyWrong)

/-- 'milestonelaw24.TightKnown': WHATEVER THE INPUT: true; the input reads as it did. -/
def tightKnownSpec : ChangeSpec := { name := "tightKnown", fn := fun _ => fun
  | [] => { results := [.lit (.bool true)], args := [] }
  | _ => none }
def tightKnownRow : OpenClaim := { program := "ytlkcpceobicoiaagreatdoor", sum := "feecd2116e4f0245e45ed881e2a32a88b2c5cd68568c07e705a32d3071cd1274", func := "milestone/milestonelaw24.TightKnown", spec := "tightKnown", inPlace := ["internal/reflectlite.ValueOf", "(internal/reflectlite.Value).Type", "(internal/reflectlite.Value).IsNil", "internal/reflectlite.TypeOf", "(internal/reflectlite.Value).Elem", "(internal/reflectlite.Value).Set"], unfollowed := true, recurses := true, named := ["errors.errorType"], apart := false, laid := [("errors.errorType", laid_errors_errorType)] }
def TightKnownSaid : Prop := tightKnownRow.holds Tryz.pinned (OpenSpec.ofChange tightKnownSpec)

/-- ITS FALSE NEIGHBOUR: 'it returns false'. Refute it at one input. -/
def tightKnownWrong : ChangeSpec := { name := "tightKnown", fn := fun _ => fun
  | [] => { results := [.lit (.bool false)], args := [] }
  | _ => none }
def TightKnownWrongFalsely : Prop := tightKnownRow.holds Tryz.pinned (OpenSpec.ofChange tightKnownWrong)

/-- 'milestonelaw24.TightTells': WHATEVER THE INPUT: true; the input reads as it did. -/
def tightTellsSpec : ChangeSpec := { name := "tightTells", fn := fun _ => fun
  | [d1, d2, d3] => { results := [.lit (.bool true)], args := [d1, d2, d3] }
  | _ => none }
def tightTellsRow : OpenClaim := { program := "ytlkcpceobicoiaagreatdoor", sum := "feecd2116e4f0245e45ed881e2a32a88b2c5cd68568c07e705a32d3071cd1274", func := "milestone/milestonelaw24.TightTells", spec := "tightTells", inPlace := ["internal/reflectlite.ValueOf", "(internal/reflectlite.Value).Type", "(internal/reflectlite.Value).IsNil", "internal/reflectlite.TypeOf", "(internal/reflectlite.Value).Elem", "(internal/reflectlite.Value).Set"], unfollowed := true, recurses := true, named := ["errors.errorType"], apart := false, laid := [("errors.errorType", laid_errors_errorType)] }
def TightTellsSaid : Prop := tightTellsRow.holds Tryz.pinned (OpenSpec.ofChange tightTellsSpec)

/-- ITS FALSE NEIGHBOUR: 'it returns false'. Refute it at one input. -/
def tightTellsWrong : ChangeSpec := { name := "tightTells", fn := fun _ => fun
  | [d1, d2, d3] => { results := [.lit (.bool false)], args := [d1, d2, d3] }
  | _ => none }
def TightTellsWrongFalsely : Prop := tightTellsRow.holds Tryz.pinned (OpenSpec.ofChange tightTellsWrong)

/-- 'milestonelaw24.TightWalks': WHATEVER THE INPUT: true; the input reads as it did. -/
def tightWalksSpec : ChangeSpec := { name := "tightWalks", fn := fun _ => fun
  | [d1, d2] => { results := [.lit (.bool true)], args := [d1, d2] }
  | _ => none }
def tightWalksRow : OpenClaim := { program := "ytlkcpceobicoiaagreatdoor", sum := "feecd2116e4f0245e45ed881e2a32a88b2c5cd68568c07e705a32d3071cd1274", func := "milestone/milestonelaw24.TightWalks", spec := "tightWalks", inPlace := ["internal/reflectlite.ValueOf", "(internal/reflectlite.Value).Type", "(internal/reflectlite.Value).IsNil", "internal/reflectlite.TypeOf", "(internal/reflectlite.Value).Elem", "(internal/reflectlite.Value).Set"], unfollowed := true, recurses := true, named := ["errors.errorType"], apart := false, laid := [("errors.errorType", laid_errors_errorType)] }
def TightWalksSaid : Prop := tightWalksRow.holds Tryz.pinned (OpenSpec.ofChange tightWalksSpec)

/-- ITS FALSE NEIGHBOUR: 'it returns false'. Refute it at one input. -/
def tightWalksWrong : ChangeSpec := { name := "tightWalks", fn := fun _ => fun
  | [d1, d2] => { results := [.lit (.bool false)], args := [d1, d2] }
  | _ => none }
def TightWalksWrongFalsely : Prop := tightWalksRow.holds Tryz.pinned (OpenSpec.ofChange tightWalksWrong)

/- THE SECOND FORM. 'bulk': how many values and letters a reading holds, each counted each time it is reached (what is shared counts as often as it is met; a slice's spare places count too). A statement '..UptoSaid' is the law's where the arguments, and the package variables that the reading takes, are together of bulk at most 1048576: NARROWER than '..Said'. Prove '..Said' where nothing that the law and all that it calls make is longer than what came in: it says more and counts as full. Else prove '..UptoSaid'. A law counts once. -/
mutual
def uptoBulk {H : Type} : DataW H → Nat
  | .lit (.string bytes) => bytes.length + 1
  | .lit _ => 1
  | .nil => 1
  | .ptr d => uptoBulk d + 1
  | .slice elems spare => uptoBulkAll elems + uptoBulkAll spare + 1
  | .agg parts => uptoBulkAll parts + 1
  | .iface _ d => uptoBulk d + 1
  | .map entries => uptoBulkEntries entries + 1
  | .held _ => 1
def uptoBulkAll {H : Type} : List (DataW H) → Nat
  | [] => 0
  | d :: r => uptoBulk d + uptoBulkAll r
def uptoBulkEntries {H : Type} : List (Lit × DataW H) → Nat
  | [] => 0
  | x :: r => uptoBulkEntry x + uptoBulkEntries r
def uptoBulkEntry {H : Type} : Lit × DataW H → Nat
  | (.string bytes, d) => bytes.length + uptoBulk d + 1
  | (_, d) => uptoBulk d + 1
 end
def uptoSmall : (H : Type) → List (DataW H) → Bool := fun _ ds => decide (uptoBulkAll ds ≤ 1048576)
def OpenSpec.upto (s : _root_.Go.ChangeSpec) : _root_.Go.OpenSpec := { _root_.Go.OpenSpec.ofChange s with cond := some uptoSmall }

/-- 'milestonelaw24.TightLeast', WHERE WHAT IT READS IS OF BULK AT MOST 1048576: true; the input reads as it did. -/
def tightLeastUptoRow : OpenClaim := { program := "ytlkcpceobicoiaagreatdoor", sum := "feecd2116e4f0245e45ed881e2a32a88b2c5cd68568c07e705a32d3071cd1274", func := "milestone/milestonelaw24.TightLeast", spec := "tightLeast", inPlace := ["internal/reflectlite.ValueOf", "(internal/reflectlite.Value).Type", "(internal/reflectlite.Value).IsNil", "internal/reflectlite.TypeOf", "(internal/reflectlite.Value).Elem", "(internal/reflectlite.Value).Set"], unfollowed := true, recurses := true, named := ["errors.errorType"], apart := false, laid := [("errors.errorType", laid_errors_errorType)], narrowed := true }
def TightLeastUptoSaid : Prop := tightLeastUptoRow.holds Tryz.pinned (OpenSpec.upto tightLeastSpec)

/-- 'milestonelaw24.TightAny', WHERE WHAT IT READS IS OF BULK AT MOST 1048576: true; the input reads as it did. -/
def tightAnyUptoRow : OpenClaim := { program := "ytlkcpceobicoiaagreatdoor", sum := "feecd2116e4f0245e45ed881e2a32a88b2c5cd68568c07e705a32d3071cd1274", func := "milestone/milestonelaw24.TightAny", spec := "tightAny", inPlace := ["internal/reflectlite.ValueOf", "(internal/reflectlite.Value).Type", "(internal/reflectlite.Value).IsNil", "internal/reflectlite.TypeOf", "(internal/reflectlite.Value).Elem", "(internal/reflectlite.Value).Set"], unfollowed := true, recurses := true, named := ["errors.errorType"], apart := false, laid := [("errors.errorType", laid_errors_errorType)], narrowed := true }
def TightAnyUptoSaid : Prop := tightAnyUptoRow.holds Tryz.pinned (OpenSpec.upto tightAnySpec)

/-- 'milestonelaw24.TightKnown', WHERE WHAT IT READS IS OF BULK AT MOST 1048576: true; the input reads as it did. -/
def tightKnownUptoRow : OpenClaim := { program := "ytlkcpceobicoiaagreatdoor", sum := "feecd2116e4f0245e45ed881e2a32a88b2c5cd68568c07e705a32d3071cd1274", func := "milestone/milestonelaw24.TightKnown", spec := "tightKnown", inPlace := ["internal/reflectlite.ValueOf", "(internal/reflectlite.Value).Type", "(internal/reflectlite.Value).IsNil", "internal/reflectlite.TypeOf", "(internal/reflectlite.Value).Elem", "(internal/reflectlite.Value).Set"], unfollowed := true, recurses := true, named := ["errors.errorType"], apart := false, laid := [("errors.errorType", laid_errors_errorType)], narrowed := true }
def TightKnownUptoSaid : Prop := tightKnownUptoRow.holds Tryz.pinned (OpenSpec.upto tightKnownSpec)

/-- 'milestonelaw24.TightTells', WHERE WHAT IT READS IS OF BULK AT MOST 1048576: true; the input reads as it did. -/
def tightTellsUptoRow : OpenClaim := { program := "ytlkcpceobicoiaagreatdoor", sum := "feecd2116e4f0245e45ed881e2a32a88b2c5cd68568c07e705a32d3071cd1274", func := "milestone/milestonelaw24.TightTells", spec := "tightTells", inPlace := ["internal/reflectlite.ValueOf", "(internal/reflectlite.Value).Type", "(internal/reflectlite.Value).IsNil", "internal/reflectlite.TypeOf", "(internal/reflectlite.Value).Elem", "(internal/reflectlite.Value).Set"], unfollowed := true, recurses := true, named := ["errors.errorType"], apart := false, laid := [("errors.errorType", laid_errors_errorType)], narrowed := true }
def TightTellsUptoSaid : Prop := tightTellsUptoRow.holds Tryz.pinned (OpenSpec.upto tightTellsSpec)

/-- 'milestonelaw24.TightWalks', WHERE WHAT IT READS IS OF BULK AT MOST 1048576: true; the input reads as it did. -/
def tightWalksUptoRow : OpenClaim := { program := "ytlkcpceobicoiaagreatdoor", sum := "feecd2116e4f0245e45ed881e2a32a88b2c5cd68568c07e705a32d3071cd1274", func := "milestone/milestonelaw24.TightWalks", spec := "tightWalks", inPlace := ["internal/reflectlite.ValueOf", "(internal/reflectlite.Value).Type", "(internal/reflectlite.Value).IsNil", "internal/reflectlite.TypeOf", "(internal/reflectlite.Value).Elem", "(internal/reflectlite.Value).Set"], unfollowed := true, recurses := true, named := ["errors.errorType"], apart := false, laid := [("errors.errorType", laid_errors_errorType)], narrowed := true }
def TightWalksUptoSaid : Prop := tightWalksUptoRow.holds Tryz.pinned (OpenSpec.upto tightWalksSpec)

end Rows
end Go.Proofs.YtlkcpceobicoiaaGreatDoor
