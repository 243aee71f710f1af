/-
  NARROWER THAN 'FOR EVERY INPUT', by the rows' own cells (each row's printed sentence says how): AvoidTells: laid · AvoidBounds: laid · AvoidGains: laid · AvoidKnown: laid.
  DERIVED. THE GIVEN ROWS OF THIS SEAT. 4 by the template 'for every input the law returns true; each argument reads behind the call as it read before'; 0 by the template 'total and deterministic' (their statements: YtoopkllfpmjnfaaGreatDoorTotals.lean).
  GIVEN WITH THE SEED: the statements are not yours to turn. If you find one false, say at which input.
  Laid BY PROGRAM, IN A SANDBOX (cutbox-rows.mjs): the forced cells as the released guide's own fill.sh prints them over the translation 550dd78e5c7c0574… (all of the seat's roots in one cut). By AI agents, Wed Nov 11 2026. No macro, syntax, notation, axiom, sorry.
-/
import Derived.Test.YtoopkllfpmjnfaaGreatDoorChecked
import GoSem.Claim
import GoSem.ClaimJoined
import GoSem.ClaimMapViews
import Derived.JoinedTies
import Derived.KernelRfl
namespace Go.Proofs.YtoopkllfpmjnfaaGreatDoor
/- THE CELL 'sum', in the pinned program and in every row, IS THE sha256 OF THE DUMP (.gsa) THAT YtoopkllfpmjnfaaGreatDoorProg.lean LOADS. Nothing in Lean hashes anything: it is a label: what it is worth is what the hold of that sum in a sandbox is worth. -/
noncomputable def Tryz.pinned : Pinned := { name := "ytoopkllfpmjnfaagreatdoor", sum := "550dd78e5c7c0574ca6b3220b57e75abbac23d33e7f554765add2395343b7e68", checked := Tryz.checked }
namespace Rows
def none {H : Type} : Left H := { results := [], args := [] }

/- WHAT THE LISTED PACKAGE-LEVEL VARIABLES READ AS WHEN THE CALL BEGINS. Each datum BY PROGRAM (the guide's laid-datum.mjs) off the statement by which the dump's own 'gosem.cut.vars' lays the variable. In a bare row this is a premise. The card (YtoopkllfpmjnfaaGreatDoorCards.lean) ties it to the program's text. -/
def laid_errors_errorType {H : Type} : DataW H := .iface "internal/reflectlite.rtype" (.agg [.ptr (.lit (.string [101, 114, 114, 111, 114]))])

/-- 'milestonelaw16.AvoidTells': WHATEVER THE INPUT: true; the input reads as it did. -/
def avoidTellsSpec : ChangeSpec := { name := "avoidTells", fn := fun _ => fun
  | [d1, d2, d3] => { results := [.lit (.bool true)], args := [d1, d2, d3] }
  | _ => none }
def avoidTellsRow : OpenClaim := { program := "ytoopkllfpmjnfaagreatdoor", sum := "550dd78e5c7c0574ca6b3220b57e75abbac23d33e7f554765add2395343b7e68", func := "milestone/milestonelaw16.AvoidTells", spec := "avoidTells", inPlace := ["internal/reflectlite.ValueOf", "(internal/reflectlite.Value).Type", "(internal/reflectlite.Value).IsNil", "internal/reflectlite.TypeOf", "(internal/reflectlite.Value).Elem", "(internal/reflectlite.Value).Set"], unfollowed := true, recurses := true, named := ["errors.errorType"], apart := false, laid := [("errors.errorType", laid_errors_errorType)] }
def AvoidTellsSaid : Prop := avoidTellsRow.holds Tryz.pinned (OpenSpec.ofChange avoidTellsSpec)

/-- ITS FALSE NEIGHBOUR: 'it returns false'. Refute it at one input. -/
def avoidTellsWrong : ChangeSpec := { name := "avoidTells", fn := fun _ => fun
  | [d1, d2, d3] => { results := [.lit (.bool false)], args := [d1, d2, d3] }
  | _ => none }
def AvoidTellsWrongFalsely : Prop := avoidTellsRow.holds Tryz.pinned (OpenSpec.ofChange avoidTellsWrong)

/-- 'milestonelaw16.AvoidBounds': WHATEVER THE INPUT: true; the input reads as it did. -/
def avoidBoundsSpec : ChangeSpec := { name := "avoidBounds", fn := fun _ => fun
  | [d1, d2, d3] => { results := [.lit (.bool true)], args := [d1, d2, d3] }
  | _ => none }
def avoidBoundsRow : OpenClaim := { program := "ytoopkllfpmjnfaagreatdoor", sum := "550dd78e5c7c0574ca6b3220b57e75abbac23d33e7f554765add2395343b7e68", func := "milestone/milestonelaw16.AvoidBounds", spec := "avoidBounds", inPlace := ["internal/reflectlite.ValueOf", "(internal/reflectlite.Value).Type", "(internal/reflectlite.Value).IsNil", "internal/reflectlite.TypeOf", "(internal/reflectlite.Value).Elem", "(internal/reflectlite.Value).Set"], unfollowed := true, recurses := true, named := ["errors.errorType"], apart := false, laid := [("errors.errorType", laid_errors_errorType)] }
def AvoidBoundsSaid : Prop := avoidBoundsRow.holds Tryz.pinned (OpenSpec.ofChange avoidBoundsSpec)

/-- ITS FALSE NEIGHBOUR: 'it returns false'. Refute it at one input. -/
def avoidBoundsWrong : ChangeSpec := { name := "avoidBounds", fn := fun _ => fun
  | [d1, d2, d3] => { results := [.lit (.bool false)], args := [d1, d2, d3] }
  | _ => none }
def AvoidBoundsWrongFalsely : Prop := avoidBoundsRow.holds Tryz.pinned (OpenSpec.ofChange avoidBoundsWrong)

/-- 'milestonelaw16.AvoidGains': WHATEVER THE INPUT: true; the input reads as it did. -/
def avoidGainsSpec : ChangeSpec := { name := "avoidGains", fn := fun _ => fun
  | [d1, d2, d3] => { results := [.lit (.bool true)], args := [d1, d2, d3] }
  | _ => none }
def avoidGainsRow : OpenClaim := { program := "ytoopkllfpmjnfaagreatdoor", sum := "550dd78e5c7c0574ca6b3220b57e75abbac23d33e7f554765add2395343b7e68", func := "milestone/milestonelaw16.AvoidGains", spec := "avoidGains", inPlace := ["internal/reflectlite.ValueOf", "(internal/reflectlite.Value).Type", "(internal/reflectlite.Value).IsNil", "internal/reflectlite.TypeOf", "(internal/reflectlite.Value).Elem", "(internal/reflectlite.Value).Set"], unfollowed := true, recurses := true, named := ["errors.errorType"], apart := false, laid := [("errors.errorType", laid_errors_errorType)] }
def AvoidGainsSaid : Prop := avoidGainsRow.holds Tryz.pinned (OpenSpec.ofChange avoidGainsSpec)

/-- ITS FALSE NEIGHBOUR: 'it returns false'. Refute it at one input. -/
def avoidGainsWrong : ChangeSpec := { name := "avoidGains", fn := fun _ => fun
  | [d1, d2, d3] => { results := [.lit (.bool false)], args := [d1, d2, d3] }
  | _ => none }
def AvoidGainsWrongFalsely : Prop := avoidGainsRow.holds Tryz.pinned (OpenSpec.ofChange avoidGainsWrong)

/-- 'milestonelaw16.AvoidKnown': WHATEVER THE INPUT: true; the input reads as it did. -/
def avoidKnownSpec : ChangeSpec := { name := "avoidKnown", fn := fun _ => fun
  | [] => { results := [.lit (.bool true)], args := [] }
  | _ => none }
def avoidKnownRow : OpenClaim := { program := "ytoopkllfpmjnfaagreatdoor", sum := "550dd78e5c7c0574ca6b3220b57e75abbac23d33e7f554765add2395343b7e68", func := "milestone/milestonelaw16.AvoidKnown", spec := "avoidKnown", inPlace := ["internal/reflectlite.ValueOf", "(internal/reflectlite.Value).Type", "(internal/reflectlite.Value).IsNil", "internal/reflectlite.TypeOf", "(internal/reflectlite.Value).Elem", "(internal/reflectlite.Value).Set"], unfollowed := true, recurses := true, named := ["errors.errorType"], apart := false, laid := [("errors.errorType", laid_errors_errorType)] }
def AvoidKnownSaid : Prop := avoidKnownRow.holds Tryz.pinned (OpenSpec.ofChange avoidKnownSpec)

/-- ITS FALSE NEIGHBOUR: 'it returns false'. Refute it at one input. -/
def avoidKnownWrong : ChangeSpec := { name := "avoidKnown", fn := fun _ => fun
  | [] => { results := [.lit (.bool false)], args := [] }
  | _ => none }
def AvoidKnownWrongFalsely : Prop := avoidKnownRow.holds Tryz.pinned (OpenSpec.ofChange avoidKnownWrong)

/- THE SECOND FORM. 'bulk': how many values and letters a reading holds, each counted each time it is reached (what is shared counts as often as it is met; a slice's spare places count too). A statement '..UptoSaid' is the law's where the arguments, and the package variables that the reading takes, are together of bulk at most 1048576: NARROWER than '..Said'. Prove '..Said' where nothing that the law and all that it calls make is longer than what came in: it says more and counts as full. Else prove '..UptoSaid'. A law counts once. -/
mutual
def uptoBulk {H : Type} : DataW H → Nat
  | .lit (.string bytes) => bytes.length + 1
  | .lit _ => 1
  | .nil => 1
  | .ptr d => uptoBulk d + 1
  | .slice elems spare => uptoBulkAll elems + uptoBulkAll spare + 1
  | .agg parts => uptoBulkAll parts + 1
  | .iface _ d => uptoBulk d + 1
  | .map entries => uptoBulkEntries entries + 1
  | .held _ => 1
def uptoBulkAll {H : Type} : List (DataW H) → Nat
  | [] => 0
  | d :: r => uptoBulk d + uptoBulkAll r
def uptoBulkEntries {H : Type} : List (Lit × DataW H) → Nat
  | [] => 0
  | x :: r => uptoBulkEntry x + uptoBulkEntries r
def uptoBulkEntry {H : Type} : Lit × DataW H → Nat
  | (.string bytes, d) => bytes.length + uptoBulk d + 1
  | (_, d) => uptoBulk d + 1
 end
def uptoSmall : (H : Type) → List (DataW H) → Bool := fun _ ds => decide (uptoBulkAll ds ≤ 1048576)
def OpenSpec.upto (s : _root_.Go.ChangeSpec) : _root_.Go.OpenSpec := { _root_.Go.OpenSpec.ofChange s with cond := some uptoSmall }

/-- 'milestonelaw16.AvoidTells', WHERE WHAT IT READS IS OF BULK AT MOST 1048576: true; the input reads as it did. -/
def avoidTellsUptoRow : OpenClaim := { program := "ytoopkllfpmjnfaagreatdoor", sum := "550dd78e5c7c0574ca6b3220b57e75abbac23d33e7f554765add2395343b7e68", func := "milestone/milestonelaw16.AvoidTells", spec := "avoidTells", inPlace := ["internal/reflectlite.ValueOf", "(internal/reflectlite.Value).Type", "(internal/reflectlite.Value).IsNil", "internal/reflectlite.TypeOf", "(internal/reflectlite.Value).Elem", "(internal/reflectlite.Value).Set"], unfollowed := true, recurses := true, named := ["errors.errorType"], apart := false, laid := [("errors.errorType", laid_errors_errorType)], narrowed := true }
def AvoidTellsUptoSaid : Prop := avoidTellsUptoRow.holds Tryz.pinned (OpenSpec.upto avoidTellsSpec)

/-- 'milestonelaw16.AvoidBounds', WHERE WHAT IT READS IS OF BULK AT MOST 1048576: true; the input reads as it did. -/
def avoidBoundsUptoRow : OpenClaim := { program := "ytoopkllfpmjnfaagreatdoor", sum := "550dd78e5c7c0574ca6b3220b57e75abbac23d33e7f554765add2395343b7e68", func := "milestone/milestonelaw16.AvoidBounds", spec := "avoidBounds", inPlace := ["internal/reflectlite.ValueOf", "(internal/reflectlite.Value).Type", "(internal/reflectlite.Value).IsNil", "internal/reflectlite.TypeOf", "(internal/reflectlite.Value).Elem", "(internal/reflectlite.Value).Set"], unfollowed := true, recurses := true, named := ["errors.errorType"], apart := false, laid := [("errors.errorType", laid_errors_errorType)], narrowed := true }
def AvoidBoundsUptoSaid : Prop := avoidBoundsUptoRow.holds Tryz.pinned (OpenSpec.upto avoidBoundsSpec)

/-- 'milestonelaw16.AvoidGains', WHERE WHAT IT READS IS OF BULK AT MOST 1048576: true; the input reads as it did. -/
def avoidGainsUptoRow : OpenClaim := { program := "ytoopkllfpmjnfaagreatdoor", sum := "550dd78e5c7c0574ca6b3220b57e75abbac23d33e7f554765add2395343b7e68", func := "milestone/milestonelaw16.AvoidGains", spec := "avoidGains", inPlace := ["internal/reflectlite.ValueOf", "(internal/reflectlite.Value).Type", "(internal/reflectlite.Value).IsNil", "internal/reflectlite.TypeOf", "(internal/reflectlite.Value).Elem", "(internal/reflectlite.Value).Set"], unfollowed := true, recurses := true, named := ["errors.errorType"], apart := false, laid := [("errors.errorType", laid_errors_errorType)], narrowed := true }
def AvoidGainsUptoSaid : Prop := avoidGainsUptoRow.holds Tryz.pinned (OpenSpec.upto avoidGainsSpec)

/-- 'milestonelaw16.AvoidKnown', WHERE WHAT IT READS IS OF BULK AT MOST 1048576: true; the input reads as it did. -/
def avoidKnownUptoRow : OpenClaim := { program := "ytoopkllfpmjnfaagreatdoor", sum := "550dd78e5c7c0574ca6b3220b57e75abbac23d33e7f554765add2395343b7e68", func := "milestone/milestonelaw16.AvoidKnown", spec := "avoidKnown", inPlace := ["internal/reflectlite.ValueOf", "(internal/reflectlite.Value).Type", "(internal/reflectlite.Value).IsNil", "internal/reflectlite.TypeOf", "(internal/reflectlite.Value).Elem", "(internal/reflectlite.Value).Set"], unfollowed := true, recurses := true, named := ["errors.errorType"], apart := false, laid := [("errors.errorType", laid_errors_errorType)], narrowed := true }
def AvoidKnownUptoSaid : Prop := avoidKnownUptoRow.holds Tryz.pinned (OpenSpec.upto avoidKnownSpec)

end Rows
end Go.Proofs.YtoopkllfpmjnfaaGreatDoor
