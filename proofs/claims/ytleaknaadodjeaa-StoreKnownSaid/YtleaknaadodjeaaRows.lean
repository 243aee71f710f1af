/-
  No cell of these rows narrows 'for every input' (looked for: loops, veiled, ifaces, maps, wideKeys, modest, calm, conditions, laid).
  DERIVED. THE GIVEN ROWS OF THIS SEAT. 4 by the template 'for every input the law returns true; each argument reads behind the call as it read before'; 0 by the template 'total and deterministic' (their statements: YtleaknaadodjeaaTotals.lean).
  GIVEN WITH THE SEED: the statements are not yours to turn. If you find one false, say at which input.
  Laid BY PROGRAM, IN A SANDBOX (cutbox-rows.mjs): the forced cells as the released guide's own fill.sh prints them over the translation fdd1c10863afe95f… (all of the seat's roots in one cut). By AI agents, Wed Nov 11 2026. No macro, syntax, notation, axiom, sorry.
-/
import Derived.Test.YtleaknaadodjeaaChecked
import GoSem.Claim
import GoSem.ClaimJoined
import GoSem.ClaimMapViews
import Derived.JoinedTies
import Derived.KernelRfl
namespace Go.Proofs.Ytleaknaadodjeaa
/- THE CELL 'sum', in the pinned program and in every row, IS THE sha256 OF THE DUMP (.gsa) THAT YtleaknaadodjeaaProg.lean LOADS. Nothing in Lean hashes anything: it is a label: what it is worth is what the hold of that sum in a sandbox is worth. -/
noncomputable def Try.pinned : Pinned := { name := "ytleaknaadodjeaa", sum := "fdd1c10863afe95f97c8ebe3c1288ff07ca774d1330c56814435f1b3a304dc19", checked := Try.checked }
namespace Rows
def none {H : Type} : Left H := { results := [], args := [] }

/-- 'milestonelaw30.StoreKnown': WHATEVER THE INPUT: true; the input reads as it did. -/
def storeKnownSpec : ChangeSpec := { name := "storeKnown", fn := fun _ => fun
  | [] => { results := [.lit (.bool true)], args := [] }
  | _ => none }
def storeKnownRow : OpenClaim := { program := "ytleaknaadodjeaa", sum := "fdd1c10863afe95f97c8ebe3c1288ff07ca774d1330c56814435f1b3a304dc19", func := "milestone/milestonelaw30.StoreKnown", spec := "storeKnown", inPlace := ["maps.clone"], unfollowed := true, recurses := true, apart := false }
def StoreKnownSaid : Prop := storeKnownRow.holds Try.pinned (OpenSpec.ofChange storeKnownSpec)

/-- ITS FALSE NEIGHBOUR: 'it returns false'. Refute it at one input. -/
def storeKnownWrong : ChangeSpec := { name := "storeKnown", fn := fun _ => fun
  | [] => { results := [.lit (.bool false)], args := [] }
  | _ => none }
def StoreKnownWrongFalsely : Prop := storeKnownRow.holds Try.pinned (OpenSpec.ofChange storeKnownWrong)

/-- 'milestonelaw30.StoreLives': WHATEVER THE INPUT: true; the input reads as it did. -/
def storeLivesSpec : ChangeSpec := { name := "storeLives", fn := fun _ => fun
  | [d] => { results := [.lit (.bool true)], args := [d] }
  | _ => none }
def storeLivesRow : OpenClaim := { program := "ytleaknaadodjeaa", sum := "fdd1c10863afe95f97c8ebe3c1288ff07ca774d1330c56814435f1b3a304dc19", func := "milestone/milestonelaw30.StoreLives", spec := "storeLives", inPlace := ["maps.clone"], unfollowed := true, recurses := true, apart := false }
def StoreLivesSaid : Prop := storeLivesRow.holds Try.pinned (OpenSpec.ofChange storeLivesSpec)

/-- ITS FALSE NEIGHBOUR: 'it returns false'. Refute it at one input. -/
def storeLivesWrong : ChangeSpec := { name := "storeLives", fn := fun _ => fun
  | [d] => { results := [.lit (.bool false)], args := [d] }
  | _ => none }
def StoreLivesWrongFalsely : Prop := storeLivesRow.holds Try.pinned (OpenSpec.ofChange storeLivesWrong)

/-- 'milestonelaw30.StoreCrash': WHATEVER THE INPUT: true; the input reads as it did. -/
def storeCrashSpec : ChangeSpec := { name := "storeCrash", fn := fun _ => fun
  | [d1, d2, d3] => { results := [.lit (.bool true)], args := [d1, d2, d3] }
  | _ => none }
def storeCrashRow : OpenClaim := { program := "ytleaknaadodjeaa", sum := "fdd1c10863afe95f97c8ebe3c1288ff07ca774d1330c56814435f1b3a304dc19", func := "milestone/milestonelaw30.StoreCrash", spec := "storeCrash", inPlace := ["maps.clone"], unfollowed := true, recurses := true, apart := false }
def StoreCrashSaid : Prop := storeCrashRow.holds Try.pinned (OpenSpec.ofChange storeCrashSpec)

/-- ITS FALSE NEIGHBOUR: 'it returns false'. Refute it at one input. -/
def storeCrashWrong : ChangeSpec := { name := "storeCrash", fn := fun _ => fun
  | [d1, d2, d3] => { results := [.lit (.bool false)], args := [d1, d2, d3] }
  | _ => none }
def StoreCrashWrongFalsely : Prop := storeCrashRow.holds Try.pinned (OpenSpec.ofChange storeCrashWrong)

/-- 'milestonelaw30.StoreOne': WHATEVER THE INPUT: true; the input reads as it did. -/
def storeOneSpec : ChangeSpec := { name := "storeOne", fn := fun _ => fun
  | [d1, d2] => { results := [.lit (.bool true)], args := [d1, d2] }
  | _ => none }
def storeOneRow : OpenClaim := { program := "ytleaknaadodjeaa", sum := "fdd1c10863afe95f97c8ebe3c1288ff07ca774d1330c56814435f1b3a304dc19", func := "milestone/milestonelaw30.StoreOne", spec := "storeOne", inPlace := ["maps.clone"], unfollowed := true, recurses := true, apart := false }
def StoreOneSaid : Prop := storeOneRow.holds Try.pinned (OpenSpec.ofChange storeOneSpec)

/-- ITS FALSE NEIGHBOUR: 'it returns false'. Refute it at one input. -/
def storeOneWrong : ChangeSpec := { name := "storeOne", fn := fun _ => fun
  | [d1, d2] => { results := [.lit (.bool false)], args := [d1, d2] }
  | _ => none }
def StoreOneWrongFalsely : Prop := storeOneRow.holds Try.pinned (OpenSpec.ofChange storeOneWrong)

/- THE SECOND FORM. 'bulk': how many values and letters a reading holds, each counted each time it is reached (what is shared counts as often as it is met; a slice's spare places count too). A statement '..UptoSaid' is the law's where the arguments, and the package variables that the reading takes, are together of bulk at most 1048576: NARROWER than '..Said'. Prove '..Said' where nothing that the law and all that it calls make is longer than what came in: it says more and counts as full. Else prove '..UptoSaid'. A law counts once. -/
mutual
def uptoBulk {H : Type} : DataW H → Nat
  | .lit (.string bytes) => bytes.length + 1
  | .lit _ => 1
  | .nil => 1
  | .ptr d => uptoBulk d + 1
  | .slice elems spare => uptoBulkAll elems + uptoBulkAll spare + 1
  | .agg parts => uptoBulkAll parts + 1
  | .iface _ d => uptoBulk d + 1
  | .map entries => uptoBulkEntries entries + 1
  | .held _ => 1
def uptoBulkAll {H : Type} : List (DataW H) → Nat
  | [] => 0
  | d :: r => uptoBulk d + uptoBulkAll r
def uptoBulkEntries {H : Type} : List (Lit × DataW H) → Nat
  | [] => 0
  | x :: r => uptoBulkEntry x + uptoBulkEntries r
def uptoBulkEntry {H : Type} : Lit × DataW H → Nat
  | (.string bytes, d) => bytes.length + uptoBulk d + 1
  | (_, d) => uptoBulk d + 1
 end
def uptoSmall : (H : Type) → List (DataW H) → Bool := fun _ ds => decide (uptoBulkAll ds ≤ 1048576)
def OpenSpec.upto (s : _root_.Go.ChangeSpec) : _root_.Go.OpenSpec := { _root_.Go.OpenSpec.ofChange s with cond := some uptoSmall }

/-- 'milestonelaw30.StoreKnown', WHERE WHAT IT READS IS OF BULK AT MOST 1048576: true; the input reads as it did. -/
def storeKnownUptoRow : OpenClaim := { program := "ytleaknaadodjeaa", sum := "fdd1c10863afe95f97c8ebe3c1288ff07ca774d1330c56814435f1b3a304dc19", func := "milestone/milestonelaw30.StoreKnown", spec := "storeKnown", inPlace := ["maps.clone"], unfollowed := true, recurses := true, apart := false, narrowed := true }
def StoreKnownUptoSaid : Prop := storeKnownUptoRow.holds Try.pinned (OpenSpec.upto storeKnownSpec)

/-- 'milestonelaw30.StoreLives', WHERE WHAT IT READS IS OF BULK AT MOST 1048576: true; the input reads as it did. -/
def storeLivesUptoRow : OpenClaim := { program := "ytleaknaadodjeaa", sum := "fdd1c10863afe95f97c8ebe3c1288ff07ca774d1330c56814435f1b3a304dc19", func := "milestone/milestonelaw30.StoreLives", spec := "storeLives", inPlace := ["maps.clone"], unfollowed := true, recurses := true, apart := false, narrowed := true }
def StoreLivesUptoSaid : Prop := storeLivesUptoRow.holds Try.pinned (OpenSpec.upto storeLivesSpec)

/-- 'milestonelaw30.StoreCrash', WHERE WHAT IT READS IS OF BULK AT MOST 1048576: true; the input reads as it did. -/
def storeCrashUptoRow : OpenClaim := { program := "ytleaknaadodjeaa", sum := "fdd1c10863afe95f97c8ebe3c1288ff07ca774d1330c56814435f1b3a304dc19", func := "milestone/milestonelaw30.StoreCrash", spec := "storeCrash", inPlace := ["maps.clone"], unfollowed := true, recurses := true, apart := false, narrowed := true }
def StoreCrashUptoSaid : Prop := storeCrashUptoRow.holds Try.pinned (OpenSpec.upto storeCrashSpec)

/-- 'milestonelaw30.StoreOne', WHERE WHAT IT READS IS OF BULK AT MOST 1048576: true; the input reads as it did. -/
def storeOneUptoRow : OpenClaim := { program := "ytleaknaadodjeaa", sum := "fdd1c10863afe95f97c8ebe3c1288ff07ca774d1330c56814435f1b3a304dc19", func := "milestone/milestonelaw30.StoreOne", spec := "storeOne", inPlace := ["maps.clone"], unfollowed := true, recurses := true, apart := false, narrowed := true }
def StoreOneUptoSaid : Prop := storeOneUptoRow.holds Try.pinned (OpenSpec.upto storeOneSpec)

end Rows
end Go.Proofs.Ytleaknaadodjeaa
