/- The law 'SplitKnown' of the document's layer holds for every input: the function returns true, and leaves its arguments as they were. The listed package-level variable is never read. -/
import Derived.Test.YtbacdjahpahcfaaGreatDoorTa
import Derived.Test.YtbacdjahpahcfaaGreatDoorMd
import Derived.Test.YtbacdjahpahcfaaGreatDoorRows
import Derived.Test.YtbacdjahpahcfaaGreatDoorTie
import Derived.Test.YtbacdjahpahcfaaGreatDoorCards
import Derived.LaidMore
import Derived.LaidHandle
import Derived.LaidLaws
import Derived.SevenTiedAt
set_option linter.unusedVariables false
set_option linter.unusedSimpArgs false

namespace Go.Proofs.YtbacdjahpahcfaaGreatDoor
open Go Go.Mh Go.ChangeShapes
set_option linter.unusedVariables false
set_option maxRecDepth 100000

theorem splitKnown_lifted (os : Os) (started : os.Started) (H : Type) (enc : TypeId × Value → H) :
    ReturnsInHanded {} Tryz.checked os 7 .any (fun w args => (Rows.splitKnownSpec.pre enc Tryz.prog Tryz.f7 [] false w args ∧ laidMetH Tryz.prog Rows.splitKnownRow.laid w) ∧ sizedMet enc Tryz.prog Tryz.f7 (OpenSpec.ofChange Rows.splitKnownSpec) false w args)
      (Rows.splitKnownSpec.post enc Tryz.prog Tryz.f7 false true false false) := by
  refine law_laid (C := Tryz.checked) (tb := 4) (X := fun w _ => laidMetH Tryz.prog Rows.splitKnownRow.laid w) (fun _ _ _ hh h => h.of_heap hh) (by kernel_rfl) started (by kernel_rfl) Tryz.func7
    (ChangeSpec.witness_shaped (enc := enc) (C := Tryz.checked) (os := os) (X := fun w _ => laidMetH Tryz.prog Rows.splitKnownRow.laid w) false (World.doorLaid Tryz.prog 16 os) #[] 8 rfl (World.shaped_of_RefB (by kernel_rfl) (by kernel_rfl)) (by kernel_rfl) (by kernel_rfl) (by kernel_rfl)
      (laidMetH_of_parts3 (fuel := 8) (laidMet_of_run' 8 (by kernel_rfl) (by kernel_rfl)) (by kernel_rfl) (by kernel_rfl)))
    rfl (by kernel_rfl) (by kernel_rfl) ?_ (kids_rows (by kernel_rfl) (by kernel_rfl)) (slices_full_of Tryz.prog (by kernel_rfl)) (by decide +kernel) ?_
  · intro ds hl
    have : ds = [] := List.eq_nil_of_length_eq_zero (by rw [hl]; decide +kernel)
    subst this; rfl
  · intro W base args ds ps hval hA
    rw [show Tryz.f7.params.toList = [] by kernel_rfl] at hA
    obtain ⟨rfl, _, _⟩ := trodAll_none hA
    exact splitKnown_ok fun h' hx => ⟨rfl, hx⟩

theorem splitKnown_row : Rows.SplitKnownSaid :=
  OpenClaim.holds_of_wide 7 Tryz.f7 rfl rfl rfl rfl rfl rfl rfl ⟨rfl, rfl, rfl, rfl, rfl⟩ rfl rfl rfl rfl rfl (by kernel_rfl) Tryz.func7 (by kernel_rfl)
    (of_decide_eq_true (by kernel_rfl)) (by unfold Func.isWrapper; first | (rw [if_pos (by decide +kernel)]; kernel_rfl) | (rw [if_neg (by decide +kernel)]; exact ⟨rfl, rfl⟩))
    (fun os started H enc _ => splitKnown_lifted os started H enc)

theorem splitKnown_holds : Rows.SplitKnownCardSaid :=
  Claim7.holds_tied_plain_at .later [] [.handle] true (true, "ceff0ada8d3d08390bdec15ded0388e8251f6ed1b0a6437da587a5072c2a7949") true splitKnown_row (fun _ h => by cases h) (by kernel_rfl) (fun _ h => by cases h) splitKnown_row_tie rfl ⟨rfl, rfl⟩ (by kernel_rfl) rfl
    (fun f fn hf hfn => by
      obtain rfl : f = 7 := Option.some.inj ((show Tryz.prog.funcNamed "milestone/milestonelaw22.SplitKnown" = some 7 by kernel_rfl).symm.trans hf) |>.symm
      obtain rfl : fn = Tryz.f7 := (Option.some.inj (Tryz.func7.symm.trans hfn)).symm
      exact ⟨by kernel_rfl, fun j t ht => by
        rw [show Tryz.f7.params = #[] by kernel_rfl] at ht
        have hm : t ∈ ([] : List Nat) := by simpa using Array.mem_of_getElem? ht
        have hall : (([] : List Nat).all fun u => !Tryz.prog.wantsStandIn u) = true := by kernel_rfl
        exact (show Tryz.prog.wantsStandIn t = false by simpa using List.all_eq_true.1 hall t hm)⟩)
    (by kernel_rfl)

end Go.Proofs.YtbacdjahpahcfaaGreatDoor
