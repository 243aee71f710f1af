/- The law 'FloodKnown' of the document's layer holds for every input: the function returns true, and leaves its arguments as they were. The listed package-level variable is never read. -/
import Derived.Test.YtebjceofpaamjaaDoorTb
import Derived.Test.YtebjceofpaamjaaDoorMb
import Derived.Test.YtebjceofpaamjaaDoorRows
import Derived.Test.YtebjceofpaamjaaDoorTie
import Derived.Test.YtebjceofpaamjaaDoorCards
import Derived.LaidMore
import Derived.LaidHandle
import Derived.LaidLaws
import Derived.SevenTiedAt
set_option linter.unusedVariables false
set_option linter.unusedSimpArgs false

namespace Go.Proofs.YtebjceofpaamjaaDoor
open Go Go.Mh Go.ChangeShapes
set_option linter.unusedVariables false
set_option maxRecDepth 100000

theorem floodKnown_lifted (os : Os) (started : os.Started) (H : Type) (enc : TypeId × Value → H) :
    ReturnsInHanded {} Tryd.checked os 3 .any (fun w args => (Rows.floodKnownSpec.pre enc Tryd.prog Tryd.f3 [] false w args ∧ laidMetH Tryd.prog Rows.floodKnownRow.laid w) ∧ sizedMet enc Tryd.prog Tryd.f3 (OpenSpec.ofChange Rows.floodKnownSpec) false w args)
      (Rows.floodKnownSpec.post enc Tryd.prog Tryd.f3 false true false false) := by
  refine law_laid (C := Tryd.checked) (tb := 4) (X := fun w _ => laidMetH Tryd.prog Rows.floodKnownRow.laid w) (fun _ _ _ hh h => h.of_heap hh) (by kernel_rfl) started (by kernel_rfl) Tryd.func3
    (ChangeSpec.witness_shaped (enc := enc) (C := Tryd.checked) (os := os) (X := fun w _ => laidMetH Tryd.prog Rows.floodKnownRow.laid w) false (World.doorLaid Tryd.prog 16 os) #[] 8 rfl (World.shaped_of_RefB (by kernel_rfl) (by kernel_rfl)) (by kernel_rfl) (by kernel_rfl) (by kernel_rfl)
      (laidMetH_of_parts3 (fuel := 8) (laidMet_of_run' 8 (by kernel_rfl) (by kernel_rfl)) (by kernel_rfl) (by kernel_rfl)))
    rfl (by kernel_rfl) (by kernel_rfl) ?_ (kids_rows (by kernel_rfl) (by kernel_rfl)) (slices_full_of Tryd.prog (by kernel_rfl)) (by decide +kernel) ?_
  · intro ds hl
    have : ds = [] := List.eq_nil_of_length_eq_zero (by rw [hl]; decide +kernel)
    subst this; rfl
  · intro W base args ds ps hval hA
    rw [show Tryd.f3.params.toList = [] by kernel_rfl] at hA
    obtain ⟨rfl, _, _⟩ := trodAll_none hA
    exact floodKnown_ok fun h' hx => ⟨rfl, hx⟩

theorem floodKnown_row : Rows.FloodKnownSaid :=
  OpenClaim.holds_of_wide 3 Tryd.f3 rfl rfl rfl rfl rfl rfl rfl ⟨rfl, rfl, rfl, rfl, rfl⟩ rfl rfl rfl rfl rfl (by kernel_rfl) Tryd.func3 (by kernel_rfl)
    (of_decide_eq_true (by kernel_rfl)) (by unfold Func.isWrapper; first | (rw [if_pos (by decide +kernel)]; kernel_rfl) | (rw [if_neg (by decide +kernel)]; exact ⟨rfl, rfl⟩))
    (fun os started H enc _ => floodKnown_lifted os started H enc)

theorem floodKnown_holds : Rows.FloodKnownCardSaid :=
  Claim7.holds_tied_plain_at .later [] [.handle] true (true, "ea98724bb2fd1b8840c3d9cf9ba8288a0878e6e74b9f9f520296726d18e77c12") true floodKnown_row (fun _ h => by cases h) (by kernel_rfl) (fun _ h => by cases h) floodKnown_row_tie rfl ⟨rfl, rfl⟩ (by kernel_rfl) rfl
    (fun f fn hf hfn => by
      obtain rfl : f = 3 := Option.some.inj ((show Tryd.prog.funcNamed "milestone/milestonelaw10.FloodKnown" = some 3 by kernel_rfl).symm.trans hf) |>.symm
      obtain rfl : fn = Tryd.f3 := (Option.some.inj (Tryd.func3.symm.trans hfn)).symm
      exact ⟨by kernel_rfl, fun j t ht => by
        rw [show Tryd.f3.params = #[] by kernel_rfl] at ht
        have hm : t ∈ ([] : List Nat) := by simpa using Array.mem_of_getElem? ht
        have hall : (([] : List Nat).all fun u => !Tryd.prog.wantsStandIn u) = true := by kernel_rfl
        exact (show Tryd.prog.wantsStandIn t = false by simpa using List.all_eq_true.1 hall t hm)⟩)
    (by kernel_rfl)

end Go.Proofs.YtebjceofpaamjaaDoor
