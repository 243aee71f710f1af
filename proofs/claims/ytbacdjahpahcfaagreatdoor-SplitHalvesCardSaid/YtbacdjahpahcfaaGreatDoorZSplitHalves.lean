/- The law 'SplitHalves' of the document's layer holds for every input: the function returns true, and leaves its arguments as they were. The listed package-level variable is never read. -/
import Derived.Test.YtbacdjahpahcfaaGreatDoorTa
import Derived.Test.YtbacdjahpahcfaaGreatDoorMd
import Derived.Test.YtbacdjahpahcfaaGreatDoorRows
import Derived.Test.YtbacdjahpahcfaaGreatDoorTie
import Derived.Test.YtbacdjahpahcfaaGreatDoorCards
import Derived.LaidMore
import Derived.LaidHandle
import Derived.LaidLaws
import Derived.SevenTiedAt
set_option linter.unusedVariables false
set_option linter.unusedSimpArgs false

namespace Go.Proofs.YtbacdjahpahcfaaGreatDoor
open Go Go.Mh Go.ChangeShapes
set_option linter.unusedVariables false
set_option maxRecDepth 100000

theorem splitHalves_lifted (os : Os) (started : os.Started) (H : Type) (enc : TypeId × Value → H) :
    ReturnsInHanded {} Tryz.checked os 5 .any (fun w args => (Rows.splitHalvesSpec.pre enc Tryz.prog Tryz.f5 [] false w args ∧ laidMetH Tryz.prog Rows.splitHalvesRow.laid w) ∧ sizedMet enc Tryz.prog Tryz.f5 (OpenSpec.ofChange Rows.splitHalvesSpec) false w args)
      (Rows.splitHalvesSpec.post enc Tryz.prog Tryz.f5 false true false false) := by
  refine law_laid (C := Tryz.checked) (tb := 4) (X := fun w _ => laidMetH Tryz.prog Rows.splitHalvesRow.laid w) (fun _ _ _ hh h => h.of_heap hh) (by kernel_rfl) started (by kernel_rfl) Tryz.func5
    (ChangeSpec.witness_shaped (enc := enc) (C := Tryz.checked) (os := os) (X := fun w _ => laidMetH Tryz.prog Rows.splitHalvesRow.laid w) false (World.doorLaid Tryz.prog 16 os) #[.slice none 0 0, .slice none 0 0] 8 rfl (World.shaped_of_RefB (by kernel_rfl) (by kernel_rfl)) (by kernel_rfl) (by kernel_rfl) (by kernel_rfl)
      (laidMetH_of_parts3 (fuel := 8) (laidMet_of_run' 8 (by kernel_rfl) (by kernel_rfl)) (by kernel_rfl) (by kernel_rfl)))
    rfl (by kernel_rfl) (by kernel_rfl) ?_ (kids_rows (by kernel_rfl) (by kernel_rfl)) (slices_full_of Tryz.prog (by kernel_rfl)) (by decide +kernel) ?_
  · intro ds hl
    rw [show Tryz.f5.params.toList = [22, 23] by kernel_rfl] at hl
    match ds, hl with
    | [a, b], _ => rfl
  · intro W base args ds ps hval hA
    rw [show Tryz.f5.params.toList = [22, 23] by kernel_rfl] at hA
    obtain ⟨v0, v1, d0, d1, p0, p1, rfl, rfl, rfl, h0, h1⟩ := trodAll_two hA
    obtain ⟨bl0, xs0, hv0, hr0, hl0⟩ := view_of (enc := encU8) (n := 1) (ok := fun a => 0 ≤ a ∧ a ≤ 255) (fun _ => rfl) (e := 5) (by kernel_rfl) (by kernel_rfl) (by decide) (dec_int (k := .u8) (by kernel_rfl)) (hval 0 22 v0 (by kernel_rfl) rfl) h0
    obtain ⟨bl1, xs1, hv1, hr1, hl1⟩ := view_of (enc := (encK .i32)) (n := 1) (ok := fun a => -2147483648 ≤ a ∧ a ≤ 2147483647) (fun _ => rfl) (e := 21) (by kernel_rfl) (by kernel_rfl) (by decide) (dec_int (k := .i32) (by kernel_rfl)) (hval 1 23 v1 (by kernel_rfl) rfl) h1
    exact splitHalves_ok ⟨_, hv0⟩ ⟨_, hv1⟩ hr1 fun h' hx => ⟨rfl, hx⟩

theorem splitHalves_row : Rows.SplitHalvesSaid :=
  OpenClaim.holds_of_wide 5 Tryz.f5 rfl rfl rfl rfl rfl rfl rfl ⟨rfl, rfl, rfl, rfl, rfl⟩ rfl rfl rfl rfl rfl (by kernel_rfl) Tryz.func5 (by kernel_rfl)
    (of_decide_eq_true (by kernel_rfl)) (by unfold Func.isWrapper; first | (rw [if_pos (by decide +kernel)]; kernel_rfl) | (rw [if_neg (by decide +kernel)]; exact ⟨rfl, rfl⟩))
    (fun os started H enc _ => splitHalves_lifted os started H enc)

theorem splitHalves_holds : Rows.SplitHalvesCardSaid :=
  Claim7.holds_tied_plain_at .later [] [.handle] true (true, "ceff0ada8d3d08390bdec15ded0388e8251f6ed1b0a6437da587a5072c2a7949") true splitHalves_row (fun _ h => by cases h) (by kernel_rfl) (fun _ h => by cases h) splitHalves_row_tie rfl ⟨rfl, rfl⟩ (by kernel_rfl) rfl
    (fun f fn hf hfn => by
      obtain rfl : f = 5 := Option.some.inj ((show Tryz.prog.funcNamed "milestone/milestonelaw22.SplitHalves" = some 5 by kernel_rfl).symm.trans hf) |>.symm
      obtain rfl : fn = Tryz.f5 := (Option.some.inj (Tryz.func5.symm.trans hfn)).symm
      exact ⟨by kernel_rfl, fun j t ht => by
        rw [show Tryz.f5.params = #[22, 23] by kernel_rfl] at ht
        have hm : t ∈ ([22, 23] : List Nat) := by simpa using Array.mem_of_getElem? ht
        have hall : (([22, 23] : List Nat).all fun u => !Tryz.prog.wantsStandIn u) = true := by kernel_rfl
        exact (show Tryz.prog.wantsStandIn t = false by simpa using List.all_eq_true.1 hall t hm)⟩)
    (by kernel_rfl)

end Go.Proofs.YtbacdjahpahcfaaGreatDoor
