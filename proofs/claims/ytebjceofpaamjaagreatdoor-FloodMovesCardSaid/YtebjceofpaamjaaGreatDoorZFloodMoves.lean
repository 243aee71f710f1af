/- The law 'FloodMoves' of the document's layer holds for every input: the function returns true, and leaves its arguments as they were. The listed package-level variable is never read. -/
import Derived.Test.YtebjceofpaamjaaGreatDoorTb
import Derived.Test.YtebjceofpaamjaaGreatDoorMc
import Derived.Test.YtebjceofpaamjaaGreatDoorRows
import Derived.Test.YtebjceofpaamjaaGreatDoorTie
import Derived.Test.YtebjceofpaamjaaGreatDoorCards
import Derived.LaidMore
import Derived.LaidHandle
import Derived.LaidLaws
import Derived.SevenTiedAt
set_option linter.unusedVariables false
set_option linter.unusedSimpArgs false

namespace Go.Proofs.YtebjceofpaamjaaGreatDoor
open Go Go.Mh Go.ChangeShapes
set_option linter.unusedVariables false
set_option maxRecDepth 100000

theorem floodMoves_lifted (os : Os) (started : os.Started) (H : Type) (enc : TypeId × Value → H) :
    ReturnsInHanded {} Tryz.checked os 7 .any (fun w args => (Rows.floodMovesSpec.pre enc Tryz.prog Tryz.f7 [] false w args ∧ laidMetH Tryz.prog Rows.floodMovesRow.laid w) ∧ sizedMet enc Tryz.prog Tryz.f7 (OpenSpec.ofChange Rows.floodMovesSpec) false w args)
      (Rows.floodMovesSpec.post enc Tryz.prog Tryz.f7 false true false false) := by
  refine law_laid (C := Tryz.checked) (tb := 4) (X := fun w _ => laidMetH Tryz.prog Rows.floodMovesRow.laid w) (fun _ _ _ hh h => h.of_heap hh) (by kernel_rfl) started (by kernel_rfl) Tryz.func7
    (ChangeSpec.witness_shaped (enc := enc) (C := Tryz.checked) (os := os) (X := fun w _ => laidMetH Tryz.prog Rows.floodMovesRow.laid w) false (World.doorLaid Tryz.prog 16 os) #[.slice none 0 0, .agg #[.int .u8 0, .int .u8 0, .int .u8 0], .int .i8 0] 8 rfl (World.shaped_of_RefB (by kernel_rfl) (by kernel_rfl)) (by kernel_rfl) (by kernel_rfl) (by kernel_rfl)
      (laidMetH_of_parts3 (fuel := 8) (laidMet_of_run' 8 (by kernel_rfl) (by kernel_rfl)) (by kernel_rfl) (by kernel_rfl)))
    rfl (by kernel_rfl) (by kernel_rfl) ?_ (kids_rows (by kernel_rfl) (by kernel_rfl)) (slices_full_of Tryz.prog (by kernel_rfl)) (by decide +kernel) ?_
  · intro ds hl
    rw [show Tryz.f7.params.toList = [22, 52, 53] by kernel_rfl] at hl
    match ds, hl with
    | [a, b, c], _ => rfl
  · intro W base args ds ps hval hA
    rw [show Tryz.f7.params.toList = [22, 52, 53] by kernel_rfl] at hA
    obtain ⟨v0, v1, v2, d0, d1, d2, p0, p1, p2, rfl, rfl, rfl, h0, h1, h2⟩ := trodAll_three hA
    obtain ⟨bl0, xs0, hv0, hr0, hl0⟩ := view_of (enc := encU8) (n := 1) (ok := fun a => 0 ≤ a ∧ a ≤ 255) (fun _ => rfl) (e := 5) (by kernel_rfl) (by kernel_rfl) (by decide) (dec_int (k := .u8) (by kernel_rfl)) (hval 0 22 v0 (by kernel_rfl) rfl) h0
    obtain ⟨a1, b1, c1, rfl, ra1, rb1, rc1⟩ := arr3_of (k := .u8) (e := 5) (by kernel_rfl) (by kernel_rfl) (by kernel_rfl) (by kernel_rfl) (hval 1 52 v1 (by kernel_rfl) rfl) h1
    replace ra1 : (0 : Int) ≤ a1 ∧ a1 ≤ 255 := ra1
    replace rb1 : (0 : Int) ≤ b1 ∧ b1 ≤ 255 := rb1
    replace rc1 : (0 : Int) ≤ c1 ∧ c1 ≤ 255 := rc1
    obtain ⟨z2, rfl, lo2, hi2⟩ := int_of (k := .i8) (by kernel_rfl) (hval 2 53 v2 (by kernel_rfl) rfl) h2
    replace lo2 : (-128 : Int) ≤ z2 := lo2
    replace hi2 : z2 ≤ (127 : Int) := hi2
    exact floodMoves_ok ⟨_, hv0⟩ ra1 rb1 rc1 ⟨lo2, hi2⟩ fun h' hx => ⟨rfl, hx⟩

theorem floodMoves_row : Rows.FloodMovesSaid :=
  OpenClaim.holds_of_wide 7 Tryz.f7 rfl rfl rfl rfl rfl rfl rfl ⟨rfl, rfl, rfl, rfl, rfl⟩ rfl rfl rfl rfl rfl (by kernel_rfl) Tryz.func7 (by kernel_rfl)
    (of_decide_eq_true (by kernel_rfl)) (by unfold Func.isWrapper; first | (rw [if_pos (by decide +kernel)]; kernel_rfl) | (rw [if_neg (by decide +kernel)]; exact ⟨rfl, rfl⟩))
    (fun os started H enc _ => floodMoves_lifted os started H enc)

theorem floodMoves_holds : Rows.FloodMovesCardSaid :=
  Claim7.holds_tied_plain_at .later [] [.handle] true (true, "d8f5edc8ccf41819214b9262c23edbbb1e3531134e56b239e0dca052738dd025") true floodMoves_row (fun _ h => by cases h) (by kernel_rfl) (fun _ h => by cases h) floodMoves_row_tie rfl ⟨rfl, rfl⟩ (by kernel_rfl) rfl
    (fun f fn hf hfn => by
      obtain rfl : f = 7 := Option.some.inj ((show Tryz.prog.funcNamed "milestone/milestonelaw10.FloodMoves" = some 7 by kernel_rfl).symm.trans hf) |>.symm
      obtain rfl : fn = Tryz.f7 := (Option.some.inj (Tryz.func7.symm.trans hfn)).symm
      exact ⟨by kernel_rfl, fun j t ht => by
        rw [show Tryz.f7.params = #[22, 52, 53] by kernel_rfl] at ht
        have hm : t ∈ ([22, 52, 53] : List Nat) := by simpa using Array.mem_of_getElem? ht
        have hall : (([22, 52, 53] : List Nat).all fun u => !Tryz.prog.wantsStandIn u) = true := by kernel_rfl
        exact (show Tryz.prog.wantsStandIn t = false by simpa using List.all_eq_true.1 hall t hm)⟩)
    (by kernel_rfl)

end Go.Proofs.YtebjceofpaamjaaGreatDoor
