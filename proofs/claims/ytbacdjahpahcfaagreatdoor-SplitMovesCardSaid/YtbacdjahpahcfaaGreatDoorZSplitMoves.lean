/- The law 'SplitMoves' of the document's layer holds for every input: the function returns true, and leaves its arguments as they were. The listed package-level variable is never read. -/
import Derived.Test.YtbacdjahpahcfaaGreatDoorTa
import Derived.Test.YtbacdjahpahcfaaGreatDoorMd
import Derived.Test.YtbacdjahpahcfaaGreatDoorRows
import Derived.Test.YtbacdjahpahcfaaGreatDoorTie
import Derived.Test.YtbacdjahpahcfaaGreatDoorCards
import Derived.LaidMore
import Derived.LaidHandle
import Derived.LaidLaws
import Derived.SevenTiedAt
set_option linter.unusedVariables false
set_option linter.unusedSimpArgs false

namespace Go.Proofs.YtbacdjahpahcfaaGreatDoor
open Go Go.Mh Go.ChangeShapes
set_option linter.unusedVariables false
set_option maxRecDepth 100000

theorem splitMoves_lifted (os : Os) (started : os.Started) (H : Type) (enc : TypeId × Value → H) :
    ReturnsInHanded {} Tryz.checked os 6 .any (fun w args => (Rows.splitMovesSpec.pre enc Tryz.prog Tryz.f6 [] false w args ∧ laidMetH Tryz.prog Rows.splitMovesRow.laid w) ∧ sizedMet enc Tryz.prog Tryz.f6 (OpenSpec.ofChange Rows.splitMovesSpec) false w args)
      (Rows.splitMovesSpec.post enc Tryz.prog Tryz.f6 false true false false) := by
  refine law_laid (C := Tryz.checked) (tb := 4) (X := fun w _ => laidMetH Tryz.prog Rows.splitMovesRow.laid w) (fun _ _ _ hh h => h.of_heap hh) (by kernel_rfl) started (by kernel_rfl) Tryz.func6
    (ChangeSpec.witness_shaped (enc := enc) (C := Tryz.checked) (os := os) (X := fun w _ => laidMetH Tryz.prog Rows.splitMovesRow.laid w) false (World.doorLaid Tryz.prog 16 os) #[.slice none 0 0, .agg #[.int .i8 0, .int .i8 0, .int .i8 0], .int .u8 0] 8 rfl (World.shaped_of_RefB (by kernel_rfl) (by kernel_rfl)) (by kernel_rfl) (by kernel_rfl) (by kernel_rfl)
      (laidMetH_of_parts3 (fuel := 8) (laidMet_of_run' 8 (by kernel_rfl) (by kernel_rfl)) (by kernel_rfl) (by kernel_rfl)))
    rfl (by kernel_rfl) (by kernel_rfl) ?_ (kids_rows (by kernel_rfl) (by kernel_rfl)) (slices_full_of Tryz.prog (by kernel_rfl)) (by decide +kernel) ?_
  · intro ds hl
    rw [show Tryz.f6.params.toList = [22, 46, 5] by kernel_rfl] at hl
    match ds, hl with
    | [a, b, c], _ => rfl
  · intro W base args ds ps hval hA
    rw [show Tryz.f6.params.toList = [22, 46, 5] by kernel_rfl] at hA
    obtain ⟨v0, v1, v2, d0, d1, d2, p0, p1, p2, rfl, rfl, rfl, h0, h1, h2⟩ := trodAll_three hA
    obtain ⟨bl0, xs0, hv0, hr0, hl0⟩ := view_of (enc := encU8) (n := 1) (ok := fun a => 0 ≤ a ∧ a ≤ 255) (fun _ => rfl) (e := 5) (by kernel_rfl) (by kernel_rfl) (by decide) (dec_int (k := .u8) (by kernel_rfl)) (hval 0 22 v0 (by kernel_rfl) rfl) h0
    obtain ⟨cs1, rfl, hl1, O1⟩ := agg_of (n := 3) (by kernel_rfl) (by kernel_rfl) (hval 1 46 v1 (by kernel_rfl) rfl) h1
    obtain ⟨c1_0, c1_1, c1_2, rfl⟩ := len3 hl1
    have O1_0 := Opn.elem (m := 3) (e := 45) (n := 1) O1 0 (cs' := [c1_0]) (by kernel_rfl) (by decide) (by kernel_rfl) rfl
    have O1_1 := Opn.elem (m := 3) (e := 45) (n := 1) O1 1 (cs' := [c1_1]) (by kernel_rfl) (by decide) (by kernel_rfl) rfl
    have O1_2 := Opn.elem (m := 3) (e := 45) (n := 1) O1 2 (cs' := [c1_2]) (by kernel_rfl) (by decide) (by kernel_rfl) rfl
    obtain ⟨z1_0, e1_0, r1_0⟩ := Opn.int (k := .i8) O1_0 (by kernel_rfl)
    replace r1_0 : (-128 : Int) ≤ z1_0 ∧ z1_0 ≤ 127 := r1_0
    subst e1_0
    obtain ⟨z1_1, e1_1, r1_1⟩ := Opn.int (k := .i8) O1_1 (by kernel_rfl)
    replace r1_1 : (-128 : Int) ≤ z1_1 ∧ z1_1 ≤ 127 := r1_1
    subst e1_1
    obtain ⟨z1_2, e1_2, r1_2⟩ := Opn.int (k := .i8) O1_2 (by kernel_rfl)
    replace r1_2 : (-128 : Int) ≤ z1_2 ∧ z1_2 ≤ 127 := r1_2
    subst e1_2
    obtain ⟨z2, rfl, lo2, hi2⟩ := int_of (k := .u8) (by kernel_rfl) (hval 2 5 v2 (by kernel_rfl) rfl) h2
    replace lo2 : (0 : Int) ≤ z2 := lo2
    replace hi2 : z2 ≤ (255 : Int) := hi2
    exact splitMoves_ok ⟨_, hv0⟩ (by omega) (by omega) (by omega) (by omega) fun h' hx => ⟨rfl, hx⟩

theorem splitMoves_row : Rows.SplitMovesSaid :=
  OpenClaim.holds_of_wide 6 Tryz.f6 rfl rfl rfl rfl rfl rfl rfl ⟨rfl, rfl, rfl, rfl, rfl⟩ rfl rfl rfl rfl rfl (by kernel_rfl) Tryz.func6 (by kernel_rfl)
    (of_decide_eq_true (by kernel_rfl)) (by unfold Func.isWrapper; first | (rw [if_pos (by decide +kernel)]; kernel_rfl) | (rw [if_neg (by decide +kernel)]; exact ⟨rfl, rfl⟩))
    (fun os started H enc _ => splitMoves_lifted os started H enc)

theorem splitMoves_holds : Rows.SplitMovesCardSaid :=
  Claim7.holds_tied_plain_at .later [] [.handle] true (true, "ceff0ada8d3d08390bdec15ded0388e8251f6ed1b0a6437da587a5072c2a7949") true splitMoves_row (fun _ h => by cases h) (by kernel_rfl) (fun _ h => by cases h) splitMoves_row_tie rfl ⟨rfl, rfl⟩ (by kernel_rfl) rfl
    (fun f fn hf hfn => by
      obtain rfl : f = 6 := Option.some.inj ((show Tryz.prog.funcNamed "milestone/milestonelaw22.SplitMoves" = some 6 by kernel_rfl).symm.trans hf) |>.symm
      obtain rfl : fn = Tryz.f6 := (Option.some.inj (Tryz.func6.symm.trans hfn)).symm
      exact ⟨by kernel_rfl, fun j t ht => by
        rw [show Tryz.f6.params = #[22, 46, 5] by kernel_rfl] at ht
        have hm : t ∈ ([22, 46, 5] : List Nat) := by simpa using Array.mem_of_getElem? ht
        have hall : (([22, 46, 5] : List Nat).all fun u => !Tryz.prog.wantsStandIn u) = true := by kernel_rfl
        exact (show Tryz.prog.wantsStandIn t = false by simpa using List.all_eq_true.1 hall t hm)⟩)
    (by kernel_rfl)

end Go.Proofs.YtbacdjahpahcfaaGreatDoor
