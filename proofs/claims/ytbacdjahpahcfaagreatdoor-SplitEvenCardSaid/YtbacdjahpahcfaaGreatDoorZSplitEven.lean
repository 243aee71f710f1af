/- The law 'SplitEven' of the document's layer holds for every input: the function returns true, and leaves its arguments as they were. The listed package-level variable is never read. -/
import Derived.Test.YtbacdjahpahcfaaGreatDoorTa
import Derived.Test.YtbacdjahpahcfaaGreatDoorMd
import Derived.Test.YtbacdjahpahcfaaGreatDoorRows
import Derived.Test.YtbacdjahpahcfaaGreatDoorTie
import Derived.Test.YtbacdjahpahcfaaGreatDoorCards
import Derived.LaidMore
import Derived.LaidHandle
import Derived.LaidLaws
import Derived.SevenTiedAt
set_option linter.unusedVariables false
set_option linter.unusedSimpArgs false

namespace Go.Proofs.YtbacdjahpahcfaaGreatDoor
open Go Go.Mh Go.ChangeShapes
set_option linter.unusedVariables false
set_option maxRecDepth 100000

theorem splitEven_lifted (os : Os) (started : os.Started) (H : Type) (enc : TypeId × Value → H) :
    ReturnsInHanded {} Tryz.checked os 4 .any (fun w args => (Rows.splitEvenSpec.pre enc Tryz.prog Tryz.f4 [] false w args ∧ laidMetH Tryz.prog Rows.splitEvenRow.laid w) ∧ sizedMet enc Tryz.prog Tryz.f4 (OpenSpec.ofChange Rows.splitEvenSpec) false w args)
      (Rows.splitEvenSpec.post enc Tryz.prog Tryz.f4 false true false false) := by
  refine law_laid (C := Tryz.checked) (tb := 4) (X := fun w _ => laidMetH Tryz.prog Rows.splitEvenRow.laid w) (fun _ _ _ hh h => h.of_heap hh) (by kernel_rfl) started (by kernel_rfl) Tryz.func4
    (ChangeSpec.witness_shaped (enc := enc) (C := Tryz.checked) (os := os) (X := fun w _ => laidMetH Tryz.prog Rows.splitEvenRow.laid w) false (World.doorLaid Tryz.prog 16 os) #[.slice none 0 0, .slice none 0 0, .int .u8 0] 8 rfl (World.shaped_of_RefB (by kernel_rfl) (by kernel_rfl)) (by kernel_rfl) (by kernel_rfl) (by kernel_rfl)
      (laidMetH_of_parts3 (fuel := 8) (laidMet_of_run' 8 (by kernel_rfl) (by kernel_rfl)) (by kernel_rfl) (by kernel_rfl)))
    rfl (by kernel_rfl) (by kernel_rfl) ?_ (kids_rows (by kernel_rfl) (by kernel_rfl)) (slices_full_of Tryz.prog (by kernel_rfl)) (by decide +kernel) ?_
  · intro ds hl
    rw [show Tryz.f4.params.toList = [22, 23, 5] by kernel_rfl] at hl
    match ds, hl with
    | [a, b, c], _ => rfl
  · intro W base args ds ps hval hA
    rw [show Tryz.f4.params.toList = [22, 23, 5] by kernel_rfl] at hA
    obtain ⟨v0, v1, v2, d0, d1, d2, p0, p1, p2, rfl, rfl, rfl, h0, h1, h2⟩ := trodAll_three hA
    obtain ⟨bl0, xs0, hv0, hr0, hl0⟩ := view_of (enc := encU8) (n := 1) (ok := fun a => 0 ≤ a ∧ a ≤ 255) (fun _ => rfl) (e := 5) (by kernel_rfl) (by kernel_rfl) (by decide) (dec_int (k := .u8) (by kernel_rfl)) (hval 0 22 v0 (by kernel_rfl) rfl) h0
    obtain ⟨bl1, xs1, hv1, hr1, hl1⟩ := view_of (enc := (encK .i32)) (n := 1) (ok := fun a => -2147483648 ≤ a ∧ a ≤ 2147483647) (fun _ => rfl) (e := 21) (by kernel_rfl) (by kernel_rfl) (by decide) (dec_int (k := .i32) (by kernel_rfl)) (hval 1 23 v1 (by kernel_rfl) rfl) h1
    obtain ⟨z2, rfl, lo2, hi2⟩ := int_of (k := .u8) (by kernel_rfl) (hval 2 5 v2 (by kernel_rfl) rfl) h2
    replace lo2 : (0 : Int) ≤ z2 := lo2
    replace hi2 : z2 ≤ (255 : Int) := hi2
    exact splitEven_ok ⟨_, hv0⟩ ⟨_, hv1⟩ hr1 (by omega) fun h' hx => ⟨rfl, hx⟩

theorem splitEven_row : Rows.SplitEvenSaid :=
  OpenClaim.holds_of_wide 4 Tryz.f4 rfl rfl rfl rfl rfl rfl rfl ⟨rfl, rfl, rfl, rfl, rfl⟩ rfl rfl rfl rfl rfl (by kernel_rfl) Tryz.func4 (by kernel_rfl)
    (of_decide_eq_true (by kernel_rfl)) (by unfold Func.isWrapper; first | (rw [if_pos (by decide +kernel)]; kernel_rfl) | (rw [if_neg (by decide +kernel)]; exact ⟨rfl, rfl⟩))
    (fun os started H enc _ => splitEven_lifted os started H enc)

theorem splitEven_holds : Rows.SplitEvenCardSaid :=
  Claim7.holds_tied_plain_at .later [] [.handle] true (true, "ceff0ada8d3d08390bdec15ded0388e8251f6ed1b0a6437da587a5072c2a7949") true splitEven_row (fun _ h => by cases h) (by kernel_rfl) (fun _ h => by cases h) splitEven_row_tie rfl ⟨rfl, rfl⟩ (by kernel_rfl) rfl
    (fun f fn hf hfn => by
      obtain rfl : f = 4 := Option.some.inj ((show Tryz.prog.funcNamed "milestone/milestonelaw22.SplitEven" = some 4 by kernel_rfl).symm.trans hf) |>.symm
      obtain rfl : fn = Tryz.f4 := (Option.some.inj (Tryz.func4.symm.trans hfn)).symm
      exact ⟨by kernel_rfl, fun j t ht => by
        rw [show Tryz.f4.params = #[22, 23, 5] by kernel_rfl] at ht
        have hm : t ∈ ([22, 23, 5] : List Nat) := by simpa using Array.mem_of_getElem? ht
        have hall : (([22, 23, 5] : List Nat).all fun u => !Tryz.prog.wantsStandIn u) = true := by kernel_rfl
        exact (show Tryz.prog.wantsStandIn t = false by simpa using List.all_eq_true.1 hall t hm)⟩)
    (by kernel_rfl)

end Go.Proofs.YtbacdjahpahcfaaGreatDoor
