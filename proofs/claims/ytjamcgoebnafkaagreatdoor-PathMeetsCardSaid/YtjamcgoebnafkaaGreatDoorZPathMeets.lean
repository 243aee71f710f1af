/- The law 'PathMeets' of the document's layer holds for every input: the function returns true, and leaves its arguments as they were. The listed package-level variable is never read. -/
import Derived.Test.YtjamcgoebnafkaaGreatDoorTc
import Derived.Test.YtjamcgoebnafkaaGreatDoorMd
import Derived.Test.YtjamcgoebnafkaaGreatDoorRows
import Derived.Test.YtjamcgoebnafkaaGreatDoorTie
import Derived.Test.YtjamcgoebnafkaaGreatDoorCards
import Derived.LaidMore
import Derived.LaidHandle
import Derived.LaidLaws
import Derived.SevenTiedAt
set_option linter.unusedVariables false
set_option linter.unusedSimpArgs false

namespace Go.Proofs.YtjamcgoebnafkaaGreatDoor
open Go Go.Mh Go.ChangeShapes
set_option linter.unusedVariables false
set_option maxRecDepth 100000

theorem pathMeets_lifted (os : Os) (started : os.Started) (H : Type) (enc : TypeId × Value → H) :
    ReturnsInHanded {} Tryz.checked os 6 .any (fun w args => (Rows.pathMeetsSpec.pre enc Tryz.prog Tryz.f6 [] false w args ∧ laidMetH Tryz.prog Rows.pathMeetsRow.laid w) ∧ sizedMet enc Tryz.prog Tryz.f6 (OpenSpec.ofChange Rows.pathMeetsSpec) false w args)
      (Rows.pathMeetsSpec.post enc Tryz.prog Tryz.f6 false true false false) := by
  refine law_laid (C := Tryz.checked) (tb := 4) (X := fun w _ => laidMetH Tryz.prog Rows.pathMeetsRow.laid w) (fun _ _ _ hh h => h.of_heap hh) (by kernel_rfl) started (by kernel_rfl) Tryz.func6
    (ChangeSpec.witness_shaped (enc := enc) (C := Tryz.checked) (os := os) (X := fun w _ => laidMetH Tryz.prog Rows.pathMeetsRow.laid w) false (World.doorLaid Tryz.prog 16 os) #[.agg #[.slice none 0 0, .int .u8 0, .int .u8 0]] 8 rfl (World.shaped_of_RefB (by kernel_rfl) (by kernel_rfl)) (by kernel_rfl) (by kernel_rfl) (by kernel_rfl)
      (laidMetH_of_parts3 (fuel := 8) (laidMet_of_run' 8 (by kernel_rfl) (by kernel_rfl)) (by kernel_rfl) (by kernel_rfl)))
    rfl (by kernel_rfl) (by kernel_rfl) ?_ (kids_rows (by kernel_rfl) (by kernel_rfl)) (slices_full_of Tryz.prog (by kernel_rfl)) (by decide +kernel) ?_
  · intro ds hl
    rw [show Tryz.f6.params.toList = [25] by kernel_rfl] at hl
    match ds, hl with
    | [a], _ => rfl
  · intro W base args ds ps hval hA
    rw [show Tryz.f6.params.toList = [25] by kernel_rfl] at hA
    obtain ⟨v0, d0, rfl, rfl, h0⟩ := trodAll_one hA
    obtain ⟨cs0, rfl, hl0, O0⟩ := agg_of (n := 3) (by kernel_rfl) (by kernel_rfl) (hval 0 25 v0 (by kernel_rfl) rfl) h0
    obtain ⟨c0_0, c0_1, c0_2, rfl⟩ := len3 hl0
    have O0_0 := Opn.field (n := 1) O0 0 (ft := 22) (off := 0) (cs' := [c0_0]) (by kernel_rfl) (by kernel_rfl) rfl
    have O0_1 := Opn.field (n := 2) O0 1 (ft := 23) (off := 1) (cs' := [c0_1, c0_2]) (by kernel_rfl) (by kernel_rfl) rfl
    obtain ⟨bl0_0, xs0_0, hv0_0, hr0_0, hl0_0⟩ := Opn.view (enc := encU8) (n := 1) (ok := fun a => 0 ≤ a ∧ a ≤ 255) (fun _ => rfl) O0_0 (e := 5) (by kernel_rfl) (by kernel_rfl) (by decide) (dec_int (k := .u8) (by kernel_rfl))
    have O0_1_0 := Opn.elem (m := 2) (e := 5) (n := 1) O0_1 0 (cs' := [c0_1]) (by kernel_rfl) (by decide) (by kernel_rfl) rfl
    have O0_1_1 := Opn.elem (m := 2) (e := 5) (n := 1) O0_1 1 (cs' := [c0_2]) (by kernel_rfl) (by decide) (by kernel_rfl) rfl
    obtain ⟨z0_1_0, e0_1_0, r0_1_0⟩ := Opn.int (k := .u8) O0_1_0 (by kernel_rfl)
    replace r0_1_0 : (0 : Int) ≤ z0_1_0 ∧ z0_1_0 ≤ 255 := r0_1_0
    subst e0_1_0
    obtain ⟨z0_1_1, e0_1_1, r0_1_1⟩ := Opn.int (k := .u8) O0_1_1 (by kernel_rfl)
    replace r0_1_1 : (0 : Int) ≤ z0_1_1 ∧ z0_1_1 ≤ 255 := r0_1_1
    subst e0_1_1
    exact pathMeets_ok ⟨_, hv0_0⟩ r0_1_0 r0_1_1 fun h' hx => ⟨rfl, hx⟩

theorem pathMeets_row : Rows.PathMeetsSaid :=
  OpenClaim.holds_of_wide 6 Tryz.f6 rfl rfl rfl rfl rfl rfl rfl ⟨rfl, rfl, rfl, rfl, rfl⟩ rfl rfl rfl rfl rfl (by kernel_rfl) Tryz.func6 (by kernel_rfl)
    (of_decide_eq_true (by kernel_rfl)) (by unfold Func.isWrapper; first | (rw [if_pos (by decide +kernel)]; kernel_rfl) | (rw [if_neg (by decide +kernel)]; exact ⟨rfl, rfl⟩))
    (fun os started H enc _ => pathMeets_lifted os started H enc)

theorem pathMeets_holds : Rows.PathMeetsCardSaid :=
  Claim7.holds_tied_plain_at .later [] [.handle] true (true, "52bc228fd74df1e66a08d22f4956209ab1176173da1a016b3648671d23c0467f") true pathMeets_row (fun _ h => by cases h) (by kernel_rfl) (fun _ h => by cases h) pathMeets_row_tie rfl ⟨rfl, rfl⟩ (by kernel_rfl) rfl
    (fun f fn hf hfn => by
      obtain rfl : f = 6 := Option.some.inj ((show Tryz.prog.funcNamed "milestone/milestonelaw11.PathMeets" = some 6 by kernel_rfl).symm.trans hf) |>.symm
      obtain rfl : fn = Tryz.f6 := (Option.some.inj (Tryz.func6.symm.trans hfn)).symm
      exact ⟨by kernel_rfl, fun j t ht => by
        rw [show Tryz.f6.params = #[25] by kernel_rfl] at ht
        have hm : t ∈ ([25] : List Nat) := by simpa using Array.mem_of_getElem? ht
        have hall : (([25] : List Nat).all fun u => !Tryz.prog.wantsStandIn u) = true := by kernel_rfl
        exact (show Tryz.prog.wantsStandIn t = false by simpa using List.all_eq_true.1 hall t hm)⟩)
    (by kernel_rfl)

end Go.Proofs.YtjamcgoebnafkaaGreatDoor
