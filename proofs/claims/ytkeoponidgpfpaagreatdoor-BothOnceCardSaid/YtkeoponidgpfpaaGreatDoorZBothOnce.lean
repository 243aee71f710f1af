/- The law 'BothOnce' of the document's layer holds for every input: the function returns true, and leaves its arguments as they were. The listed package-level variable is never read. -/
import Derived.Test.YtkeoponidgpfpaaGreatDoorTd
import Derived.Test.YtkeoponidgpfpaaGreatDoorMd
import Derived.Test.YtkeoponidgpfpaaGreatDoorRows
import Derived.Test.YtkeoponidgpfpaaGreatDoorTie
import Derived.Test.YtkeoponidgpfpaaGreatDoorCards
import Derived.LaidMore
import Derived.LaidHandle
import Derived.LaidLaws
import Derived.SevenTiedAt
set_option linter.unusedVariables false
set_option linter.unusedSimpArgs false

namespace Go.Proofs.YtkeoponidgpfpaaGreatDoor
open Go Go.Mh Go.ChangeShapes
set_option linter.unusedVariables false
set_option maxRecDepth 100000

theorem bothOnce_lifted (os : Os) (started : os.Started) (H : Type) (enc : TypeId × Value → H) :
    ReturnsInHanded {} Tryz.checked os 7 .any (fun w args => (Rows.bothOnceSpec.pre enc Tryz.prog Tryz.f7 [] false w args ∧ laidMetH Tryz.prog Rows.bothOnceRow.laid w) ∧ sizedMet enc Tryz.prog Tryz.f7 (OpenSpec.ofChange Rows.bothOnceSpec) false w args)
      (Rows.bothOnceSpec.post enc Tryz.prog Tryz.f7 false true false false) := by
  refine law_laid (C := Tryz.checked) (tb := 4) (X := fun w _ => laidMetH Tryz.prog Rows.bothOnceRow.laid w) (fun _ _ _ hh h => h.of_heap hh) (by kernel_rfl) started (by kernel_rfl) Tryz.func7
    (ChangeSpec.witness_shaped (enc := enc) (C := Tryz.checked) (os := os) (X := fun w _ => laidMetH Tryz.prog Rows.bothOnceRow.laid w) false (World.doorLaid Tryz.prog 16 os) #[.agg #[.slice none 0 0, .int .u8 0, .int .u8 0, .bool false, .bool false, .int .u64 0, .slice none 0 0, .int .u8 0]] 8 rfl (World.shaped_of_RefB (by kernel_rfl) (by kernel_rfl)) (by kernel_rfl) (by kernel_rfl) (by kernel_rfl)
      (laidMetH_of_parts3 (fuel := 8) (laidMet_of_run' 8 (by kernel_rfl) (by kernel_rfl)) (by kernel_rfl) (by kernel_rfl)))
    rfl (by kernel_rfl) (by kernel_rfl) ?_ (kids_rows (by kernel_rfl) (by kernel_rfl)) (slices_full_of Tryz.prog (by kernel_rfl)) (by decide +kernel) ?_
  · intro ds hl
    rw [show Tryz.f7.params.toList = [26] by kernel_rfl] at hl
    match ds, hl with
    | [a], _ => rfl
  · intro W base args ds ps hval hA
    rw [show Tryz.f7.params.toList = [26] by kernel_rfl] at hA
    obtain ⟨v0, d0, rfl, rfl, h0⟩ := trodAll_one hA
    obtain ⟨cs0, rfl, hl0, O0⟩ := agg_of (n := 8) (by kernel_rfl) (by kernel_rfl) (hval 0 26 v0 (by kernel_rfl) rfl) h0
    obtain ⟨c0_0, c0_1, c0_2, c0_3, c0_4, c0_5, c0_6, c0_7, rfl⟩ := len8 hl0
    have O0_0 := Opn.field (n := 1) O0 0 (ft := 22) (off := 0) (cs' := [c0_0]) (by kernel_rfl) (by kernel_rfl) rfl
    have O0_1 := Opn.field (n := 1) O0 1 (ft := 5) (off := 1) (cs' := [c0_1]) (by kernel_rfl) (by kernel_rfl) rfl
    have O0_2 := Opn.field (n := 1) O0 2 (ft := 5) (off := 2) (cs' := [c0_2]) (by kernel_rfl) (by kernel_rfl) rfl
    have O0_3 := Opn.field (n := 1) O0 3 (ft := 4) (off := 3) (cs' := [c0_3]) (by kernel_rfl) (by kernel_rfl) rfl
    have O0_4 := Opn.field (n := 1) O0 4 (ft := 4) (off := 4) (cs' := [c0_4]) (by kernel_rfl) (by kernel_rfl) rfl
    have O0_5 := Opn.field (n := 1) O0 5 (ft := 23) (off := 5) (cs' := [c0_5]) (by kernel_rfl) (by kernel_rfl) rfl
    have O0_6 := Opn.field (n := 1) O0 6 (ft := 24) (off := 6) (cs' := [c0_6]) (by kernel_rfl) (by kernel_rfl) rfl
    have O0_7 := Opn.field (n := 1) O0 7 (ft := 5) (off := 7) (cs' := [c0_7]) (by kernel_rfl) (by kernel_rfl) rfl
    obtain ⟨bl0_0, xs0_0, hv0_0, hr0_0, hl0_0⟩ := Opn.view (enc := encU8) (n := 1) (ok := fun a => 0 ≤ a ∧ a ≤ 255) (fun _ => rfl) O0_0 (e := 5) (by kernel_rfl) (by kernel_rfl) (by decide) (dec_int (k := .u8) (by kernel_rfl))
    obtain ⟨z0_1, e0_1, r0_1⟩ := Opn.int (k := .u8) O0_1 (by kernel_rfl)
    replace r0_1 : (0 : Int) ≤ z0_1 ∧ z0_1 ≤ 255 := r0_1
    subst e0_1
    obtain ⟨z0_2, e0_2, r0_2⟩ := Opn.int (k := .u8) O0_2 (by kernel_rfl)
    replace r0_2 : (0 : Int) ≤ z0_2 ∧ z0_2 ≤ 255 := r0_2
    subst e0_2
    obtain ⟨z0_3, e0_3⟩ := Opn.bool O0_3 (by kernel_rfl)
    subst e0_3
    obtain ⟨z0_4, e0_4⟩ := Opn.bool O0_4 (by kernel_rfl)
    subst e0_4
    obtain ⟨z0_5, e0_5, r0_5⟩ := Opn.int (k := .u64) O0_5 (by kernel_rfl)
    replace r0_5 : (0 : Int) ≤ z0_5 ∧ z0_5 ≤ 18446744073709551615 := r0_5
    subst e0_5
    obtain ⟨bl0_6, xs0_6, hv0_6, hr0_6, hl0_6⟩ := Opn.view (enc := encI) (n := 1) (ok := fun a => -9223372036854775808 ≤ a ∧ a ≤ 9223372036854775807) (fun _ => rfl) O0_6 (e := 2) (by kernel_rfl) (by kernel_rfl) (by decide) (dec_int (k := .i64) (by kernel_rfl))
    obtain ⟨z0_7, e0_7, r0_7⟩ := Opn.int (k := .u8) O0_7 (by kernel_rfl)
    replace r0_7 : (0 : Int) ≤ z0_7 ∧ z0_7 ≤ 255 := r0_7
    subst e0_7
    exact bothOnce_ok ⟨_, hv0_0⟩ ⟨_, hv0_6⟩ (by omega) (by omega) (by omega) fun h' hx => ⟨rfl, hx⟩

theorem bothOnce_row : Rows.BothOnceSaid :=
  OpenClaim.holds_of_wide 7 Tryz.f7 rfl rfl rfl rfl rfl rfl rfl ⟨rfl, rfl, rfl, rfl, rfl⟩ rfl rfl rfl rfl rfl (by kernel_rfl) Tryz.func7 (by kernel_rfl)
    (of_decide_eq_true (by kernel_rfl)) (by unfold Func.isWrapper; first | (rw [if_pos (by decide +kernel)]; kernel_rfl) | (rw [if_neg (by decide +kernel)]; exact ⟨rfl, rfl⟩))
    (fun os started H enc _ => bothOnce_lifted os started H enc)

theorem bothOnce_holds : Rows.BothOnceCardSaid :=
  Claim7.holds_tied_plain_at .later [] [.handle] true (true, "76a7c47772631b1360a548173ad4a5377ee6b6eda3101ec5354c4ff8d3fff875") true bothOnce_row (fun _ h => by cases h) (by kernel_rfl) (fun _ h => by cases h) bothOnce_row_tie rfl ⟨rfl, rfl⟩ (by kernel_rfl) rfl
    (fun f fn hf hfn => by
      obtain rfl : f = 7 := Option.some.inj ((show Tryz.prog.funcNamed "milestone/milestonelaw14.BothOnce" = some 7 by kernel_rfl).symm.trans hf) |>.symm
      obtain rfl : fn = Tryz.f7 := (Option.some.inj (Tryz.func7.symm.trans hfn)).symm
      exact ⟨by kernel_rfl, fun j t ht => by
        rw [show Tryz.f7.params = #[26] by kernel_rfl] at ht
        have hm : t ∈ ([26] : List Nat) := by simpa using Array.mem_of_getElem? ht
        have hall : (([26] : List Nat).all fun u => !Tryz.prog.wantsStandIn u) = true := by kernel_rfl
        exact (show Tryz.prog.wantsStandIn t = false by simpa using List.all_eq_true.1 hall t hm)⟩)
    (by kernel_rfl)

end Go.Proofs.YtkeoponidgpfpaaGreatDoor
