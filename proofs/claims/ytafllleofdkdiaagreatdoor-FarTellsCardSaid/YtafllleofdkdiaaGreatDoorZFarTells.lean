/- The law 'FarTells' of the document's layer holds for every input: the function returns true, and leaves its arguments as they were. The listed package-level variable is never read. -/
import Derived.Test.YtafllleofdkdiaaGreatDoorTb
import Derived.Test.YtafllleofdkdiaaGreatDoorMc
import Derived.Test.YtafllleofdkdiaaGreatDoorMd
import Derived.Test.YtafllleofdkdiaaGreatDoorRows
import Derived.Test.YtafllleofdkdiaaGreatDoorTie
import Derived.Test.YtafllleofdkdiaaGreatDoorCards
import Derived.LaidMore
import Derived.LaidHandle
import Derived.LaidLaws
import Derived.SevenTiedAt
set_option linter.unusedVariables false
set_option linter.unusedSimpArgs false

namespace Go.Proofs.YtafllleofdkdiaaGreatDoor
open Go Go.Mh Go.ChangeShapes
set_option linter.unusedVariables false
set_option maxRecDepth 100000

theorem farTells_lifted (os : Os) (started : os.Started) (H : Type) (enc : TypeId × Value → H) :
    ReturnsInHanded {} Tryz.checked os 3 .any (fun w args => (Rows.farTellsSpec.pre enc Tryz.prog Tryz.f3 [] false w args ∧ laidMetH Tryz.prog Rows.farTellsRow.laid w) ∧ sizedMet enc Tryz.prog Tryz.f3 (OpenSpec.ofChange Rows.farTellsSpec) false w args)
      (Rows.farTellsSpec.post enc Tryz.prog Tryz.f3 false true false false) := by
  refine law_laidS (C := Tryz.checked) (tb := 4) (X := fun w _ => laidMetH Tryz.prog Rows.farTellsRow.laid w) (fun _ _ _ hh h => h.of_heap hh) (by kernel_rfl) started (by kernel_rfl) Tryz.func3
    (ChangeSpec.witness_shaped (enc := enc) (C := Tryz.checked) (os := os) (X := fun w _ => laidMetH Tryz.prog Rows.farTellsRow.laid w) false (World.doorLaid Tryz.prog 16 os) #[.agg #[.slice none 0 0, .int .i8 0, .slice none 0 0], .slice none 0 0] 8 rfl (World.shaped_of_RefB (by kernel_rfl) (by kernel_rfl)) (by kernel_rfl) (by kernel_rfl) (by kernel_rfl)
      (laidMetH_of_parts3 (fuel := 8) (laidMet_of_run' 8 (by kernel_rfl) (by kernel_rfl)) (by kernel_rfl) (by kernel_rfl)))
    rfl (by kernel_rfl) (by kernel_rfl) ?_ (kids_rows (by kernel_rfl) (by kernel_rfl)) (slices_full_of Tryz.prog (by kernel_rfl)) (by decide +kernel) ?_
  · intro ds hl
    rw [show Tryz.f3.params.toList = [26, 27] by kernel_rfl] at hl
    match ds, hl with
    | [a, b], _ => rfl
  · intro W base args ds ps hval hA hw
    rw [show Tryz.f3.params.toList = [26, 27] by kernel_rfl] at hA
    obtain ⟨v0, v1, d0, d1, p0, p1, rfl, rfl, rfl, h0, h1⟩ := trodAll_two hA
    obtain ⟨cs0, rfl, hl0, O0⟩ := agg_ofW (n := 3) (by kernel_rfl) (by kernel_rfl) (hval 0 26 v0 (by kernel_rfl) rfl) h0 (fun q hq => hw q (weightsEach_get (i := 0) rfl rfl hq))
    obtain ⟨c0_0, c0_1, c0_2, rfl⟩ := len3 hl0
    have O0_0 := OpnW.field (n := 1) O0 0 (ft := 22) (off := 0) (cs' := [c0_0]) (by kernel_rfl) (by kernel_rfl) rfl
    have O0_1 := OpnW.field (n := 1) O0 1 (ft := 23) (off := 1) (cs' := [c0_1]) (by kernel_rfl) (by kernel_rfl) rfl
    have O0_2 := OpnW.field (n := 1) O0 2 (ft := 24) (off := 2) (cs' := [c0_2]) (by kernel_rfl) (by kernel_rfl) rfl
    obtain ⟨bl0_0, xs0_0, hv0_0, hr0_0, hl0_0⟩ := Opn.view (enc := encU8) (n := 1) (ok := fun a => 0 ≤ a ∧ a ≤ 255) (fun _ => rfl) (OpnW.opn O0_0) (e := 5) (by kernel_rfl) (by kernel_rfl) (by decide) (dec_int (k := .u8) (by kernel_rfl))
    have hs0_0 := OpnW.len (e := 5) (b := 1) O0_0 (by kernel_rfl) (by kernel_rfl) hv0_0
    obtain ⟨z0_1, e0_1, r0_1⟩ := Opn.int (k := .i8) (OpnW.opn O0_1) (by kernel_rfl)
    replace r0_1 : (-128 : Int) ≤ z0_1 ∧ z0_1 ≤ 127 := r0_1
    subst e0_1
    obtain ⟨bl0_2, xs0_2, hv0_2, hr0_2, hl0_2⟩ := Opn.view (enc := (encK .u32)) (n := 1) (ok := fun a => 0 ≤ a ∧ a ≤ 4294967295) (fun _ => rfl) (OpnW.opn O0_2) (e := 59) (by kernel_rfl) (by kernel_rfl) (by decide) (dec_int (k := .u32) (by kernel_rfl))
    have hs0_2 := OpnW.len (e := 59) (b := 4) O0_2 (by kernel_rfl) (by kernel_rfl) hv0_2
    obtain ⟨bl1, xs1, hv1, hr1, hl1⟩ := view_of (enc := encI) (n := 1) (ok := fun a => -9223372036854775808 ≤ a ∧ a ≤ 9223372036854775807) (fun _ => rfl) (e := 3) (by kernel_rfl) (by kernel_rfl) (by decide) (dec_int (k := .i64) (by kernel_rfl)) (hval 1 27 v1 (by kernel_rfl) rfl) h1
    exact farTells_ok ⟨_, hv0_0⟩ ⟨_, hv0_2⟩ hr0_2 hs0_2 r0_1 ⟨_, hv1⟩ fun h' hx => ⟨rfl, hx⟩

theorem farTells_row : Rows.FarTellsSaid :=
  OpenClaim.holds_of_wide 3 Tryz.f3 rfl rfl rfl rfl rfl rfl rfl ⟨rfl, rfl, rfl, rfl, rfl⟩ rfl rfl rfl rfl rfl (by kernel_rfl) Tryz.func3 (by kernel_rfl)
    (of_decide_eq_true (by kernel_rfl)) (by unfold Func.isWrapper; first | (rw [if_pos (by decide +kernel)]; kernel_rfl) | (rw [if_neg (by decide +kernel)]; exact ⟨rfl, rfl⟩))
    (fun os started H enc _ => farTells_lifted os started H enc)

theorem farTells_holds : Rows.FarTellsCardSaid :=
  Claim7.holds_tied_plain_at .later [] [.handle] true (true, "74df2f82de871cf7e24cfe14d67b3f3ec093d7aa9390726499e96403747d1fab") true farTells_row (fun _ h => by cases h) (by kernel_rfl) (fun _ h => by cases h) farTells_row_tie rfl ⟨rfl, rfl⟩ (by kernel_rfl) rfl
    (fun f fn hf hfn => by
      obtain rfl : f = 3 := Option.some.inj ((show Tryz.prog.funcNamed "milestone/milestonelaw15.FarTells" = some 3 by kernel_rfl).symm.trans hf) |>.symm
      obtain rfl : fn = Tryz.f3 := (Option.some.inj (Tryz.func3.symm.trans hfn)).symm
      exact ⟨by kernel_rfl, fun j t ht => by
        rw [show Tryz.f3.params = #[26, 27] by kernel_rfl] at ht
        have hm : t ∈ ([26, 27] : List Nat) := by simpa using Array.mem_of_getElem? ht
        have hall : (([26, 27] : List Nat).all fun u => !Tryz.prog.wantsStandIn u) = true := by kernel_rfl
        exact (show Tryz.prog.wantsStandIn t = false by simpa using List.all_eq_true.1 hall t hm)⟩)
    (by kernel_rfl)

end Go.Proofs.YtafllleofdkdiaaGreatDoor
