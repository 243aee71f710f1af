/- The law 'PathTells' of the document's layer holds for every input: the function returns true, and leaves its arguments as they were. The listed package-level variable is never read. -/
import Derived.Test.YtjamcgoebnafkaaGreatDoorTc
import Derived.Test.YtjamcgoebnafkaaGreatDoorMd
import Derived.Test.YtjamcgoebnafkaaGreatDoorRows
import Derived.Test.YtjamcgoebnafkaaGreatDoorTie
import Derived.Test.YtjamcgoebnafkaaGreatDoorCards
import Derived.LaidMore
import Derived.LaidHandle
import Derived.LaidLaws
import Derived.SevenTiedAt
set_option linter.unusedVariables false
set_option linter.unusedSimpArgs false

namespace Go.Proofs.YtjamcgoebnafkaaGreatDoor
open Go Go.Mh Go.ChangeShapes
set_option linter.unusedVariables false
set_option maxRecDepth 100000

theorem pathTells_lifted (os : Os) (started : os.Started) (H : Type) (enc : TypeId × Value → H) :
    ReturnsInHanded {} Tryz.checked os 3 .any (fun w args => (Rows.pathTellsSpec.pre enc Tryz.prog Tryz.f3 [] false w args ∧ laidMetH Tryz.prog Rows.pathTellsRow.laid w) ∧ sizedMet enc Tryz.prog Tryz.f3 (OpenSpec.ofChange Rows.pathTellsSpec) false w args)
      (Rows.pathTellsSpec.post enc Tryz.prog Tryz.f3 false true false false) := by
  refine law_laid (C := Tryz.checked) (tb := 4) (X := fun w _ => laidMetH Tryz.prog Rows.pathTellsRow.laid w) (fun _ _ _ hh h => h.of_heap hh) (by kernel_rfl) started (by kernel_rfl) Tryz.func3
    (ChangeSpec.witness_shaped (enc := enc) (C := Tryz.checked) (os := os) (X := fun w _ => laidMetH Tryz.prog Rows.pathTellsRow.laid w) false (World.doorLaid Tryz.prog 16 os) #[.agg #[.slice none 0 0, .int .u8 0, .int .u8 0], .agg #[.int .i16 0, .int .i16 0, .int .i16 0, .int .i16 0], .agg #[.int .i16 0, .int .i16 0, .int .i16 0, .int .i16 0]] 8 rfl (World.shaped_of_RefB (by kernel_rfl) (by kernel_rfl)) (by kernel_rfl) (by kernel_rfl) (by kernel_rfl)
      (laidMetH_of_parts3 (fuel := 8) (laidMet_of_run' 8 (by kernel_rfl) (by kernel_rfl)) (by kernel_rfl) (by kernel_rfl)))
    rfl (by kernel_rfl) (by kernel_rfl) ?_ (kids_rows (by kernel_rfl) (by kernel_rfl)) (slices_full_of Tryz.prog (by kernel_rfl)) (by decide +kernel) ?_
  · intro ds hl
    rw [show Tryz.f3.params.toList = [25, 27, 27] by kernel_rfl] at hl
    match ds, hl with
    | [a, b, c], _ => rfl
  · intro W base args ds ps hval hA
    rw [show Tryz.f3.params.toList = [25, 27, 27] by kernel_rfl] at hA
    obtain ⟨v0, v1, v2, d0, d1, d2, p0, p1, p2, rfl, rfl, rfl, h0, h1, h2⟩ := trodAll_three hA
    obtain ⟨cs0, rfl, hl0, O0⟩ := agg_of (n := 3) (by kernel_rfl) (by kernel_rfl) (hval 0 25 v0 (by kernel_rfl) rfl) h0
    obtain ⟨c0_0, c0_1, c0_2, rfl⟩ := len3 hl0
    have O0_0 := Opn.field (n := 1) O0 0 (ft := 22) (off := 0) (cs' := [c0_0]) (by kernel_rfl) (by kernel_rfl) rfl
    have O0_1 := Opn.field (n := 2) O0 1 (ft := 23) (off := 1) (cs' := [c0_1, c0_2]) (by kernel_rfl) (by kernel_rfl) rfl
    obtain ⟨bl0_0, xs0_0, hv0_0, hr0_0, hl0_0⟩ := Opn.view (enc := encU8) (n := 1) (ok := fun a => 0 ≤ a ∧ a ≤ 255) (fun _ => rfl) O0_0 (e := 5) (by kernel_rfl) (by kernel_rfl) (by decide) (dec_int (k := .u8) (by kernel_rfl))
    have O0_1_0 := Opn.elem (m := 2) (e := 5) (n := 1) O0_1 0 (cs' := [c0_1]) (by kernel_rfl) (by decide) (by kernel_rfl) rfl
    have O0_1_1 := Opn.elem (m := 2) (e := 5) (n := 1) O0_1 1 (cs' := [c0_2]) (by kernel_rfl) (by decide) (by kernel_rfl) rfl
    obtain ⟨z0_1_0, e0_1_0, r0_1_0⟩ := Opn.int (k := .u8) O0_1_0 (by kernel_rfl)
    replace r0_1_0 : (0 : Int) ≤ z0_1_0 ∧ z0_1_0 ≤ 255 := r0_1_0
    subst e0_1_0
    obtain ⟨z0_1_1, e0_1_1, r0_1_1⟩ := Opn.int (k := .u8) O0_1_1 (by kernel_rfl)
    replace r0_1_1 : (0 : Int) ≤ z0_1_1 ∧ z0_1_1 ≤ 255 := r0_1_1
    subst e0_1_1
    obtain ⟨cs1, rfl, hl1, O1⟩ := agg_of (n := 4) (by kernel_rfl) (by kernel_rfl) (hval 1 27 v1 (by kernel_rfl) rfl) h1
    obtain ⟨c1_0, c1_1, c1_2, c1_3, rfl⟩ := len4 hl1
    have O1_0 := Opn.elem (m := 4) (e := 26) (n := 1) O1 0 (cs' := [c1_0]) (by kernel_rfl) (by decide) (by kernel_rfl) rfl
    have O1_1 := Opn.elem (m := 4) (e := 26) (n := 1) O1 1 (cs' := [c1_1]) (by kernel_rfl) (by decide) (by kernel_rfl) rfl
    have O1_2 := Opn.elem (m := 4) (e := 26) (n := 1) O1 2 (cs' := [c1_2]) (by kernel_rfl) (by decide) (by kernel_rfl) rfl
    have O1_3 := Opn.elem (m := 4) (e := 26) (n := 1) O1 3 (cs' := [c1_3]) (by kernel_rfl) (by decide) (by kernel_rfl) rfl
    obtain ⟨z1_0, e1_0, r1_0⟩ := Opn.int (k := .i16) O1_0 (by kernel_rfl)
    replace r1_0 : (-32768 : Int) ≤ z1_0 ∧ z1_0 ≤ 32767 := r1_0
    subst e1_0
    obtain ⟨z1_1, e1_1, r1_1⟩ := Opn.int (k := .i16) O1_1 (by kernel_rfl)
    replace r1_1 : (-32768 : Int) ≤ z1_1 ∧ z1_1 ≤ 32767 := r1_1
    subst e1_1
    obtain ⟨z1_2, e1_2, r1_2⟩ := Opn.int (k := .i16) O1_2 (by kernel_rfl)
    replace r1_2 : (-32768 : Int) ≤ z1_2 ∧ z1_2 ≤ 32767 := r1_2
    subst e1_2
    obtain ⟨z1_3, e1_3, r1_3⟩ := Opn.int (k := .i16) O1_3 (by kernel_rfl)
    replace r1_3 : (-32768 : Int) ≤ z1_3 ∧ z1_3 ≤ 32767 := r1_3
    subst e1_3
    obtain ⟨cs2, rfl, hl2, O2⟩ := agg_of (n := 4) (by kernel_rfl) (by kernel_rfl) (hval 2 27 v2 (by kernel_rfl) rfl) h2
    obtain ⟨c2_0, c2_1, c2_2, c2_3, rfl⟩ := len4 hl2
    have O2_0 := Opn.elem (m := 4) (e := 26) (n := 1) O2 0 (cs' := [c2_0]) (by kernel_rfl) (by decide) (by kernel_rfl) rfl
    have O2_1 := Opn.elem (m := 4) (e := 26) (n := 1) O2 1 (cs' := [c2_1]) (by kernel_rfl) (by decide) (by kernel_rfl) rfl
    have O2_2 := Opn.elem (m := 4) (e := 26) (n := 1) O2 2 (cs' := [c2_2]) (by kernel_rfl) (by decide) (by kernel_rfl) rfl
    have O2_3 := Opn.elem (m := 4) (e := 26) (n := 1) O2 3 (cs' := [c2_3]) (by kernel_rfl) (by decide) (by kernel_rfl) rfl
    obtain ⟨z2_0, e2_0, r2_0⟩ := Opn.int (k := .i16) O2_0 (by kernel_rfl)
    replace r2_0 : (-32768 : Int) ≤ z2_0 ∧ z2_0 ≤ 32767 := r2_0
    subst e2_0
    obtain ⟨z2_1, e2_1, r2_1⟩ := Opn.int (k := .i16) O2_1 (by kernel_rfl)
    replace r2_1 : (-32768 : Int) ≤ z2_1 ∧ z2_1 ≤ 32767 := r2_1
    subst e2_1
    obtain ⟨z2_2, e2_2, r2_2⟩ := Opn.int (k := .i16) O2_2 (by kernel_rfl)
    replace r2_2 : (-32768 : Int) ≤ z2_2 ∧ z2_2 ≤ 32767 := r2_2
    subst e2_2
    obtain ⟨z2_3, e2_3, r2_3⟩ := Opn.int (k := .i16) O2_3 (by kernel_rfl)
    replace r2_3 : (-32768 : Int) ≤ z2_3 ∧ z2_3 ≤ 32767 := r2_3
    subst e2_3
    exact pathTells_ok ⟨_, hv0_0⟩ r0_1_0 r0_1_1 r1_0 r1_1 r1_2 r1_3 r2_0 r2_1 r2_2 r2_3 fun h' hx => ⟨rfl, hx⟩

theorem pathTells_row : Rows.PathTellsSaid :=
  OpenClaim.holds_of_wide 3 Tryz.f3 rfl rfl rfl rfl rfl rfl rfl ⟨rfl, rfl, rfl, rfl, rfl⟩ rfl rfl rfl rfl rfl (by kernel_rfl) Tryz.func3 (by kernel_rfl)
    (of_decide_eq_true (by kernel_rfl)) (by unfold Func.isWrapper; first | (rw [if_pos (by decide +kernel)]; kernel_rfl) | (rw [if_neg (by decide +kernel)]; exact ⟨rfl, rfl⟩))
    (fun os started H enc _ => pathTells_lifted os started H enc)

theorem pathTells_holds : Rows.PathTellsCardSaid :=
  Claim7.holds_tied_plain_at .later [] [.handle] true (true, "52bc228fd74df1e66a08d22f4956209ab1176173da1a016b3648671d23c0467f") true pathTells_row (fun _ h => by cases h) (by kernel_rfl) (fun _ h => by cases h) pathTells_row_tie rfl ⟨rfl, rfl⟩ (by kernel_rfl) rfl
    (fun f fn hf hfn => by
      obtain rfl : f = 3 := Option.some.inj ((show Tryz.prog.funcNamed "milestone/milestonelaw11.PathTells" = some 3 by kernel_rfl).symm.trans hf) |>.symm
      obtain rfl : fn = Tryz.f3 := (Option.some.inj (Tryz.func3.symm.trans hfn)).symm
      exact ⟨by kernel_rfl, fun j t ht => by
        rw [show Tryz.f3.params = #[25, 27, 27] by kernel_rfl] at ht
        have hm : t ∈ ([25, 27, 27] : List Nat) := by simpa using Array.mem_of_getElem? ht
        have hall : (([25, 27, 27] : List Nat).all fun u => !Tryz.prog.wantsStandIn u) = true := by kernel_rfl
        exact (show Tryz.prog.wantsStandIn t = false by simpa using List.all_eq_true.1 hall t hm)⟩)
    (by kernel_rfl)

end Go.Proofs.YtjamcgoebnafkaaGreatDoor
