/- The law 'TraceTells' of the document's layer holds for every input: the function returns true, and leaves its arguments as they were. The listed package-level variable is never read. -/
import Derived.Test.YtgefabaobhendaaDoorTb
import Derived.Test.YtgefabaobhendaaDoorMc
import Derived.Test.YtgefabaobhendaaDoorMd
import Derived.Test.YtgefabaobhendaaDoorRows
import Derived.Test.YtgefabaobhendaaDoorTie
import Derived.Test.YtgefabaobhendaaDoorCards
import Derived.LaidMore
import Derived.LaidHandle
import Derived.LaidLaws
import Derived.SevenTiedAt
set_option linter.unusedVariables false
set_option linter.unusedSimpArgs false

namespace Go.Proofs.YtgefabaobhendaaDoor
open Go Go.Mh Go.ChangeShapes
set_option linter.unusedVariables false
set_option maxRecDepth 100000

theorem traceTells_lifted (os : Os) (started : os.Started) (H : Type) (enc : TypeId × Value → H) :
    ReturnsInHanded {} Tryd.checked os 3 .any (fun w args => (Rows.traceTellsSpec.pre enc Tryd.prog Tryd.f3 [] false w args ∧ laidMetH Tryd.prog Rows.traceTellsRow.laid w) ∧ sizedMet enc Tryd.prog Tryd.f3 (OpenSpec.ofChange Rows.traceTellsSpec) false w args)
      (Rows.traceTellsSpec.post enc Tryd.prog Tryd.f3 false true false false) := by
  refine law_laid (C := Tryd.checked) (tb := 4) (X := fun w _ => laidMetH Tryd.prog Rows.traceTellsRow.laid w) (fun _ _ _ hh h => h.of_heap hh) (by kernel_rfl) started (by kernel_rfl) Tryd.func3
    (ChangeSpec.witness_shaped (enc := enc) (C := Tryd.checked) (os := os) (X := fun w _ => laidMetH Tryd.prog Rows.traceTellsRow.laid w) false (World.doorLaid Tryd.prog 16 os) #[.slice none 0 0, .slice none 0 0, .slice none 0 0] 8 rfl (World.shaped_of_RefB (by kernel_rfl) (by kernel_rfl)) (by kernel_rfl) (by kernel_rfl) (by kernel_rfl)
      (laidMetH_of_parts3 (fuel := 8) (laidMet_of_run' 8 (by kernel_rfl) (by kernel_rfl)) (by kernel_rfl) (by kernel_rfl)))
    rfl (by kernel_rfl) (by kernel_rfl) ?_ (kids_rows (by kernel_rfl) (by kernel_rfl)) (slices_full_of Tryd.prog (by kernel_rfl)) (by decide +kernel) ?_
  · intro ds hl
    rw [show Tryd.f3.params.toList = [22, 23, 24] by kernel_rfl] at hl
    match ds, hl with
    | [a, b, c], _ => rfl
  · intro W base args ds ps hval hA
    rw [show Tryd.f3.params.toList = [22, 23, 24] by kernel_rfl] at hA
    obtain ⟨v0, v1, v2, d0, d1, d2, p0, p1, p2, rfl, rfl, rfl, h0, h1, h2⟩ := trodAll_three hA
    obtain ⟨bl0, xs0, hv0, hr0, hl0⟩ := view_of (enc := encU8) (n := 1) (ok := fun a => 0 ≤ a ∧ a ≤ 255) (fun _ => rfl) (e := 5) (by kernel_rfl) (by kernel_rfl) (by decide) (dec_int (k := .u8) (by kernel_rfl)) (hval 0 22 v0 (by kernel_rfl) rfl) h0
    obtain ⟨bl1, xs1, hv1, hr1, hl1⟩ := view_of (enc := encE) (n := 4) (ok := fun _ => True) (fun _ => rfl) (e := 47) (by kernel_rfl) (by kernel_rfl) (by decide) (dec_ev (t0 := 3) (t1 := 3) (t2 := 3) (t3 := 2) (by kernel_rfl) (by kernel_rfl) (by kernel_rfl) (by kernel_rfl) (by kernel_rfl) (by kernel_rfl) (by kernel_rfl) (by kernel_rfl) (by kernel_rfl) (by kernel_rfl) (by kernel_rfl) (by kernel_rfl) (by kernel_rfl)) (hval 1 23 v1 (by kernel_rfl) rfl) h1
    obtain ⟨bl2, xs2, hv2, hr2, hl2⟩ := view_of (enc := encI) (n := 1) (ok := fun a => -9223372036854775808 ≤ a ∧ a ≤ 9223372036854775807) (fun _ => rfl) (e := 2) (by kernel_rfl) (by kernel_rfl) (by decide) (dec_int (k := .i64) (by kernel_rfl)) (hval 2 24 v2 (by kernel_rfl) rfl) h2
    exact traceTells_ok ⟨_, hv0⟩ ⟨_, hv1⟩ ⟨_, hv2⟩ fun h' hx => ⟨rfl, hx⟩

theorem traceTells_row : Rows.TraceTellsSaid :=
  OpenClaim.holds_of_wide 3 Tryd.f3 rfl rfl rfl rfl rfl rfl rfl ⟨rfl, rfl, rfl, rfl, rfl⟩ rfl rfl rfl rfl rfl (by kernel_rfl) Tryd.func3 (by kernel_rfl)
    (of_decide_eq_true (by kernel_rfl)) (by unfold Func.isWrapper; first | (rw [if_pos (by decide +kernel)]; kernel_rfl) | (rw [if_neg (by decide +kernel)]; exact ⟨rfl, rfl⟩))
    (fun os started H enc _ => traceTells_lifted os started H enc)

theorem traceTells_holds : Rows.TraceTellsCardSaid :=
  Claim7.holds_tied_plain_at .later [] [.handle] true (true, "dfc6040a2e4ccaf1b1cbb0d2f4b25a3daa01038e0aa32d86e17d3f66802b8634") true traceTells_row (fun _ h => by cases h) (by kernel_rfl) (fun _ h => by cases h) traceTells_row_tie rfl ⟨rfl, rfl⟩ (by kernel_rfl) rfl
    (fun f fn hf hfn => by
      obtain rfl : f = 3 := Option.some.inj ((show Tryd.prog.funcNamed "milestone/milestonelaw12.TraceTells" = some 3 by kernel_rfl).symm.trans hf) |>.symm
      obtain rfl : fn = Tryd.f3 := (Option.some.inj (Tryd.func3.symm.trans hfn)).symm
      exact ⟨by kernel_rfl, fun j t ht => by
        rw [show Tryd.f3.params = #[22, 23, 24] by kernel_rfl] at ht
        have hm : t ∈ ([22, 23, 24] : List Nat) := by simpa using Array.mem_of_getElem? ht
        have hall : (([22, 23, 24] : List Nat).all fun u => !Tryd.prog.wantsStandIn u) = true := by kernel_rfl
        exact (show Tryd.prog.wantsStandIn t = false by simpa using List.all_eq_true.1 hall t hm)⟩)
    (by kernel_rfl)

end Go.Proofs.YtgefabaobhendaaDoor
