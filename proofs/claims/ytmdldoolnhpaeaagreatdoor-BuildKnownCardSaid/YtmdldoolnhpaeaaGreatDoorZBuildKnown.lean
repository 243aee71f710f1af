/- The law 'BuildKnown' of the document's layer holds for every input: the function returns true, and leaves its arguments as they were. The listed package-level variable is never read. -/
import Derived.Test.YtmdldoolnhpaeaaGreatDoorTd
import Derived.Test.YtmdldoolnhpaeaaGreatDoorMd
import Derived.Test.YtmdldoolnhpaeaaGreatDoorRows
import Derived.Test.YtmdldoolnhpaeaaGreatDoorTie
import Derived.Test.YtmdldoolnhpaeaaGreatDoorCards
import Derived.LaidMore
import Derived.LaidHandle
import Derived.LaidLaws
import Derived.SevenTiedAt
import Derived.ChangeVars
import Derived.JoinedOf
set_option linter.unusedVariables false
set_option linter.unusedSimpArgs false
set_option linter.unusedSectionVars false

namespace Go.Proofs.YtmdldoolnhpaeaaGreatDoor
open Go Go.Mh Go.ChangeShapes
set_option maxRecDepth 100000

theorem glob_et : Tryz.prog.globalNamed "errors.errorType" = some 0 := by kernel_rfl
theorem glob_rt : (Tryz.prog.cutTypes.find? (·.1 == "internal/reflectlite.rtype")).map (·.2) = some T_reflectlite_rtype := by kernel_rfl
theorem glob_one : ((List.range 368).filter fun t => Tryz.prog.rowNamed t [101, 114, 114, 111, 114]) = [T_error] := by kernel_rfl
theorem glob_size : Tryz.prog.types.size = 368 := by kernel_rfl
theorem glob_of_laid {W : World} (h : laidMetH Tryz.prog Rows.buildKnownRow.laid W) : Glob W.heap := by
 have h' : laidMet Tryz.prog [] W /\ handlesMet Tryz.prog Rows.buildKnownRow.laid W := h
 obtain ⟨name, u, ty, e1, e2, e3, e4, e5⟩ := h'.2 _ (List.mem_singleton.2 rfl)
 have en : name = [101, 114, 114, 111, 114] := (Option.some.inj e1).symm
 subst en
 obtain rfl := Option.some.inj (glob_rt.symm.trans e2)
 have hm : ty ∈ (List.range 368).filter fun t => Tryz.prog.rowNamed t [101, 114, 114, 111, 114] := List.mem_filter.2 ⟨List.mem_range.2 (by rw [<- glob_size]; exact e3), e4⟩
 rw [glob_one] at hm
 obtain rfl := List.mem_singleton.1 hm
 have hh : typeHandle Tryz.prog T_error = .pointer (some ⟨1, T_error, none⟩) := by kernel_rfl
 rw [hh] at e5
 have := World.var?_cell glob_et e5 0
 exact this

theorem buildKnown_lifted (os : Os) (started : os.Started) (H : Type) (enc : TypeId × Value -> H) :
  ReturnsInHanded {} Tryz.checked os 4 .any (fun w args => (Rows.buildKnownSpec.pre enc Tryz.prog Tryz.f4 [] false w args /\ laidMetH Tryz.prog Rows.buildKnownRow.laid w) /\ sizedMet enc Tryz.prog Tryz.f4 (OpenSpec.ofChange Rows.buildKnownSpec) false w args)
   (Rows.buildKnownSpec.post enc Tryz.prog Tryz.f4 false true false false) := by
 refine law_laidX (C := Tryz.checked) (tb := 4) (X := fun w _ => laidMetH Tryz.prog Rows.buildKnownRow.laid w) (fun _ _ _ hh h => h.of_heap hh) (by kernel_rfl) started (by kernel_rfl) Tryz.func4
  (ChangeSpec.witness_shaped (enc := enc) (C := Tryz.checked) (os := os) (X := fun w _ => laidMetH Tryz.prog Rows.buildKnownRow.laid w) false (World.doorLaid Tryz.prog 16 os) #[] 8 rfl (World.shaped_of_RefB (by kernel_rfl) (by kernel_rfl)) (by kernel_rfl) (by kernel_rfl) (by kernel_rfl)
   (laidMetH_of_parts3 (fuel := 8) (laidMet_of_run' 8 (by kernel_rfl) (by kernel_rfl)) (by kernel_rfl) (by kernel_rfl)))
  rfl (by kernel_rfl) (by kernel_rfl) ?_ (kids_rows (by kernel_rfl) (by kernel_rfl)) (slices_full_of Tryz.prog (by kernel_rfl)) (by decide +kernel) ?_
 ·intro ds hl
  have : ds = [] := List.eq_nil_of_length_eq_zero (by rw [hl]; decide +kernel)
  subst this; rfl
 ·intro W base args ds ps hval hA hL
  rw [show Tryz.f4.params.toList = [] by kernel_rfl] at hA
  obtain ⟨rfl, _, _⟩ := trodAll_none hA
  have hg : Glob W.heap := glob_of_laid hL
  exact buildKnown_ok hg fun h' hx => ⟨rfl, hx⟩

theorem buildKnown_row : Rows.BuildKnownSaid :=
 OpenClaim.holds_of_wide 4 Tryz.f4 rfl rfl rfl rfl rfl rfl rfl ⟨rfl, rfl, rfl, rfl, rfl⟩ rfl rfl rfl rfl rfl (by kernel_rfl) Tryz.func4 (by kernel_rfl)
  (of_decide_eq_true (by kernel_rfl)) (by unfold Func.isWrapper; first | (rw [if_pos (by decide +kernel)]; kernel_rfl) | (rw [if_neg (by decide +kernel)]; exact ⟨rfl, rfl⟩))
  (fun os started H enc _ => buildKnown_lifted os started H enc)

theorem buildKnown_holds : Rows.BuildKnownCardSaid :=
 Claim7.holds_tied_plain_at .later [] [.handle] true (true, "afbb4a97bc2a96402129949f13967e6c4d3396e488a170725c229d314a9ca88e") true buildKnown_row (fun _ h => by cases h) (by kernel_rfl) (fun _ h => by cases h) buildKnown_row_tie rfl ⟨rfl, rfl⟩ (by kernel_rfl) rfl
  (fun f fn hf hfn => by
   obtain rfl : f = 4 := Option.some.inj ((show Tryz.prog.funcNamed "milestone/milestonelaw31.BuildKnown" = some 4 by kernel_rfl).symm.trans hf) |>.symm
   obtain rfl : fn = Tryz.f4 := (Option.some.inj (Tryz.func4.symm.trans hfn)).symm
   exact ⟨by kernel_rfl, fun j t ht => by
    rw [show Tryz.f4.params = #[] by kernel_rfl] at ht
    have hm : t ∈ ([] : List Nat) := by simpa using Array.mem_of_getElem? ht
    have hall : (([] : List Nat).all fun u => !Tryz.prog.wantsStandIn u) = true := by kernel_rfl
    exact (show Tryz.prog.wantsStandIn t = false by simpa using List.all_eq_true.1 hall t hm)⟩)
  (by kernel_rfl)

end Go.Proofs.YtmdldoolnhpaeaaGreatDoor
