/- The law 'BuildWrong' of the document's layer holds for every input: the function returns true, and leaves its arguments as they were. The listed package-level variable is never read. -/
import Derived.Test.YtmdldoolnhpaeaaGreatDoorTe
import Derived.Test.YtmdldoolnhpaeaaGreatDoorMd
import Derived.Test.YtmdldoolnhpaeaaGreatDoorRows
import Derived.Test.YtmdldoolnhpaeaaGreatDoorTie
import Derived.Test.YtmdldoolnhpaeaaGreatDoorCards
import Derived.LaidMore
import Derived.LaidHandle
import Derived.LaidLaws
import Derived.SevenTiedAt
import Derived.ChangeVars
import Derived.JoinedOf
set_option linter.unusedVariables false
set_option linter.unusedSimpArgs false
set_option linter.unusedSectionVars false

namespace Go.Proofs.YtmdldoolnhpaeaaGreatDoor
open Go Go.Mh Go.ChangeShapes
set_option maxRecDepth 100000

theorem glob_et : Tryz.prog.globalNamed "errors.errorType" = some 0 := by kernel_rfl
theorem glob_rt : (Tryz.prog.cutTypes.find? (·.1 == "internal/reflectlite.rtype")).map (·.2) = some T_reflectlite_rtype := by kernel_rfl
theorem glob_one : ((List.range 368).filter fun t => Tryz.prog.rowNamed t [101, 114, 114, 111, 114]) = [T_error] := by kernel_rfl
theorem glob_size : Tryz.prog.types.size = 368 := by kernel_rfl
theorem glob_of_laid {W : World} (h : laidMetH Tryz.prog Rows.buildWrongRow.laid W) : Glob W.heap := by
 have h' : laidMet Tryz.prog [] W /\ handlesMet Tryz.prog Rows.buildWrongRow.laid W := h
 obtain ⟨name, u, ty, e1, e2, e3, e4, e5⟩ := h'.2 _ (List.mem_singleton.2 rfl)
 have en : name = [101, 114, 114, 111, 114] := (Option.some.inj e1).symm
 subst en
 obtain rfl := Option.some.inj (glob_rt.symm.trans e2)
 have hm : ty ∈ (List.range 368).filter fun t => Tryz.prog.rowNamed t [101, 114, 114, 111, 114] := List.mem_filter.2 ⟨List.mem_range.2 (by rw [<- glob_size]; exact e3), e4⟩
 rw [glob_one] at hm
 obtain rfl := List.mem_singleton.1 hm
 have hh : typeHandle Tryz.prog T_error = .pointer (some ⟨1, T_error, none⟩) := by kernel_rfl
 rw [hh] at e5
 have := World.var?_cell glob_et e5 0
 exact this

theorem buildWrong_lifted (os : Os) (started : os.Started) (H : Type) (enc : TypeId × Value -> H) :
  ReturnsInHanded {} Tryz.checked os 3 .any (fun w args => (Rows.buildWrongSpec.pre enc Tryz.prog Tryz.f3 [] false w args /\ laidMetH Tryz.prog Rows.buildWrongRow.laid w) /\ sizedMet enc Tryz.prog Tryz.f3 (OpenSpec.ofChange Rows.buildWrongSpec) false w args)
   (Rows.buildWrongSpec.post enc Tryz.prog Tryz.f3 false true false false) := by
 refine law_laidX (C := Tryz.checked) (tb := 4) (X := fun w _ => laidMetH Tryz.prog Rows.buildWrongRow.laid w) (fun _ _ _ hh h => h.of_heap hh) (by kernel_rfl) started (by kernel_rfl) Tryz.func3
  (ChangeSpec.witness_shaped (enc := enc) (C := Tryz.checked) (os := os) (X := fun w _ => laidMetH Tryz.prog Rows.buildWrongRow.laid w) false (World.doorLaid Tryz.prog 16 os) #[.agg #[.slice none 0 0, .int .u8 0, .bool false, .slice none 0 0, .int .u8 0, .int .u8 0], .agg #[.int .i64 0, .int .i64 0, .slice none 0 0, .int .i64 0, .int .i64 0], .agg #[.int .i64 0, .slice none 0 0, .slice none 0 0, .slice none 0 0]] 8 rfl (World.shaped_of_RefB (by kernel_rfl) (by kernel_rfl)) (by kernel_rfl) (by kernel_rfl) (by kernel_rfl)
   (laidMetH_of_parts3 (fuel := 8) (laidMet_of_run' 8 (by kernel_rfl) (by kernel_rfl)) (by kernel_rfl) (by kernel_rfl)))
  rfl (by kernel_rfl) (by kernel_rfl) ?_ (kids_rows (by kernel_rfl) (by kernel_rfl)) (slices_full_of Tryz.prog (by kernel_rfl)) (by decide +kernel) ?_
 ·intro ds hl
  rw [show Tryz.f3.params.toList = [25, 27, 31] by kernel_rfl] at hl
  match ds, hl with
  | [a, b, c], _ => rfl
 ·intro W base args ds ps hval hA hL
  rw [show Tryz.f3.params.toList = [25, 27, 31] by kernel_rfl] at hA
  obtain ⟨v0, v1, v2, d0, d1, d2, p0, p1, p2, rfl, rfl, rfl, h0, h1, h2⟩ := trodAll_three hA
  have hg : Glob W.heap := glob_of_laid hL
  obtain ⟨cs0, rfl, hl0, O0⟩ := agg_of (n := 6) (by kernel_rfl) (by kernel_rfl) (hval 0 25 v0 (by kernel_rfl) rfl) h0
  obtain ⟨c0_0, c0_1, c0_2, c0_3, c0_4, c0_5, rfl⟩ := len6 hl0
  have O0_0 := Opn.field (n := 1) O0 0 (ft := 22) (off := 0) (cs' := [c0_0]) (by kernel_rfl) (by kernel_rfl) rfl
  have O0_1 := Opn.field (n := 1) O0 1 (ft := 5) (off := 1) (cs' := [c0_1]) (by kernel_rfl) (by kernel_rfl) rfl
  have O0_2 := Opn.field (n := 1) O0 2 (ft := 4) (off := 2) (cs' := [c0_2]) (by kernel_rfl) (by kernel_rfl) rfl
  have O0_3 := Opn.field (n := 1) O0 3 (ft := 23) (off := 3) (cs' := [c0_3]) (by kernel_rfl) (by kernel_rfl) rfl
  have O0_4 := Opn.field (n := 1) O0 4 (ft := 5) (off := 4) (cs' := [c0_4]) (by kernel_rfl) (by kernel_rfl) rfl
  have O0_5 := Opn.field (n := 1) O0 5 (ft := 5) (off := 5) (cs' := [c0_5]) (by kernel_rfl) (by kernel_rfl) rfl
  obtain ⟨bl0_0, xs0_0, hv0_0, hr0_0, hl0_0⟩ := Opn.view (enc := encU8) (n := 1) (ok := fun a => 0 <= a /\ a <= 255) (fun _ => rfl) O0_0 (e := 5) (by kernel_rfl) (by kernel_rfl) (by decide) (dec_int (k := .u8) (by kernel_rfl))
  obtain ⟨z0_1, e0_1, r0_1⟩ := Opn.int (k := .u8) O0_1 (by kernel_rfl)
  replace r0_1 : (0 : Int) <= z0_1 /\ z0_1 <= 255 := r0_1
  subst e0_1
  obtain ⟨z0_2, e0_2⟩ := Opn.bool O0_2 (by kernel_rfl)
  subst e0_2
  obtain ⟨bl0_3, xs0_3, hv0_3, hr0_3, hl0_3⟩ := Opn.view (enc := (encK .u32)) (n := 1) (ok := fun a => 0 <= a /\ a <= 4294967295) (fun _ => rfl) O0_3 (e := 51) (by kernel_rfl) (by kernel_rfl) (by decide) (dec_int (k := .u32) (by kernel_rfl))
  obtain ⟨z0_4, e0_4, r0_4⟩ := Opn.int (k := .u8) O0_4 (by kernel_rfl)
  replace r0_4 : (0 : Int) <= z0_4 /\ z0_4 <= 255 := r0_4
  subst e0_4
  obtain ⟨z0_5, e0_5, r0_5⟩ := Opn.int (k := .u8) O0_5 (by kernel_rfl)
  replace r0_5 : (0 : Int) <= z0_5 /\ z0_5 <= 255 := r0_5
  subst e0_5
  obtain ⟨cs1, rfl, hl1, O1⟩ := agg_of (n := 5) (by kernel_rfl) (by kernel_rfl) (hval 1 27 v1 (by kernel_rfl) rfl) h1
  obtain ⟨c1_0, c1_1, c1_2, c1_3, c1_4, rfl⟩ := len5 hl1
  have O1_0 := Opn.field (n := 1) O1 0 (ft := 3) (off := 0) (cs' := [c1_0]) (by kernel_rfl) (by kernel_rfl) rfl
  have O1_1 := Opn.field (n := 1) O1 1 (ft := 3) (off := 1) (cs' := [c1_1]) (by kernel_rfl) (by kernel_rfl) rfl
  have O1_2 := Opn.field (n := 1) O1 2 (ft := 23) (off := 2) (cs' := [c1_2]) (by kernel_rfl) (by kernel_rfl) rfl
  have O1_3 := Opn.field (n := 1) O1 3 (ft := 3) (off := 3) (cs' := [c1_3]) (by kernel_rfl) (by kernel_rfl) rfl
  have O1_4 := Opn.field (n := 1) O1 4 (ft := 3) (off := 4) (cs' := [c1_4]) (by kernel_rfl) (by kernel_rfl) rfl
  obtain ⟨z1_0, e1_0, r1_0⟩ := Opn.int (k := .i64) O1_0 (by kernel_rfl)
  replace r1_0 : (-9223372036854775808 : Int) <= z1_0 /\ z1_0 <= 9223372036854775807 := r1_0
  subst e1_0
  obtain ⟨z1_1, e1_1, r1_1⟩ := Opn.int (k := .i64) O1_1 (by kernel_rfl)
  replace r1_1 : (-9223372036854775808 : Int) <= z1_1 /\ z1_1 <= 9223372036854775807 := r1_1
  subst e1_1
  obtain ⟨bl1_2, xs1_2, hv1_2, hr1_2, hl1_2⟩ := Opn.view (enc := (encK .u32)) (n := 1) (ok := fun a => 0 <= a /\ a <= 4294967295) (fun _ => rfl) O1_2 (e := 51) (by kernel_rfl) (by kernel_rfl) (by decide) (dec_int (k := .u32) (by kernel_rfl))
  obtain ⟨z1_3, e1_3, r1_3⟩ := Opn.int (k := .i64) O1_3 (by kernel_rfl)
  replace r1_3 : (-9223372036854775808 : Int) <= z1_3 /\ z1_3 <= 9223372036854775807 := r1_3
  subst e1_3
  obtain ⟨z1_4, e1_4, r1_4⟩ := Opn.int (k := .i64) O1_4 (by kernel_rfl)
  replace r1_4 : (-9223372036854775808 : Int) <= z1_4 /\ z1_4 <= 9223372036854775807 := r1_4
  subst e1_4
  obtain ⟨cs2, rfl, hl2, O2⟩ := agg_of (n := 4) (by kernel_rfl) (by kernel_rfl) (hval 2 31 v2 (by kernel_rfl) rfl) h2
  obtain ⟨c2_0, c2_1, c2_2, c2_3, rfl⟩ := len4 hl2
  have O2_0 := Opn.field (n := 1) O2 0 (ft := 3) (off := 0) (cs' := [c2_0]) (by kernel_rfl) (by kernel_rfl) rfl
  have O2_1 := Opn.field (n := 1) O2 1 (ft := 28) (off := 1) (cs' := [c2_1]) (by kernel_rfl) (by kernel_rfl) rfl
  have O2_2 := Opn.field (n := 1) O2 2 (ft := 28) (off := 2) (cs' := [c2_2]) (by kernel_rfl) (by kernel_rfl) rfl
  have O2_3 := Opn.field (n := 1) O2 3 (ft := 29) (off := 3) (cs' := [c2_3]) (by kernel_rfl) (by kernel_rfl) rfl
  obtain ⟨z2_0, e2_0, r2_0⟩ := Opn.int (k := .i64) O2_0 (by kernel_rfl)
  replace r2_0 : (-9223372036854775808 : Int) <= z2_0 /\ z2_0 <= 9223372036854775807 := r2_0
  subst e2_0
  obtain ⟨bl2_1, xs2_1, hv2_1, hr2_1, hl2_1⟩ := Opn.view (enc := encJ) (n := 1) (ok := fun a => -9223372036854775808 <= a /\ a <= 9223372036854775807) (fun _ => rfl) O2_1 (e := 2) (by kernel_rfl) (by kernel_rfl) (by decide) (dec_int (k := .i64) (by kernel_rfl))
  obtain ⟨bl2_2, xs2_2, hv2_2, hr2_2, hl2_2⟩ := Opn.view (enc := encJ) (n := 1) (ok := fun a => -9223372036854775808 <= a /\ a <= 9223372036854775807) (fun _ => rfl) O2_2 (e := 2) (by kernel_rfl) (by kernel_rfl) (by decide) (dec_int (k := .i64) (by kernel_rfl))
  obtain ⟨bl2_3, xs2_3, hv2_3, hr2_3, hl2_3⟩ := Opn.view (enc := encA3) (n := 3) (ok := fun _ => True) (fun _ => rfl) O2_3 (e := 107) (by kernel_rfl) (by kernel_rfl) (by decide) (dec_a3 (t0 := 3) (t1 := 3) (t2 := 2) (by kernel_rfl) (by kernel_rfl) (by kernel_rfl) (by kernel_rfl) (by kernel_rfl) (by kernel_rfl) (by kernel_rfl) (by kernel_rfl) (by kernel_rfl) (by kernel_rfl))
  exact buildWrong_ok (g := ⟨z2_0, xs2_1, xs2_2, xs2_3⟩) ⟨_, hv0_0⟩ ⟨_, hv0_3⟩ hr0_3 r0_1 r0_4 r0_5 ⟨_, hv1_2⟩ hr1_2 ⟨⟨_, hv2_1⟩, ⟨_, hv2_2⟩, ⟨_, hv2_3⟩⟩ hl2_1 hg fun h' hx => ⟨rfl, hx⟩

theorem buildWrong_row : Rows.BuildWrongSaid :=
 OpenClaim.holds_of_wide 3 Tryz.f3 rfl rfl rfl rfl rfl rfl rfl ⟨rfl, rfl, rfl, rfl, rfl⟩ rfl rfl rfl rfl rfl (by kernel_rfl) Tryz.func3 (by kernel_rfl)
  (of_decide_eq_true (by kernel_rfl)) (by unfold Func.isWrapper; first | (rw [if_pos (by decide +kernel)]; kernel_rfl) | (rw [if_neg (by decide +kernel)]; exact ⟨rfl, rfl⟩))
  (fun os started H enc _ => buildWrong_lifted os started H enc)

theorem buildWrong_holds : Rows.BuildWrongCardSaid :=
 Claim7.holds_tied_plain_at .later [] [.handle] true (true, "afbb4a97bc2a96402129949f13967e6c4d3396e488a170725c229d314a9ca88e") true buildWrong_row (fun _ h => by cases h) (by kernel_rfl) (fun _ h => by cases h) buildWrong_row_tie rfl ⟨rfl, rfl⟩ (by kernel_rfl) rfl
  (fun f fn hf hfn => by
   obtain rfl : f = 3 := Option.some.inj ((show Tryz.prog.funcNamed "milestone/milestonelaw31.BuildWrong" = some 3 by kernel_rfl).symm.trans hf) |>.symm
   obtain rfl : fn = Tryz.f3 := (Option.some.inj (Tryz.func3.symm.trans hfn)).symm
   exact ⟨by kernel_rfl, fun j t ht => by
    rw [show Tryz.f3.params = #[25, 27, 31] by kernel_rfl] at ht
    have hm : t ∈ ([25, 27, 31] : List Nat) := by simpa using Array.mem_of_getElem? ht
    have hall : (([25, 27, 31] : List Nat).all fun u => !Tryz.prog.wantsStandIn u) = true := by kernel_rfl
    exact (show Tryz.prog.wantsStandIn t = false by simpa using List.all_eq_true.1 hall t hm)⟩)
  (by kernel_rfl)

end Go.Proofs.YtmdldoolnhpaeaaGreatDoor
