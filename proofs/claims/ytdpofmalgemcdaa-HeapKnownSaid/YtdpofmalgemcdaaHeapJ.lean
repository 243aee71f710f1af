/- A text of the proofs of seat Ytdpofmalgemcdaa: 'HeapJ'. It has no condition of its own. -/
import Derived.Test.YtdpofmalgemcdaaHeapI
import Derived.Test.YtdpofmalgemcdaaMhWrap
import Derived.Test.YtdpofmalgemcdaaRows
namespace Go.Proofs.Ytdpofmalgemcdaa
open Go Go.Mh

section
variable {h : Heap} {K : Value → Heap → Prop} {x y : Value}
theorem nil_len (hK : K (I 0) h) : callS Try.prog 13 [.pointer none] h K := by
  refine callS_of (link13 _ ?_)
  unfold sh13
  simpa using hK
theorem nil_least (hK : K (.tuple #[I 0, .bool false]) h) : callS Try.prog 11 [.pointer none] h K := by
  refine callS_of (link11 _ ?_)
  unfold sh11
  refine nil_len ?_
  simpa using hK
theorem nil_key (hK : K (.tuple #[I 0, .bool false]) h) : callS Try.prog 15 [.pointer none, x] h K := by
  refine callS_of (link15 _ _ ?_)
  unfold sh15
  refine nil_len ?_
  simpa using hK
theorem nil_push (hK : K (I 1) h) : callS Try.prog 10 [.pointer none, x, y] h K := by
  refine callS_of (link10 _ _ _ ?_)
  unfold sh10
  simpa using hK
theorem nil_lower (hK : K (I 1) h) : callS Try.prog 16 [.pointer none, x, y] h K := by
  refine callS_of (link16 _ _ _ ?_)
  unfold sh16
  simpa using hK
theorem nil_pops (hK : K (.bool true) h) : callS Try.prog 14 [.pointer none, I 0, I 0, .bool false] h K := by
  refine callS_of (link14 _ _ _ _ ?_)
  unfold sh14
  refine pop_nil ?_
  simpa using hK
end

theorem known_ok {h : Heap} {K : Value → Heap → Prop} (hK : ∀ h', Ext h h' → K (.bool true) h') : CallsH Try.prog 7 [].toArray h K := by
  refine link7 ?_
  unfold sh7
  refine pnew fun h1 F1 a H1 n1 x1 => ?_
  have o : Own h h1 F1 := ⟨x1, n1⟩
  clear x1 n1
  refine ppush0 H1 (by decide) (by decide) (by decide) (by decide) fun h2 F2 H2 g u => ?_
  replace o := o.step u g; clear u g
  simp only [pBin_eql, beq_self_eq_true, ifV_true]
  refine ppush0 H2 (by decide) (by decide) (by decide) (by decide) fun h3 F3 H3 g u => ?_
  replace o := o.step u g; clear u g
  simp only [pBin_eql, beq_self_eq_true, ifV_true]
  refine ppush0 H3 (by decide) (by decide) (by decide) (by decide) fun h4 F4 H4 g u => ?_
  replace o := o.step u g; clear u g
  simp only [pBin_eql, beq_self_eq_true, ifV_true]
  refine plower0 (p := (2, 9223372036854775807)) H4 (by decide) rfl (by decide) fun h5 F5 H5 g u => ?_
  replace o := o.step u g; clear u g
  simp only [pBin_eql, beq_self_eq_true, ifV_true]
  refine plower0 (p := (0, 9223372036854775807)) H5 (by decide) rfl (by decide) fun h6 F6 H6 g u => ?_
  replace o := o.step u g; clear u g
  simp only [pBin_eql, beq_self_eq_true, ifV_true]
  refine plen H6 ?_
  rw [show (((0, 9223372036854775807) :: List.erase ((2, -9223372036854775808) :: List.erase [(2, 9223372036854775807), (3, -9223372036854775808), (0, 9223372036854775807)] (2, 9223372036854775807)) (0, 9223372036854775807) : List HE).length : Int) = 3 by decide]
  simp only [pBin_eql, beq_self_eq_true, ifV_true]
  refine pops1 (p := (2, -9223372036854775808)) H6 (by decide) fun h7 F7 H7 g u => ?_
  replace o := o.step u g; clear u g
  simp only [ifV_true]
  refine pops1 (p := (3, -9223372036854775808)) H7 (by decide) fun h8 F8 H8 g u => ?_
  replace o := o.step u g; clear u g
  simp only [ifV_true]
  refine pops1 (p := (0, 9223372036854775807)) H8 (by decide) fun h9 F9 H9 g u => ?_
  replace o := o.step u g; clear u g
  unfold sh7_k1
  refine ppush0 H9 (by decide) (by decide) (by decide) (by decide) fun h10 F10 H10 g u => ?_
  replace o := o.step u g; clear u g
  simp only [pBin_eql, beq_self_eq_true, ifV_true]
  refine plower2 H10 (by decide) ?_
  simp only [pBin_eql, beq_self_eq_true, ifV_true]
  refine plower2 H10 (by decide) ?_
  simp only [pBin_eql, beq_self_eq_true, ifV_true]
  refine ppush2 H10 (by decide) (by decide) ?_
  simp only [pBin_eql, beq_self_eq_true, ifV_true]
  refine plower20 H10 (by decide) (by decide) (by decide) ?_
  simp only [pBin_eql, beq_self_eq_true]
  unfold sh7_k2
  refine nil_least ?_
  simp only [pExt0, pExt1]
  refine nil_key ?_
  simp only [pExt0, pExt1]
  refine pnew fun h11 G e He n11 x11 => works_ok fun h12 x12 => ?_
  replace He := He.upd x12 fun _ _ h => h
  have oe : Own h h12 G := ⟨(o.ext.trans x11 fun _ h _ => h).trans x12 fun _ h _ => h, fun b hb => Nat.le_trans o.ext.size (n11 b hb)⟩
  simp only [ifV_true]
  simp only [pBin_eql, beq_self_eq_true, ifV_true, pUn_not, Bool.not_false]
  refine nil_push ?_
  simp only [pBin_eql, beq_self_eq_true, ifV_true]
  refine nil_lower ?_
  simp only [pBin_eql, beq_self_eq_true, ifV_true]
  refine nil_len ?_
  simp only [pBin_eql, beq_self_eq_true, ifV_true]
  refine nil_pops ?_
  simp only [ifV_true]
  refine ppush2 He (by decide) (by decide) ?_
  simp only [pBin_eql, beq_self_eq_true, ifV_true]
  refine plen He ?_
  simp only [List.length_nil]
  show pBin .eql (.int .i64 0) (.int .i64 0) _
  simp only [pBin_eql, beq_self_eq_true, ifV_true]
  refine pnew fun h13 G3 f Hf n13 x13 => ppush0 Hf (by decide) (by decide) (by decide) (by decide) fun h14 F14 H14 g14 u14 => ?_
  simp only [pBin_eql, beq_self_eq_true]
  have of : Own h h13 G3 := ⟨oe.ext.trans x13 fun _ h _ => h, fun b hb => Nat.le_trans oe.ext.size (n13 b hb)⟩
  exact hK _ (of.step u14 g14).ext

theorem Try.own : ownKnob Try.prog.godebug = none := by kernel_rfl
theorem Try.kids : Kids Try.prog (· < Try.prog.types.size) := kids_rows (by kernel_rfl) (by kernel_rfl)
theorem Try.full : ∀ t e, t < Try.prog.types.size → Try.prog.underlying t = some (.slice e) → 0 < Try.prog.cellsOf e := slices_full_of Try.prog (by kernel_rfl)

theorem heapKnown_lifted (os : Os) (started : os.Started) (H : Type) (enc : TypeId × Value → H) :
    ReturnsInHanded {} Try.checked os 7 .any (Rows.heapKnownSpec.pre6 enc Try.prog Try.f7 Rows.heapKnownRow.domain false) (Rows.heapKnownSpec.post enc Try.prog Try.f7 false true false false) := by
  refine law_lifted (C := Try.checked) (tb := 4) Try.own started (by kernel_rfl) Try.func7
    (ChangeSpec.witness6 (enc := enc) (C := Try.checked) false ⟨#[], #[], []⟩ 8 (by kernel_rfl) (by kernel_rfl) (by kernel_rfl) (by kernel_rfl))
    rfl (by kernel_rfl) (by kernel_rfl) ?_ Try.kids Try.full (by decide +kernel) ?_
  · intro ds hl
    have : ds = [] := List.eq_nil_of_length_eq_zero (by rw [hl]; decide +kernel)
    subst this; rfl
  · intro W base args ds ps hval hA _
    rw [show Try.f7.params.toList = [] by kernel_rfl] at hA
    obtain ⟨rfl, _, _⟩ := Go.ChangeShapes.trodAll_none hA
    exact known_ok fun h' hx => ⟨rfl, hx⟩

theorem heapKnown_holds : Rows.HeapKnownSaid :=
  OpenClaim.holds_of_wide 7 Try.f7 rfl rfl rfl rfl rfl rfl rfl ⟨rfl, rfl, rfl, rfl, rfl⟩ rfl rfl rfl rfl rfl (by kernel_rfl) Try.func7 (by kernel_rfl)
    (of_decide_eq_true (by kernel_rfl)) (by unfold Func.isWrapper; first | (rw [if_pos (by decide +kernel)]; kernel_rfl) | (rw [if_neg (by decide +kernel)]; exact ⟨rfl, rfl⟩))
    (fun os started H enc _ => heapKnown_lifted os started H enc)

end Go.Proofs.Ytdpofmalgemcdaa
