/- Texts of the proofs of seat YtoopkllfpmjnfaaGreatDoor, joined: F16A, F16K. They have no conditions of their own. -/
import Derived.Test.YtoopkllfpmjnfaaGreatDoorTa
import Derived.Test.YtoopkllfpmjnfaaGreatDoorTb
set_option linter.unusedVariables false
set_option linter.unusedSimpArgs false

namespace Go.Proofs.YtoopkllfpmjnfaaGreatDoor
open Go Go.Mh
set_option linter.unusedVariables false

theorem gW_sz : (growA gW (mksZ gW.n [2]) 0).sz = [0, 0, 0, 1] := by decide +kernel
theorem gW_b : bndZ gW [2] 0 2 = 9 ∧ bndZ gW [2] 0 1 = 5 ∧ bndZ gW [2] 0 3 = 0 := by decide +kernel
theorem gW_m1 : mksA gW [6] (min (1 : Int) gW.n).toNat = [2] := by decide +kernel
theorem gW_m2 : mksA gW [6, 0] (min (2 : Int) gW.n).toNat = [2, 3] := by decide +kernel

section
variable {h0 h : Heap} {L : List Res} {K : Value → Heap → Prop}

theorem eqT16 {a : Int} {A B : Prop} (h : A) : pBin .eql (I a) (I a) fun t => ifV t A B := by
  rw [pBin_eql, beq_self_eq_true, ifV_true]; exact h

theorem works16_ok (hK : ∀ h', Ext h h' → K (.bool true) h') : callS Tryz.prog F_milestonelaw16_works [] h K := by
  refine callS_of (lk_milestonelaw16_works ?_)
  unfold sh_milestonelaw16_works
  refine (Own.start h).build (enc := encI) (n := 1) [0, 0, 0, 0] rfl (sizesOk_of rfl) rfl fun w4 h1 o1 => ?_
  refine ⟨sizesOk_of rfl, sizesOk_of rfl, sizesOk_of rfl, sizesOk_of rfl, ?_⟩
  refine o1.build (enc := encA) (n := 3) gW.arcs (by kernel_rfl) (sizesOk_of rfl) rfl fun wa h2 o2 => ?_
  refine pBuild_ones (cs' := [I gW.n, w4, w4, wa]) (fun p hp => by
    simp at hp
    rcases hp with rfl | rfl | rfl | rfl
    · rfl
    · exact (o2.vw 1 rfl).one
    · exact (o2.vw 1 rfl).one
    · exact (o2.vw 0 rfl).one) rfl rfl ?_
  refine made16_ok o2 gW_right ⟨w4, w4, wa, rfl, o2.vw 1 rfl, o2.vw 1 rfl, o2.vw 0 rfl⟩ fun r N h3 hN o3 => ?_
  simp only [pEq_ptr_nil, Option.isNone_some, ifV_false]
  have o := o3.sel [0] (by decide)
  clear o3 o2 o1
  refine o.build (enc := encI) (n := 1) [2] rfl (sizesOk_of rfl) rfl fun w2 h4 o => ?_
  refine aSizes_ok (g := gW) (r := 0) (l := [2]) gW_right (hN _ (o.get 1 rfl)) (by decide) (by decide) (o.vw 0 rfl) (by decide) fun ws h5 o5 => ?_
  rw [gW_sz] at o5
  replace o := o.frame o5
  refine aBound_ok (g := gW) (l := [2]) gW_right (hN _ (o.get 2 rfl)) (o.vw 1 rfl) (by decide) fun h6 x6 => ?_
  replace o := o.more x6
  rw [gW_b.1]
  refine eqT16 ?_
  refine aBound_ok (g := gW) (l := [2]) gW_right (hN _ (o.get 2 rfl)) (o.vw 1 rfl) (by decide) fun h7 x7 => ?_
  replace o := o.more x7
  rw [gW_b.2.1]
  refine eqT16 ?_
  refine aBound_ok (g := gW) (l := [2]) gW_right (hN _ (o.get 2 rfl)) (o.vw 1 rfl) (by decide) fun h8 x8 => ?_
  replace o := o.more x8
  rw [gW_b.2.2, pBin_eql, beq_self_eq_true]
  unfold sh_milestonelaw16_works_k1
  clear o5 x6 x7 x8
  refine o.build (enc := encU) (n := 1) [6] rfl (sizesOk_of rfl) rfl fun w1 h9 o => ?_
  refine dnew_ok o (o.vw 0 rfl) (by decide) fun pd w h4 o => ?_
  refine amarksD_ok (k := 1) o 3 rfl gW_right hN (by decide) (by decide) (by decide) (by decide) fun wm vl' h5 o => ?_
  rw [gW_m1] at o
  refine o.build (enc := encN) (n := 1) [2] rfl (sizesOk_of rfl) rfl fun w2 h6 o => ?_
  refine rows16_ok (e := fun (x : Nat) => (x : Int)) (fun _ => rfl) (o.vw 1 rfl) (o.vw 0 rfl) (by decide) ?_
  rw [ifV_true, ifV_true]
  replace o := o.sel [5, 7] (by decide)
  refine (o.vw 0 rfl).len (eqT16 ?_)
  refine (o.vw 0 rfl).atI (i := 0) (by decide) (eqT16 ?_)
  refine (o.vw 0 rfl).atI (i := 1) (by decide) (eqT16 ?_)
  refine (o.vw 0 rfl).atI (i := 2) (by decide) (eqT16 ?_)
  refine (o.vw 0 rfl).atI (i := 3) (by decide) (eqT16 ?_)
  refine o.build (enc := encU) (n := 1) [6, 0] rfl (sizesOk_of rfl) rfl fun w1 h9 o => ?_
  refine dnew_ok o (o.vw 0 rfl) (by decide) fun pd w h4 o => ?_
  refine amarksD_ok (k := 2) o 2 rfl gW_right hN (by decide) (by decide) (by decide) (by decide) fun wm vl' h5 o => ?_
  rw [gW_m2] at o
  refine o.build (enc := encN) (n := 1) [2, 3] rfl (sizesOk_of rfl) rfl fun w2 h6 o => ?_
  exact rows16_ok (e := fun (x : Nat) => (x : Int)) (fun _ => rfl) (o.vw 1 rfl) (o.vw 0 rfl) (by decide) (hK _ o.ext)

end
end Go.Proofs.YtoopkllfpmjnfaaGreatDoor

namespace Go.Proofs.YtoopkllfpmjnfaaGreatDoor
open Go Go.Mh
set_option linter.unusedVariables false

def gK3 : G := ⟨3, [0, 0, 0], [0, 0, 0], []⟩
theorem gK3_right : gK3.Right := ⟨by decide, by decide, rfl, rfl, by decide, by decide, by decide, by decide⟩
def gM3 : G := ⟨3, [0, 0, 0], [0, 0, 0], [⟨0, 1, 2147483647⟩, ⟨1, 2, 2147483647⟩]⟩
theorem gM3_right : gM3.Right := ⟨by decide, by decide, rfl, rfl, by decide, by decide, by decide, by decide +kernel⟩
theorem k3_a : mksA gK3 [5] (min (9 : Int) gK3.n).toNat = [2, 0, 1] := by decide +kernel
theorem k3_b : mksA gK3 [] (min (2 : Int) gK3.n).toNat = [0, 1] := by decide +kernel
theorem m3_a : (growA gM3 (mksZ gM3.n []) 0).sz = [6442450941, 6442450941, 4294967294] := by decide +kernel
theorem m3_b : mksA gM3 [1, 0] (min (2 : Int) gM3.n).toNat = [1, 2] := by decide +kernel
theorem m3_c : bndZ gM3 [0] 0 2 = 4294967294 ∧ bndZ gM3 [-1, 7] 0 2 = 0 ∧ bndZ gM3 [1] 5 0 = 0 ∧ bndZ gM3 [2] 2 1 = 72057594037927936 ∧ bndZ gM3 [0] 2 1 = 0 := by decide +kernel

section
variable {h0 h : Heap} {L : List Res} {K : Value → Heap → Prop}

theorem lenN16 {A B : Prop} (h : A) : pLen (.slice none 0 0) fun t => pBin .eql t (.int .i64 0) fun t => ifV t A B :=
  (Vw.nil (enc := encI) (n := 1) (h := #[])).len (eqT16 h)

theorem amarks_nil {k d : Value} (hK : K (.slice none 0 0) h) : callS Tryz.prog F_avoid_Marks [.pointer none, k, d] h K := by
  refine callS_of (lk_avoid_Marks _ _ _ ?_)
  unfold sh_avoid_Marks
  simp only [pEq_ptr_nil, Option.isNone_none, ifV_true]
  exact hK

theorem there_nil {z : Value} (hK : K (.bool false) h) : callS Tryz.prog F_avoid_there [.pointer none, z] h K := by
  refine callS_of (lk_avoid_there _ _ ?_)
  unfold sh_avoid_there
  rw [pNe_ptr_nil, Option.isSome_none, ifV_false]
  exact hK

theorem aBound_nil {l r v : Value} (hK : K (I 0) h) : callS Tryz.prog F_avoid_Bound [.pointer none, l, r, v] h K := by
  refine callS_of (lk_avoid_Bound _ _ _ _ ?_)
  unfold sh_avoid_Bound sh_avoid_Bound_k1
  refine there_nil ?_
  rw [pUn_not, Bool.not_false, ifV_true]
  exact hK

theorem aSizes_nil {l r : Value} (hK : K (.slice none 0 0) h) : callS Tryz.prog F_avoid_Sizes [.pointer none, l, r] h K := by
  refine callS_of (lk_avoid_Sizes _ _ _ ?_)
  unfold sh_avoid_Sizes
  refine there_nil ?_
  rw [pUn_not, Bool.not_false, ifV_true]
  exact hK

theorem avoidKnown_ok (hK : ∀ h', Ext h h' → K (.bool true) h') : CallsH Tryz.prog F_milestonelaw16_AvoidKnown #[] h K := by
  refine lk_milestonelaw16_AvoidKnown ?_
  unfold sh_milestonelaw16_AvoidKnown
  refine (Own.start h).build (enc := encI) (n := 1) [0, 0, 0] rfl (sizesOk_of rfl) rfl fun w7 h1 o => ?_
  refine pBuild_ones (cs' := [I gK3.n, w7, w7, .slice none 0 0]) (fun p hp => by
    simp at hp
    rcases hp with rfl | rfl | rfl
    · rfl
    · exact (o.vw 0 rfl).one
    · exact (o.vw 0 rfl).one) rfl rfl ?_
  refine made16_ok o gK3_right ⟨w7, w7, .slice none 0 0, rfl, o.vw 0 rfl, o.vw 0 rfl, .nil⟩ fun r N h3 hN o => ?_
  refine ⟨sizesOk_of rfl, sizesOk_of rfl, ?_⟩
  refine o.build (enc := encA) (n := 3) gM3.arcs (by kernel_rfl) (sizesOk_of rfl) rfl fun wa h2 o => ?_
  refine pBuild_ones (cs' := [I gM3.n, w7, w7, wa]) (fun p hp => by
    simp at hp
    rcases hp with rfl | rfl | rfl | rfl
    · rfl
    · exact (o.vw 2 rfl).one
    · exact (o.vw 2 rfl).one
    · exact (o.vw 0 rfl).one) rfl rfl ?_
  refine made16_ok o gM3_right ⟨w7, w7, wa, rfl, o.vw 2 rfl, o.vw 2 rfl, o.vw 0 rfl⟩ fun rm M h4 hM o => ?_
  simp only [pEq_ptr_nil, Option.isNone_some, ifV_false]
  replace o := o.sel [0, 2] (by decide)
  -- marks
  refine o.build (enc := encU) (n := 1) [5] rfl (sizesOk_of rfl) rfl fun w1 h9 o => ?_
  refine dnew_ok o (o.vw 0 rfl) (by decide) fun pd w h4 o => ?_
  refine amarksD_ok (k := 9) o 2 rfl gK3_right hN (by decide) (by decide) (by decide) (by decide) fun wm vl' h5 o => ?_
  rw [k3_a] at o
  refine o.build (enc := encN) (n := 1) [2, 0, 1] rfl (sizesOk_of rfl) rfl fun w2 h6 o => ?_
  refine rows16_ok (e := fun (x : Nat) => (x : Int)) (fun _ => rfl) (o.vw 1 rfl) (o.vw 0 rfl) (by decide) ?_
  rw [ifV_true]
  replace o := o.sel [5, 6] (by decide)
  refine amarksN_ok (k := 2) o 1 rfl gK3_right hN (by decide) (by decide) fun wm h5 o => ?_
  rw [k3_b] at o
  refine o.build (enc := encN) (n := 1) [0, 1] rfl (sizesOk_of rfl) rfl fun w2 h6 o => ?_
  refine rows16_ok (e := fun (x : Nat) => (x : Int)) (fun _ => rfl) (o.vw 1 rfl) (o.vw 0 rfl) (by decide) ?_
  rw [ifV_true]
  replace o := o.sel [2, 3] (by decide)
  refine o.build (enc := encU) (n := 1) [1] rfl (sizesOk_of rfl) rfl fun w1 h9 o => ?_
  refine dnew_ok o (o.vw 0 rfl) (by decide) fun pd w h4 o => ?_
  refine amarksD_ok (k := 0) o 2 rfl gK3_right hN (by decide) (by decide) (by decide) (by decide) fun wm vl' h5 o => ?_
  refine (o.vw 0 rfl).len (eqT16 ?_)
  replace o := o.sel [4, 5] (by decide)
  refine amarksN_ok (k := -3) o 1 rfl gK3_right hN (by decide) (by decide) fun wm h5 o => ?_
  refine (o.vw 0 rfl).len (eqT16 ?_)
  replace o := o.sel [1, 2] (by decide)
  refine o.build (enc := encU) (n := 1) [1] rfl (sizesOk_of rfl) rfl fun w1 h9 o => ?_
  refine dnew_ok o (o.vw 0 rfl) (by decide) fun pd w h4 o => ?_
  refine amarks_nil ((Vw.nil (enc := encI) (n := 1) (h := #[])).len ?_)
  show pBin .eql (I 0) (I 0) _
  rw [pBin_eql, beq_self_eq_true]
  replace o := o.sel [3] (by decide)
  unfold sh_milestonelaw16_AvoidKnown_k2
  refine aSizes_ok (g := gM3) (r := 0) (l := []) gM3_right (hM _ (o.get 0 rfl)) (by decide) (by decide) .nil (by decide) fun ws h5 o5 => ?_
  rw [m3_a] at o5
  replace o := o.frame o5
  clear o5
  refine cutP_of (fun y h' => y.1 = .bool true ∧ Own h h' [M]) (fun J hJ => ?_) ?_
  · refine (o.vw 0 rfl).len (eqT16 ?_)
    refine (o.vw 0 rfl).atI (i := 2) (by decide) (eqT16 ?_)
    refine (o.vw 0 rfl).atI (i := 1) (by decide) (eqT16 ?_)
    refine (o.vw 0 rfl).atI (i := 0) (by decide) ((o.vw 0 rfl).atI (i := 1) (by decide) (eqT16 ?_))
    replace o := o.sel [1] (by decide)
    have rws : ∀ {h' : Heap} {L' : List Res} {i j : Nat} {a b : Value} {K' : Value → Heap → Prop}, Own h h' L' → L'[i]? = some (slR encN 1 T_int a [1, 2]) → L'[j]? = some (slR encN 1 T_int b [1, 2]) → K' (.bool true) h' → callS Tryz.prog F_milestonelaw16_rows [a, b] h' K' := fun o' hi hj hk =>
      rows16_ok (e := fun (x : Nat) => (x : Int)) (fun _ => rfl) (o'.vw _ hi) (o'.vw _ hj) (by decide) hk
    have mrk : ∀ {h' : Heap} {L' : List Res} {i pd : Nat} {vl : Value} {K' : Value → Heap → Prop}, Own h h' (cellR pd [vl] T_draw_Draws :: quR encU 1 T_uint32 vl [1, 0] :: L') → L'[i]? = some M → (∀ w h2, Own h h2 (slR encN 1 T_int w [1, 2] :: L') → K' w h2) → callS Tryz.prog F_avoid_Marks [ptr rm, (.int .i64 2), ptr pd] h' K' := fun o' hi hk => by
      refine amarksD_ok (k := 2) o' _ hi gM3_right hM (by decide) (by decide) (by decide) (by decide) fun wm vl' h5 o => ?_
      rw [m3_b] at o
      exact hk wm h5 (o.front 3 [0] (by decide) (by decide))
    refine ⟨o.build (enc := encU) (n := 1) [1, 0] rfl (sizesOk_of rfl) rfl fun w1 h9 o => ⟨dnew_ok o (o.vw 0 rfl) (by decide) fun pd w h4 o => ⟨?_, ?_⟩, ?_⟩, ?_⟩
    · refine mrk o (i := 1) rfl fun wm h5 o => ?_
      refine o.build (enc := encN) (n := 1) [1, 2] rfl (sizesOk_of rfl) rfl fun w2 h6 o => rws o (i := 1) (j := 0) rfl rfl ?_
      exact hJ _ _ ⟨rfl, o.sel [3] (by decide)⟩
    · refine o.build (enc := encN) (n := 1) [1, 2] rfl (sizesOk_of rfl) rfl fun w2 h6 o => ?_
      refine mrk (o.sel [1, 2, 0, 3, 4] (by decide)) (i := 2) rfl fun wm h5 o => rws o (i := 0) (j := 1) rfl rfl ?_
      exact hJ _ _ ⟨rfl, o.sel [3] (by decide)⟩
    · refine o.build (enc := encN) (n := 1) [1, 2] rfl (sizesOk_of rfl) rfl fun w2 h6 o => ?_
      refine dnew_ok o (o.vw 1 rfl) (by decide) fun pd w h4 o => ?_
      refine mrk o (i := 2) rfl fun wm h5 o => rws o (i := 0) (j := 1) rfl rfl ?_
      exact hJ _ _ ⟨rfl, o.sel [3] (by decide)⟩
    · refine o.build (enc := encN) (n := 1) [1, 2] rfl (sizesOk_of rfl) rfl fun w2 h6 o => ?_
      refine o.build (enc := encU) (n := 1) [1, 0] rfl (sizesOk_of rfl) rfl fun w1 h9 o => ?_
      refine dnew_ok o (o.vw 0 rfl) (by decide) fun pd w h4 o => ?_
      refine mrk o (i := 2) rfl fun wm h5 o => rws o (i := 0) (j := 2) rfl rfl ?_
      exact hJ _ _ ⟨rfl, o.sel [3] (by decide)⟩
  rintro ⟨y, ⟨⟩⟩ h6 ⟨hy, o⟩
  dsimp only at hy ⊢
  subst hy
  unfold sh_milestonelaw16_AvoidKnown_C3
  obtain ⟨c1, c2, c3, c4, c5⟩ := m3_c
  refine works16_ok fun h7 x7 => ?_
  replace o := o.more x7
  rw [ifV_true, ifV_true, ifV_true]
  refine o.build (enc := encI) (n := 1) [0] rfl (sizesOk_of rfl) rfl fun w1 h8 o => ?_
  refine aBound_ok (g := gM3) (l := [0]) gM3_right (hM _ (o.get 1 rfl)) (o.vw 0 rfl) (by decide) fun h9 x9 => ?_
  rw [c1]; refine eqT16 ?_
  replace o := (o.more x9).tail
  refine o.build (enc := encI) (n := 1) [-1, 7] rfl (sizesOk_of rfl) rfl fun w1 h8 o => ?_
  refine aBound_ok (g := gM3) (l := [-1, 7]) gM3_right (hM _ (o.get 1 rfl)) (o.vw 0 rfl) (by decide) fun h9 x9 => ?_
  rw [c2]; refine eqT16 ?_
  replace o := (o.more x9).tail
  refine o.build (enc := encI) (n := 1) [1] rfl (sizesOk_of rfl) rfl fun w1 h8 o => ?_
  refine aBound_ok (g := gM3) (l := [1]) gM3_right (hM _ (o.get 1 rfl)) (o.vw 0 rfl) (by decide) fun h9 x9 => ?_
  rw [c3]; refine eqT16 ?_
  replace o := (o.more x9).tail
  refine aSizes_none (g := gM3) (z := 3) (hM _ (o.get 0 rfl)) (by decide) ?_
  refine lenN16 (aBound_nil (eqT16 (aSizes_nil (lenN16 ?_))))
  refine o.build (enc := encI) (n := 1) [2] rfl (sizesOk_of rfl) rfl fun w1 h8 o => ?_
  refine aBound_ok (g := gM3) (l := [2]) gM3_right (hM _ (o.get 1 rfl)) (o.vw 0 rfl) (by decide) fun h9 x9 => ?_
  rw [c4]; refine eqT16 ?_
  replace o := (o.more x9).tail
  refine o.build (enc := encI) (n := 1) [0] rfl (sizesOk_of rfl) rfl fun w1 h8 o => ?_
  refine aBound_ok (g := gM3) (l := [0]) gM3_right (hM _ (o.get 1 rfl)) (o.vw 0 rfl) (by decide) fun h9 x9 => ?_
  rw [c5, pBin_eql, beq_self_eq_true]
  exact hK _ (o.more x9).ext

end
end Go.Proofs.YtoopkllfpmjnfaaGreatDoor
