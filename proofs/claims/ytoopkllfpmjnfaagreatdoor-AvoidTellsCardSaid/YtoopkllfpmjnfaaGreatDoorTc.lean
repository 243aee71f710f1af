/- Texts of the proofs of seat YtoopkllfpmjnfaaGreatDoor, joined: F16A, F16B, R16A, HpQ, HpR, R8A, R7C, R7A, R7B, R10A, R10B, R16B, F16C, R5A, R16C, R16D. They have no conditions of their own. -/
import Derived.Test.YtoopkllfpmjnfaaGreatDoorTa
import Derived.Test.YtoopkllfpmjnfaaGreatDoorTb
import Derived.Test.YtoopkllfpmjnfaaGreatDoorMc
import Derived.Test.YtoopkllfpmjnfaaGreatDoorMe
set_option linter.unusedVariables false
set_option linter.unusedSimpArgs false

namespace Go.Proofs.YtoopkllfpmjnfaaGreatDoor
open Go Go.Mh
set_option linter.unusedVariables false

theorem gW_sz : (growA gW (mksZ gW.n [2]) 0).sz = [0, 0, 0, 1] := by decide +kernel
theorem gW_b : bndZ gW [2] 0 2 = 9 ∧ bndZ gW [2] 0 1 = 5 ∧ bndZ gW [2] 0 3 = 0 := by decide +kernel
theorem gW_m1 : mksA gW [6] (min (1 : Int) gW.n).toNat = [2] := by decide +kernel
theorem gW_m2 : mksA gW [6, 0] (min (2 : Int) gW.n).toNat = [2, 3] := by decide +kernel

section
variable {h0 h : Heap} {L : List Res} {K : Value → Heap → Prop}

theorem eqT16 {a : Int} {A B : Prop} (h : A) : pBin .eql (I a) (I a) fun t => ifV t A B := by
  rw [pBin_eql, beq_self_eq_true, ifV_true]; exact h

theorem works16_ok (hK : ∀ h', Ext h h' → K (.bool true) h') : callS Tryz.prog F_milestonelaw16_works [] h K := by
  refine callS_of (lk_milestonelaw16_works ?_)
  unfold sh_milestonelaw16_works
  refine (Own.start h).build (enc := encI) (n := 1) [0, 0, 0, 0] rfl (sizesOk_of rfl) rfl fun w4 h1 o1 => ?_
  refine ⟨sizesOk_of rfl, sizesOk_of rfl, sizesOk_of rfl, sizesOk_of rfl, ?_⟩
  refine o1.build (enc := encA) (n := 3) gW.arcs (by kernel_rfl) (sizesOk_of rfl) rfl fun wa h2 o2 => ?_
  refine pBuild_ones (cs' := [I gW.n, w4, w4, wa]) (fun p hp => by
    simp at hp
    rcases hp with rfl | rfl | rfl | rfl
    · rfl
    · exact (o2.vw 1 rfl).one
    · exact (o2.vw 1 rfl).one
    · exact (o2.vw 0 rfl).one) rfl rfl ?_
  refine made16_ok o2 gW_right ⟨w4, w4, wa, rfl, o2.vw 1 rfl, o2.vw 1 rfl, o2.vw 0 rfl⟩ fun r N h3 hN o3 => ?_
  simp only [pEq_ptr_nil, Option.isNone_some, ifV_false]
  have o := o3.sel [0] (by decide)
  clear o3 o2 o1
  refine o.build (enc := encI) (n := 1) [2] rfl (sizesOk_of rfl) rfl fun w2 h4 o => ?_
  refine aSizes_ok (g := gW) (r := 0) (l := [2]) gW_right (hN _ (o.get 1 rfl)) (by decide) (by decide) (o.vw 0 rfl) (by decide) fun ws h5 o5 => ?_
  rw [gW_sz] at o5
  replace o := o.frame o5
  refine aBound_ok (g := gW) (l := [2]) gW_right (hN _ (o.get 2 rfl)) (o.vw 1 rfl) (by decide) fun h6 x6 => ?_
  replace o := o.more x6
  rw [gW_b.1]
  refine eqT16 ?_
  refine aBound_ok (g := gW) (l := [2]) gW_right (hN _ (o.get 2 rfl)) (o.vw 1 rfl) (by decide) fun h7 x7 => ?_
  replace o := o.more x7
  rw [gW_b.2.1]
  refine eqT16 ?_
  refine aBound_ok (g := gW) (l := [2]) gW_right (hN _ (o.get 2 rfl)) (o.vw 1 rfl) (by decide) fun h8 x8 => ?_
  replace o := o.more x8
  rw [gW_b.2.2, pBin_eql, beq_self_eq_true]
  unfold sh_milestonelaw16_works_k1
  clear o5 x6 x7 x8
  refine o.build (enc := encU) (n := 1) [6] rfl (sizesOk_of rfl) rfl fun w1 h9 o => ?_
  refine dnew_ok o (o.vw 0 rfl) (by decide) fun pd w h4 o => ?_
  refine amarksD_ok (k := 1) o 3 rfl gW_right hN (by decide) (by decide) (by decide) (by decide) fun wm vl' h5 o => ?_
  rw [gW_m1] at o
  refine o.build (enc := encN) (n := 1) [2] rfl (sizesOk_of rfl) rfl fun w2 h6 o => ?_
  refine rows16_ok (e := fun (x : Nat) => (x : Int)) (fun _ => rfl) (o.vw 1 rfl) (o.vw 0 rfl) (by decide) ?_
  rw [ifV_true, ifV_true]
  replace o := o.sel [5, 7] (by decide)
  refine (o.vw 0 rfl).len (eqT16 ?_)
  refine (o.vw 0 rfl).atI (i := 0) (by decide) (eqT16 ?_)
  refine (o.vw 0 rfl).atI (i := 1) (by decide) (eqT16 ?_)
  refine (o.vw 0 rfl).atI (i := 2) (by decide) (eqT16 ?_)
  refine (o.vw 0 rfl).atI (i := 3) (by decide) (eqT16 ?_)
  refine o.build (enc := encU) (n := 1) [6, 0] rfl (sizesOk_of rfl) rfl fun w1 h9 o => ?_
  refine dnew_ok o (o.vw 0 rfl) (by decide) fun pd w h4 o => ?_
  refine amarksD_ok (k := 2) o 2 rfl gW_right hN (by decide) (by decide) (by decide) (by decide) fun wm vl' h5 o => ?_
  rw [gW_m2] at o
  refine o.build (enc := encN) (n := 1) [2, 3] rfl (sizesOk_of rfl) rfl fun w2 h6 o => ?_
  exact rows16_ok (e := fun (x : Nat) => (x : Int)) (fun _ => rfl) (o.vw 1 rfl) (o.vw 0 rfl) (by decide) (hK _ o.ext)

end
end Go.Proofs.YtoopkllfpmjnfaaGreatDoor

namespace Go.Proofs.YtoopkllfpmjnfaaGreatDoor
open Go Go.Mh
set_option linter.unusedVariables false

theorem bndZ_nn {g : G} {l : List Int} {r v : Nat} (hr : r < g.n) (hv : v < g.n) : bndZ g l r v = bnd g (mksZ g.n l) r v := by
  unfold bndZ
  rw [if_pos ⟨⟨by omega, by omega⟩, by omega, by omega⟩, Int.toNat_natCast, Int.toNat_natCast]

section
variable {h0 h : Heap} {L : List Res} {K : Value → Heap → Prop} {g : G} {vb vm : Value} {bs ms : List Int}

theorem agg4_plain {vx vy va : Value} {n : Int} {h' : Heap} {i j k : Nat} {L : List Res} (o : Own h0 h' L) (hi : L[i]? = some (xR vx g.X)) (hj : L[j]? = some (xR vy g.Y)) (hk : L[k]? = some (aR va g.arcs)) : ∀ u ∈ [I n, vx, vy, va], Mh.plainCell u = true := by
  intro u hu
  simp at hu
  rcases hu with rfl | rfl | rfl | rfl
  · rfl
  · exact (o.vw i hi).plain
  · exact (o.vw j hj).plain
  · exact (o.vw k hk).plain

theorem avoidBounds_ok {z : Int} (H : Vw encU8 1 h vb bs) (Hm : Vw encU8 1 h vm ms) (hmr : ∀ x ∈ ms, 0 ≤ x ∧ x ≤ 255) (hz : 0 ≤ z ∧ z < 256) (hK : ∀ h', Ext h h' → K (.bool true) h') :
    CallsH Tryz.prog F_milestonelaw16_AvoidBounds [vb, vm, .int .u8 z].toArray h K := by
  refine lk_milestonelaw16_AvoidBounds _ _ _ ?_
  unfold sh_milestonelaw16_AvoidBounds
  refine works16_ok fun h1 x1 => ?_
  rw [pUn_not, Bool.not_true, ifV_false]
  refine drawn16_ok (H.more x1) fun g vx vy va h2 hg o2' => ?_
  have o2 : Own h h2 [xR vx g.X, xR vy g.Y, aR va g.arcs] := ((Own.start h).more x1).frame o2'
  clear o2'
  have hR := hg.toRight
  have hmost := hg.few
  have hpos := hR.pos
  refine o2.box fun g7 h3 o3 => o3.st (cs' := [I g.n, vx, vy, va]) 0 rfl rfl rfl rfl rfl (agg4_plain o3 (i := 1) (j := 2) (k := 3) rfl rfl rfl) fun h4 o4 => o4.ldN (cs' := [I g.n, vx, vy, va]) 0 rfl rfl rfl ?_
  refine made16_ok o4 hR ⟨vx, vy, va, rfl, o4.vw 1 rfl, o4.vw 2 rfl, o4.vw 3 rfl⟩ fun r N h5 hN o5 => ?_
  simp only [pEq_ptr_nil, Option.isNone_some, ifV_false, pField_ptr, pConv_int]
  rw [w64 (by omega) (by omega)]
  refine o5.load 1 rfl rfl ?_
  rw [pBin_rem]
  refine ⟨by omega, ?_⟩
  obtain ⟨f, hf, hfn⟩ : ∃ f : Nat, z.tmod g.n = (f : Int) ∧ f < g.n := by
    have h1 := Int.tmod_nonneg (g.n : Int) hz.1
    have h2 := Int.tmod_lt_of_pos z (show (0 : Int) < g.n by omega)
    exact ⟨(z.tmod g.n).toNat, by omega, by omega⟩
  rw [hf]
  have T := from_tree hR hfn
  refine from_ok hR (hN _ (o5.get 0 rfl)) fun sd sa so h6 o6' => ?_
  have o6 := o5.frame o6'
  rw [show g.fromI f = g.from f by simp [G.fromI, hfn]] at o6
  refine o6.box fun x10 h7 o7 => o7.st (cs' := [sd, sa, so]) 0 rfl rfl rfl rfl rfl ?_ fun h8 o8 => ?_
  · intro u hu
    simp at hu
    rcases hu with rfl | rfl | rfl
    · exact (o6.vw 0 rfl).plain
    · exact (o6.vw 1 rfl).plain
    · exact (o6.vw 2 rfl).plain
  have o : Own h h8 [cellR x10 [sd, sa, so] T_flood_Tree, xR sd (g.from f).dist, N, cellR g7 [I g.n, vx, vy, va] T_api_Raw] := o8.sel [0, 1, 4, 5] (by decide)
  clear o8 o7 o6 o6' o5 o4 o3 o2
  have hdl : (g.from f).dist.length = g.n := T.ls.len
  have k5 : ∀ (h' : Heap) (X : List Res), Own h h' (X ++ [cellR x10 [sd, sa, so] T_flood_Tree, xR sd (g.from f).dist, N, cellR g7 [I g.n, vx, vy, va] T_api_Raw]) → sh_milestonelaw16_AvoidBounds_k5 Tryz.prog (ptr g7) (ptr x10) (ptr r) (I f) K h' := by
    intro h' X o'
    have o := (Own.comm o').left
    clear o'
    unfold sh_milestonelaw16_AvoidBounds_k5
    refine LoopH_count g.n (fun v x h' => x.1 = I v ∧ Own h h' [cellR x10 [sd, sa, so] T_flood_Tree, xR sd (g.from f).dist, N, cellR g7 [I g.n, vx, vy, va] T_api_Raw]) ⟨rfl, o⟩ ?_
    clear o
    rintro v ⟨x, ⟨⟩⟩ h9 Z hv ⟨hx, o⟩ hZ
    dsimp only at hx hZ ⊢
    subst hx
    unfold sh_milestonelaw16_AvoidBounds_L6
    simp only [pField_ptr]
    refine o.load 3 rfl rfl ?_
    rw [pBin_lss, ifV_dec]
    refine ⟨fun hlt => ?_, fun hge => hK _ o.ext⟩
    have hlt : v < g.n := by omega
    have hvl : v < (g.from f).dist.length := by omega
    obtain ⟨s1, s2⟩ := bnd_self hR hfn hlt
    refine cutP_of (fun y h' => y.1 = .bool false ∧ Own h h' [cellR x10 [sd, sa, so] T_flood_Tree, xR sd (g.from f).dist, N, cellR g7 [I g.n, vx, vy, va] T_api_Raw]) (fun J hJ => ?_) ?_
    · refine o.load 0 rfl rfl ((o.vw 1 rfl).idxI hvl fun b1 f1 c1 => pLoad_of rfl c1 ?_)
      refine (Own.start h9).build (enc := encI) (n := 1) [(v : Int)] rfl (sizesOk_of rfl) rfl fun w1 h10 p10 => ?_
      refine aBound_ok (l := [(v : Int)]) hR (hN _ ((o.more p10.ext).get 2 rfl)) (p10.vw 0 rfl) (show 1 < 2 ^ 32 by decide) fun h11 x11 => ?_
      have e11 := (p10.more x11).ext
      have o11 := o.more e11
      refine ⟨o11.load 0 rfl rfl rfl, pLoad_of rfl (hcell_more e11 c1) rfl, ?_⟩
      have em : ∀ u : Nat, u < g.n → mksZ g.n [(u : Int)] = [u] := fun u hu => mksZ_nI (n := g.n) (l := [u]) fun m hm => by rw [List.mem_singleton.1 hm]; exact hu
      rw [bndZ_nn hfn hlt, em v hlt, s1, dAt_get hvl, pBin_neq, bne_self_eq_false, ifV_false]
      refine o11.load 0 rfl rfl ((o11.vw 1 rfl).idxI hvl fun b2 f2 c2 => pLoad_of rfl c2 ?_)
      refine (Own.start h11).build (enc := encI) (n := 1) [(f : Int)] rfl (sizesOk_of rfl) rfl fun w2 h12 p12 => ?_
      refine aBound_ok (l := [(f : Int)]) hR (hN _ ((o11.more p12.ext).get 2 rfl)) (p12.vw 0 rfl) (show 1 < 2 ^ 32 by decide) fun h13 x13 => ?_
      have e13 := (p12.more x13).ext
      have o13 := o11.more e13
      refine ⟨o13.load 0 rfl rfl rfl, pLoad_of rfl (hcell_more e13 c2) rfl, ?_⟩
      rw [bndZ_nn hfn hlt, em f hfn, s2, dAt_get hvl, pBin_neq, bne_self_eq_false]
      exact hJ _ _ ⟨rfl, o13⟩
    · rintro ⟨y, ⟨⟩⟩ h14 ⟨hy, o14⟩
      dsimp only at hy ⊢
      subst hy
      unfold sh_milestonelaw16_AvoidBounds_C7
      rw [ifV_false, pBin_add, wI v (by omega)]
      exact hZ (_, ()) _ hlt ⟨rfl, o14⟩
  have hlN : ∀ i : Nat, i ≤ ms.length → ((ms.take i).map fun (x : Int) => x.tmod g.n).length ≤ ms.length := fun i hi => by rw [List.length_map, List.length_take]; omega
  refine LoopH_count (min ms.length 4) (fun i x h' => x.2.1 = I i ∧ Own h h' [slR encI 1 T_int x.1 ((ms.take i).map fun (x : Int) => x.tmod g.n), cellR x10 [sd, sa, so] T_flood_Tree, xR sd (g.from f).dist, N, cellR g7 [I g.n, vx, vy, va] T_api_Raw]) ⟨rfl, o.nilS⟩ ?_
  clear o
  rintro i ⟨wl, y, ⟨⟩⟩ h9 Z hi ⟨hy, o⟩ hZ
  dsimp only at hy o hZ ⊢
  subst hy
  unfold sh_milestonelaw16_AvoidBounds_L1
  refine (Hm.more o.ext).len ?_
  rw [pBin_lss, ifV_dec]
  refine ⟨fun c1 => ?_, fun c1 => k5 h9 [_] o⟩
  rw [pBin_lss, ifV_dec]
  refine ⟨fun c2 => ?_, fun c2 => k5 h9 [_] o⟩
  have hil : i < ms.length := by omega
  have hrx := hmr _ (List.getElem_mem hil)
  have tk : (ms.take (i + 1)).map (fun (x : Int) => x.tmod g.n) = (ms.take i).map (fun (x : Int) => x.tmod g.n) ++ [ms[i].tmod g.n] := by rw [List.take_succ_eq_append_getElem hil, List.map_append]; rfl
  have hln : ((ms.take i).map fun (x : Int) => x.tmod g.n).length = i := by rw [List.length_map, List.length_take]; omega
  rw [tk] at hZ
  have hpx : ∀ {h' : Heap} {K' : Value → Prop}, Ext h h' → (∀ b o, hcell h' ⟨b, o, none⟩ = some (.int .u8 ms[i]) → K' (.pointer (some ⟨b, o, none⟩))) → pIdx 1 vm (I i) K' := fun x hk => by
    exact (Hm.more x).idx (fun _ => rfl) hil fun b o hc => hk b o (by simpa [encU8] using hc 0 (by omega))
  generalize (ms.take i).map (fun (x : Int) => x.tmod g.n) = lo at o hZ hln k5
  generalize ms[i] = m at hpx hrx hZ
  refine cutP_of (fun y h' => ∃ wm, y.1 = wm ∧ Own h h' [slR encI 1 T_int wm (lo ++ [m.tmod g.n]), slR encI 1 T_int wl lo, cellR x10 [sd, sa, so] T_flood_Tree, xR sd (g.from f).dist, N, cellR g7 [I g.n, vx, vy, va] T_api_Raw]) (fun J hJ => ?_) ?_
  · refine hpx o.ext fun b1 f1 c1 => pLoad_of rfl c1 ?_
    simp only [pConv_int, pField_ptr]
    rw [w64 (by omega) (by omega)]
    refine o.load 4 rfl rfl ?_
    rw [pBin_rem]
    refine ⟨by omega, ?_⟩
    have hb1 : (([] : List Int).length + lo.length) * 8 ≤ 2 ^ 47 := by simp; omega
    have hb2 : (([] ++ lo).length + [m.tmod g.n].length) * 8 ≤ 2 ^ 47 := by simp; omega
    refine ⟨(Own.start h9).build (enc := encI) (n := 1) [] rfl (sizesOk_of rfl) rfl fun w44 h10 p10 => ⟨?_, ?_⟩, ?_⟩
    · refine p10.app 0 rfl encI_len encI_plain rfl ((o.vw 0 rfl).more p10.ext) (by decide) hb1 fun w46 h11 p11 => ?_
      refine ⟨pLoad_of rfl (hcell_more p11.ext c1) rfl, (o.more p11.ext).load 4 rfl rfl rfl, ?_⟩
      refine p11.build (enc := encI) (n := 1) [m.tmod g.n] rfl (sizesOk_of rfl) rfl fun w55 h12 p12 => ?_
      refine p12.app 1 rfl encI_len encI_plain rfl (p12.vw 0 rfl) (by decide) hb2 fun w56 h13 p13 => ?_
      exact hJ _ _ ⟨w56, rfl, (o.frame p13).sel [1, 2, 3, 4, 5, 6] (by decide)⟩
    · refine p10.build (enc := encI) (n := 1) [m.tmod g.n] rfl (sizesOk_of rfl) rfl fun w55 h12 p12 => ?_
      refine p12.app 1 rfl encI_len encI_plain rfl ((o.vw 0 rfl).more p12.ext) (by decide) hb1 fun w46 h11 p11 => ?_
      refine p11.app 1 rfl encI_len encI_plain rfl (p11.vw 0 rfl) (by decide) hb2 fun w56 h13 p13 => ?_
      exact hJ _ _ ⟨w56, rfl, (o.frame p13).sel [1, 2, 3, 4, 5, 6] (by decide)⟩
    · refine (Own.start h9).build (enc := encI) (n := 1) [m.tmod g.n] rfl (sizesOk_of rfl) rfl fun w55 h10 p10 => ?_
      refine p10.build (enc := encI) (n := 1) [] rfl (sizesOk_of rfl) rfl fun w44 h12 p12 => ?_
      refine p12.app 0 rfl encI_len encI_plain rfl ((o.vw 0 rfl).more p12.ext) (by decide) hb1 fun w46 h11 p11 => ?_
      refine p11.app 0 rfl encI_len encI_plain rfl (p11.vw 1 rfl) (by decide) hb2 fun w56 h13 p13 => ?_
      exact hJ _ _ ⟨w56, rfl, (o.frame p13).sel [0, 2, 3, 4, 5, 6] (by decide)⟩
  · rintro ⟨y, ⟨⟩⟩ h10 ⟨wm, hy, o10⟩
    dsimp only at hy ⊢
    subst hy
    unfold sh_milestonelaw16_AvoidBounds_C2
    refine LoopH_count g.n (fun v x h' => x.1 = I v ∧ Own h h' [slR encI 1 T_int y (lo ++ [m.tmod g.n]), slR encI 1 T_int wl lo, cellR x10 [sd, sa, so] T_flood_Tree, xR sd (g.from f).dist, N, cellR g7 [I g.n, vx, vy, va] T_api_Raw]) ⟨rfl, o10⟩ ?_
    clear o10 o
    rintro v ⟨x, ⟨⟩⟩ h11 Z1 hv ⟨hx, o⟩ hZ1
    dsimp only at hx hZ1 ⊢
    subst hx
    unfold sh_milestonelaw16_AvoidBounds_L3 sh_milestonelaw16_AvoidBounds_k4
    simp only [pField_ptr]
    refine o.load 5 rfl rfl ?_
    rw [pBin_lss, ifV_dec]
    refine ⟨fun hlt => ?_, fun hge => ?_⟩
    · have hlt : v < g.n := by omega
      have hvl : v < (g.from f).dist.length := by omega
      refine aBound_ok hR (hN _ (o.get 4 rfl)) (o.vw 1 rfl) (by omega) fun h12 x12 => ?_
      replace o := o.more x12
      refine aBound_ok hR (hN _ (o.get 4 rfl)) (o.vw 0 rfl) (by rw [List.length_append, List.length_singleton]; omega) fun h13 x13 => ?_
      replace o := o.more x13
      rw [bndZ_nn hfn hlt, bndZ_nn hfn hlt, mksZ_snoc]
      have n1 := @bnd_nonneg g f v (mksZ g.n lo)
      have n2 : bnd g (mksZ g.n lo) f v ≤ bnd g (mksZ g.n lo ++ (if 0 ≤ m.tmod g.n ∧ m.tmod g.n < g.n then [(m.tmod g.n).toNat] else [])) f v := by
        unfold bnd
        rw [List.foldl_append]
        exact bnd_up
      have n3 : bnd g (mksZ g.n lo ++ (if 0 ≤ m.tmod g.n ∧ m.tmod g.n < g.n then [(m.tmod g.n).toNat] else [])) f v ≤ dAt (g.from f).dist v := by
        rw [← mksZ_snoc]
        exact bnd_le hR hfn hlt mksZ_lt
      rw [pBin_lss, decide_eq_false (by omega), ifV_false, pBin_lss, decide_eq_false (by omega), ifV_false]
      refine o.load 2 rfl rfl ((o.vw 3 rfl).atI hvl ?_)
      rw [dAt_get hvl, pBin_gtr, decide_eq_false (by omega), ifV_false, pBin_add, wI v (by omega)]
      exact hZ1 (_, ()) _ hlt ⟨rfl, o⟩
    · rw [pBin_add, wI i (by omega)]
      exact hZ (_, _, ()) _ (by omega) ⟨rfl, o.sel [0, 2, 3, 4, 5] (by decide)⟩

end
end Go.Proofs.YtoopkllfpmjnfaaGreatDoor

namespace Go.Proofs.YtoopkllfpmjnfaaGreatDoor
open Go Go.Mh
set_option linter.unusedVariables false

section
variable {h : Heap} {K : Value → Heap → Prop} {a b : Int}

theorem within04_ok {m : Int} (hm : 0 ≤ m) (hK : K (I (min (max a 0) m)) h) : callS Tryz.prog F_milestoneref04_within [I a, I m] h K := by
  refine callS_of (lk_milestoneref04_within _ _ ?_)
  unfold sh_milestoneref04_within
  rw [pBin_lss, ifV_dec]
  refine ⟨fun h1 => ?_, fun h1 => ?_⟩
  · rw [show min (max a 0) m = 0 by omega] at hK; exact hK
  · rw [pBin_gtr, ifV_dec]
    refine ⟨fun h2 => ?_, fun h2 => ?_⟩
    · rw [show min (max a 0) m = m by omega] at hK; exact hK
    · rw [show min (max a 0) m = a by omega] at hK; exact hK

theorem rlow04_ok (h0 : 0 ≤ a) (h1 : a ≤ far) (h2 : 0 ≤ b) (h3 : b ≤ far) (hK : K (I (lessI a b)) h) : callS Tryz.prog F_milestoneref04_Low [I a, I b] h K := by
  have hf : far = 72057594037927936 := rfl
  refine callS_of (lk_milestoneref04_Low _ _ ?_)
  unfold sh_milestoneref04_Low
  unfold lessI at hK
  rw [hf] at hK
  rw [pBin_geq, ifV_dec]
  refine ⟨fun c => by rw [if_pos c] at hK; exact hK, fun c => ?_⟩
  rw [if_neg c] at hK
  rw [pBin_geq, ifV_dec]
  refine ⟨fun d => by rw [if_pos d] at hK; exact hK, fun d => ?_⟩
  rw [if_neg d] at hK
  refine within04_ok (by decide) (within04_ok (by decide) ?_)
  rw [pBin_sub, show min (max a 0) 72057594037927936 = a by omega, show min (max b 0) 72057594037927936 = b by omega, w64 (by omega) (by omega)]
  refine within04_ok (by decide) ?_
  rw [show min (max (a - b) 0) 72057594037927936 = if 0 < a - b then a - b else 0 by split <;> omega]
  exact hK

theorem rlift04_ok (h0 : 0 ≤ a) (h1 : a ≤ far) (h2 : 0 ≤ b) (h3 : b ≤ far) (hK : K (I (lessI b a)) h) : callS Tryz.prog F_milestoneref04_Lift [I a, I b] h K := by
  refine callS_of (lk_milestoneref04_Lift _ _ ?_)
  unfold sh_milestoneref04_Lift
  exact rlow04_ok h2 h3 h0 h1 hK

theorem rsat04_ok (hK : K (I (satI a b)) h) : callS Tryz.prog F_milestoneref04_Sat [I a, I b] h K := by
  refine callS_of (lk_milestoneref04_Sat _ _ ?_)
  unfold sh_milestoneref04_Sat
  refine within04_ok (by decide) (within04_ok (by decide) ?_)
  rw [pBin_add, w64 (by omega) (by omega)]
  refine within04_ok (by decide) ?_
  have e : satI a b = min (max (min (max a 0) 2305843009213693952 + min (max b 0) 2305843009213693952) 0) 2305843009213693952 := by unfold satI keepS mostS; omega
  rw [e] at hK
  exact hK

end
end Go.Proofs.YtoopkllfpmjnfaaGreatDoor

namespace Go.Proofs.YtoopkllfpmjnfaaGreatDoor
open Go Go.Mh

/-! ### The document's heap -/

structure RV (h : Heap) (F : Nat → Prop) (r : Nat) (l : List HE) (n : Int) : Prop where
  rep : ∃ v bl, h[r]? = some (.cells #[I n, v] T_milestoneref08_Heap (0, 0)) ∧ SlR encH 2 T_milestoneref08_Held h v bl l ∧ F r ∧ F bl
  low : ∀ b, F b → b < h.size
  ids : (l.map (·.1)).Nodup
  small : l.length < 2 ^ 40

section
variable {h h' : Heap} {F G S : Nat → Prop} {r : Nat} {l L : List HE} {n id key : Int} {K : Value → Heap → Prop} {p : HE}

theorem RV.upd (H : RV h F r l n) (hu : Upd S h h') (hd : Disj F S) : RV h' F r l n := by
  obtain ⟨⟨v, bl, a, b, f1, f2⟩, hlow, hid, hs⟩ := H
  exact ⟨⟨v, bl, hu.get a (hd _ f1), b.upd hu (hd _ f2), f1, f2⟩, fun b hb => Nat.lt_of_lt_of_le (hlow b hb) hu.size, hid, hs⟩

theorem rnew (hK : ∀ h' F r, RV h' F r [] (max n 0) → (∀ b, F b → h.size ≤ b) → Ext h h' → K (ptr r) h') : callS Tryz.prog F_milestoneref08_New [I n] h K := by
  refine callS_of (lk_milestoneref08_New _ ?_)
  unfold sh_milestoneref08_New
  rw [pMax_int]
  have e : (if (0 : Int) > n then 0 else n) = max n 0 := by omega
  rw [e]
  refine ⟨by simp [sizesOk], ?_⟩
  refine pBox_of ?_
  exact hK _ (fun b => b = h.size) h.size ⟨⟨_, h.size, push_new, .inl ⟨rfl, rfl⟩, rfl, rfl⟩, fun b hb => by subst hb; simp, by simp, by simp⟩ (fun b hb => by omega) (Upd.push _ _ _)

theorem rat (H : RV h F r l n) (h1 : ∀ i (hi : i < l.length), l[i].1 = id → K (I i) h) (h0 : (∀ p ∈ l, p.1 ≠ id) → K (I (-1)) h) : callS Tryz.prog F_milestoneref08_Heap_at [ptr r, I id] h K := by
  refine callS_of (lk_milestoneref08_Heap_at _ _ ?_)
  obtain ⟨⟨v, bl, hr, hs, f1, f2⟩, hlow, hid, hsm⟩ := H
  have c1 := hcell1 hr
  unfold sh_milestoneref08_Heap_at
  refine LoopH_intro (fun x h' => h' = h ∧ ∃ i : Nat, x.1 = I i ∧ i ≤ l.length ∧ ∀ j (hj : j < i) (hjl : j < l.length), l[j].1 ≠ id) (fun x _ => match x.1 with | .int _ k => ((l.length : Int) - k).toNat | _ => 0)
    ⟨rfl, 0, rfl, Nat.zero_le _, fun j hj => by omega⟩ ?_
  rintro ⟨x, ⟨⟩⟩ hh Z ⟨rfl, i, hx, hi, hno⟩ hZ
  dsimp only at hx
  subst hx
  dsimp only at hZ ⊢
  unfold sh_milestoneref08_Heap_at_L1
  simp only [pNil_ptr, pField_ptr, pLoad_ptr, Nat.zero_add, c1]
  refine hs.lenK ?_
  simp only [pBin_lss, ifV_dec]
  refine ⟨fun hlt => ?_, fun hge => ?_⟩
  · have hil : i < l.length := by omega
    refine hs.idx hil ?_
    have hc := hs.slot encH_len hil (j := 0) (by omega)
    rw [show (encH l[i])[0]? = some (I l[i].1) from rfl] at hc
    simp only [pField_ptr, pLoad_ptr, hc, pBin_eql, ifV_beq]
    refine ⟨fun e => h1 i hil e, fun e => ?_⟩
    have e3 : IntKind.i64.wrap ((i : Int) + 1) = ((i + 1 : Nat) : Int) := by rw [w64 (by omega) (by omega)]; rfl
    rw [pBin_add, e3]
    refine hZ _ _ ⟨rfl, i + 1, rfl, by omega, fun j hj hjl => ?_⟩ (by dsimp only; omega)
    by_cases e' : j = i
    · subst e'; exact e
    · exact hno j (by omega) hjl
  · refine h0 fun p hp => ?_
    obtain ⟨j, hj, rfl⟩ := List.mem_iff_getElem.1 hp
    exact hno j (by omega) hj

theorem slr_upd {α : Type} {enc : α → List Value} {m : Nat} {T : TypeId} {v : Value} {bl : Nat} {xs : List α} (H : SlR enc m T h v bl xs) (hu : Upd S h h') (hn : ∀ cs, h[bl]? = some (.cells cs T (0, 0)) → ¬ S bl) : SlR enc m T h' v bl xs := by
  rcases H with H | ⟨cap, rest, a, b, c, d⟩
  · exact .inl H
  · exact .inr ⟨cap, rest, a, hu.get b (hn _ b), c, d⟩

theorem rleast (H : RV h F r l n) (h0 : l = [] → K (I (-1)) h) (h1 : ∀ i (hi : i < l.length), Min l l[i] → K (I i) h) : callS Tryz.prog F_milestoneref08_Heap_least [ptr r] h K := by
  refine callS_of (lk_milestoneref08_Heap_least _ ?_)
  obtain ⟨⟨v, bl, hr, hs, f1, f2⟩, hlow, hid, hsm⟩ := H
  have c1 := hcell1 hr
  unfold sh_milestoneref08_Heap_least
  refine LoopH_intro (fun x h' => h' = h ∧ ∃ i : Nat, x.2.1 = I i ∧ i ≤ l.length ∧ ((x.1 = I (-1) ∧ i = 0) ∨ ∃ b : Nat, x.1 = I b ∧ b < i ∧ ∀ j, j < i → j < l.length → ¬ hlt (gt l j) (gt l b) = true))
    (fun x _ => match x.2.1 with | .int _ k => ((l.length : Int) - k).toNat | _ => 0)
    ⟨rfl, 0, rfl, Nat.zero_le _, .inl ⟨rfl, rfl⟩⟩ ?_
  rintro ⟨x, y, ⟨⟩⟩ hh Z ⟨rfl, i, hx, hi, hb⟩ hZ
  dsimp only at hx hb
  subst hx
  dsimp only at hZ ⊢
  unfold sh_milestoneref08_Heap_least_L1
  simp only [pNil_ptr, pField_ptr, pLoad_ptr, Nat.zero_add, c1]
  refine hs.lenK ?_
  simp only [pBin_lss, ifV_dec]
  have e3 : i < l.length → IntKind.i64.wrap ((i : Int) + 1) = ((i + 1 : Nat) : Int) := fun _ => by rw [w64 (by omega) (by omega)]; rfl
  refine ⟨fun hlt' => ?_, fun hge => ?_⟩
  · have hil : i < l.length := by omega
    have take : (∀ j, j < i + 1 → j < l.length → ¬ hlt (gt l j) (gt l i) = true) → sh_milestoneref08_Heap_least_k2 Tryz.prog (I i) (fun a0 a1 hz => Z (a0, (a1, ())) hz) hh := by
      intro ht
      unfold sh_milestoneref08_Heap_least_k2 sh_milestoneref08_Heap_least_k3
      rw [pBin_add, e3 hil]
      exact hZ _ _ ⟨rfl, i + 1, rfl, by omega, .inr ⟨i, rfl, by omega, ht⟩⟩ (by dsimp only; omega)
    rcases hb with ⟨rfl, rfl⟩ | ⟨b, rfl, hbi, hmin⟩
    · simp only [pBin_lss, ifV_dec]
      refine ⟨fun _ => take fun j hj hjl => ?_, fun e => by omega⟩
      have : j = 0 := by omega
      subst this
      exact fun e => hlt_asymm e e
    · simp only [pBin_lss, ifV_dec]
      refine ⟨fun e => by omega, fun _ => ?_⟩
      have hbl' : b < l.length := by omega
      have keep : ¬ hlt (gt l i) (gt l b) = true → sh_milestoneref08_Heap_least_k3 Tryz.prog (I i) (fun a0 a1 hz => Z (a0, (a1, ())) hz) (I b) hh := by
        intro hn
        unfold sh_milestoneref08_Heap_least_k3
        rw [pBin_add, e3 hil]
        refine hZ _ _ ⟨rfl, i + 1, rfl, by omega, .inr ⟨b, rfl, by omega, fun j hj hjl => ?_⟩⟩ (by dsimp only; omega)
        by_cases e' : j = i
        · subst e'; exact hn
        · exact hmin j (by omega) hjl
      have take' : hlt (gt l i) (gt l b) = true → sh_milestoneref08_Heap_least_k2 Tryz.prog (I i) (fun a0 a1 hz => Z (a0, (a1, ())) hz) hh := by
        intro hn
        refine take fun j hj hjl => ?_
        by_cases e' : j = i
        · subst e'; exact fun e => hlt_asymm e e
        · exact hlt_lt (hmin j (by omega) hjl) hn
      have ci0 := hs.slot encH_len hil (j := 0) (by omega)
      have ci1 := hs.slot encH_len hil (j := 1) (by omega)
      have cb0 := hs.slot encH_len hbl' (j := 0) (by omega)
      have cb1 := hs.slot encH_len hbl' (j := 1) (by omega)
      rw [show (encH l[i])[0]? = some (I l[i].1) from rfl] at ci0
      rw [show (encH l[i])[1]? = some (I l[i].2) from rfl] at ci1
      rw [show (encH l[b])[0]? = some (I l[b].1) from rfl] at cb0
      rw [show (encH l[b])[1]? = some (I l[b].2) from rfl] at cb1
      rw [← gt_eq hil, ← gt_eq hbl', hlt_iff] at keep take'
      refine hs.idx hil ?_
      simp only [pField_ptr, pLoad_ptr, ci1]
      refine hs.idx hbl' ?_
      simp only [pField_ptr, pLoad_ptr, cb1, pBin_lss, ifV_dec]
      refine ⟨fun e => take' (.inl e), fun e => ?_⟩
      refine hs.idx hil ?_
      simp only [pField_ptr, pLoad_ptr, ci1]
      refine hs.idx hbl' ?_
      simp only [pField_ptr, pLoad_ptr, cb1, pBin_eql, ifV_beq]
      refine ⟨fun e2 => ?_, fun e2 => keep (by omega)⟩
      refine hs.idx hil ?_
      simp only [pField_ptr, pLoad_ptr, ci0]
      refine hs.idx hbl' ?_
      simp only [pField_ptr, pLoad_ptr, cb0, pBin_lss, ifV_dec]
      exact ⟨fun e3 => take' (.inr ⟨e2, e3⟩), fun e3 => keep (by omega)⟩
  · rcases hb with ⟨rfl, rfl⟩ | ⟨b, rfl, hbi, hmin⟩
    · exact h0 (List.eq_nil_of_length_eq_zero (by omega))
    · have hbl' : b < l.length := by omega
      refine h1 b hbl' ⟨List.getElem_mem hbl', fun q hq => ?_⟩
      obtain ⟨j, hj, rfl⟩ := List.mem_iff_getElem.1 hq
      rw [gt_eq hj, gt_eq hbl']
      exact hmin j (by omega) hj

end
end Go.Proofs.YtoopkllfpmjnfaaGreatDoor

namespace Go.Proofs.YtoopkllfpmjnfaaGreatDoor
open Go Go.Mh

def QV (h : Heap) (F : Nat → Prop) (r : Nat) (L : List HE) (n : Int) : Prop := ∃ l, RV h F r l n ∧ l.Perm L

section
variable {h h' : Heap} {F G S : Nat → Prop} {r : Nat} {l L : List HE} {n id key : Int} {K : Value → Heap → Prop} {p : HE}

theorem QV.upd (H : QV h F r L n) (hu : Upd S h h') (hd : Disj F S) : QV h' F r L n := by
  obtain ⟨l, H, hp⟩ := H; exact ⟨l, H.upd hu hd, hp⟩
theorem QV.low (H : QV h F r L n) : ∀ b, F b → b < h.size := by obtain ⟨l, H, hp⟩ := H; exact H.low
theorem QV.nodup (H : QV h F r L n) : (L.map (·.1)).Nodup := by obtain ⟨l, H, hp⟩ := H; exact (hp.map _).nodup_iff.1 H.ids

theorem qnew (hK : ∀ h' F r, QV h' F r [] (max n 0) → (∀ b, F b → h.size ≤ b) → Ext h h' → K (ptr r) h') : callS Tryz.prog F_milestoneref08_New [I n] h K :=
  rnew fun h' F r H a b => hK h' F r ⟨[], H, .refl _⟩ a b

theorem qkey (H : QV h F r L n) (h0 : (∀ p ∈ L, p.1 ≠ id) → K (.tuple #[I 0, .bool false]) h) (h1 : ∀ p ∈ L, p.1 = id → K (.tuple #[I p.2, .bool true]) h) : callS Tryz.prog F_milestoneref08_Heap_Key [ptr r, I id] h K := by
  obtain ⟨l, H, hp⟩ := H
  refine callS_of (lk_milestoneref08_Heap_Key _ _ ?_)
  unfold sh_milestoneref08_Heap_Key
  refine rat H (fun i hi e => ?_) fun hno => ?_
  · obtain ⟨⟨v, bl, hr, hs, f1, f2⟩, hlow, hid, hsm⟩ := H
    have c1 := hcell1 hr
    have ck := hs.slot encH_len hi (j := 1) (by omega)
    rw [show (encH l[i])[1]? = some (I l[i].2) from rfl] at ck
    simp only [pBin_lss, ifV_dec, pNil_ptr, pField_ptr, pLoad_ptr, Nat.zero_add, c1]
    refine ⟨fun e => by omega, fun _ => hs.idx hi ?_⟩
    simp only [pField_ptr, pLoad_ptr, ck]
    exact h1 _ (hp.mem_iff.1 (List.getElem_mem hi)) e
  · simp only [pBin_lss]
    rw [show decide ((-1 : Int) < 0) = true from rfl]
    exact h0 fun p hm => hno p (hp.mem_iff.2 hm)

/-- The new row put in. -/
theorem rput {v v' : Value} {bl' : Nat} {l' : List HE} {h2 : Heap} (hr : h2[r]? = some (.cells #[I n, v] T_milestoneref08_Heap (0, 0))) (hs : SlR encH 2 T_milestoneref08_Held h2 v' bl' l') (fr : F r) (hb : F bl' ∨ h.size ≤ bl') (hbl : bl' < h2.size)
    (hlow : ∀ b, F b → b < h.size) (u : Upd F h h2) (hid : (l'.map (·.1)).Nodup) (hsm : l'.length < 2 ^ 40) {KH : Value → Heap → Prop}
    (hK : ∀ h3 F', RV h3 F' r l' n → Grow h F F' → Upd F h h3 → Upd (fun b => b = r) h2 h3 → KH undef h3) : pStore 1 (.pointer (some ⟨r, 1, none⟩)) v' h2 KH := by
  have hv : v'.cells.size = 1 ∧ (∀ u ∈ v'.cells.toList, Mh.plainCell u = true) ∧ v'.cells.toList = [v'] := by
    rcases hs.len with ⟨_, _, rfl⟩; simp
  refine pStore_of rfl hr hv.1 (by rw [hv.1]; simp) hv.2.1 ?_
  have ec : over [I n, v] 1 v'.cells.toList = [I n, v'] := by rw [hv.2.2]; rfl
  rw [ec]
  have u4 : Upd (fun b => b = r) h2 (upd h2 r (.cells [I n, v'].toArray T_milestoneref08_Heap (0, 0))) := Upd.upd _ _ rfl
  refine hK _ (fun b => F b ∨ b = bl') ⟨⟨v', bl', upd_self' hr, slr_upd hs u4 (fun cs hcs e => ?_), .inl fr, .inr rfl⟩, ?_, hid, hsm⟩ ?_ (u.trans u4 fun b hb _ => by subst hb; exact fr) u4
  · subst e; rw [hr] at hcs; simp at hcs; exact absurd hcs.2 (by decide)
  · rintro b (hb' | rfl)
    · exact Nat.lt_of_lt_of_le (hlow b hb') (Nat.le_trans u.size u4.size)
    · exact Nat.lt_of_lt_of_le hbl u4.size
  · rintro b (hb' | rfl)
    · exact .inl hb'
    · exact hb

theorem qpush (H : QV h F r L n) (hsm : L.length + 1 < 2 ^ 40)
    (h2 : ((∃ p ∈ L, p.1 = id) ∨ id < 0 ∨ n ≤ id) → K (I 2) h)
    (h0 : (∀ p ∈ L, p.1 ≠ id) → 0 ≤ id → id < n → ∀ h' F', QV h' F' r ((id, key) :: L) n → Grow h F F' → Upd F h h' → K (I 0) h') :
    callS Tryz.prog F_milestoneref08_Heap_Push [ptr r, I id, I key] h K := by
  obtain ⟨l, H, hp⟩ := H
  refine callS_of (lk_milestoneref08_Heap_Push _ _ _ ?_)
  unfold sh_milestoneref08_Heap_Push
  have HR := H
  obtain ⟨⟨v, bl, hr, hs, f1, f2⟩, hlow, hid, hsm'⟩ := H
  have c0 := hcell0 hr
  have c1 := hcell1 hr
  simp only [pBin_lss, ifV_dec, pNil_ptr, pField_ptr, pLoad_ptr, Nat.add_zero, Nat.zero_add, c0, c1, pBin_geq]
  refine ⟨fun e => h2 (.inr (.inl e)), fun hlt => ⟨fun e => h2 (.inr (.inr e)), fun hge => ?_⟩⟩
  refine rat HR (fun i hi e => ?_) fun hno => ?_
  · simp only [pBin_geq, ifV_dec]
    exact ⟨fun _ => h2 (.inl ⟨_, hp.mem_iff.1 (List.getElem_mem hi), e⟩), fun e => by omega⟩
  · simp only [pBin_geq]
    rw [show decide ((0 : Int) ≤ -1) = false from rfl]
    simp only [ifV_false, c1]
    refine ⟨by simp [sizesOk], ?_⟩
    refine ⟨by simp [sizesOk, spliceAll, zerosL, Value.cells], ?_⟩
    have hnew : (h.push (.cells (spliceAll (zerosL [Value.int .i64 0, Value.int .i64 0] 1) [(0, 2, .agg (spliceAll [Value.int .i64 0, Value.int .i64 0] [(0, 1, I id), (1, 1, I key)]).toArray)]).toArray T_milestoneref08_Held (0, 0)))[h.size]? =
      some (.cells #[I id, I key] T_milestoneref08_Held (0, 0)) := by rw [push_new]; rfl
    have u2 := Upd.push (fun _ => False) h (.cells (spliceAll (zerosL [Value.int .i64 0, Value.int .i64 0] 1) [(0, 2, .agg (spliceAll [Value.int .i64 0, Value.int .i64 0] [(0, 1, I id), (1, 1, I key)]).toArray)]).toArray T_milestoneref08_Held (0, 0))
    have hsz2 : (h.push (.cells (spliceAll (zerosL [Value.int .i64 0, Value.int .i64 0] 1) [(0, 2, .agg (spliceAll [Value.int .i64 0, Value.int .i64 0] [(0, 1, I id), (1, 1, I key)]).toArray)]).toArray T_milestoneref08_Held (0, 0))).size = h.size + 1 := push_size
    generalize (h.push (.cells (spliceAll (zerosL [Value.int .i64 0, Value.int .i64 0] 1) [(0, 2, .agg (spliceAll [Value.int .i64 0, Value.int .i64 0] [(0, 1, I id), (1, 1, I key)]).toArray)]).toArray T_milestoneref08_Held (0, 0))) = h2' at hnew u2 hsz2
    have hll := hp.length_eq
    refine append_of (ys := [(id, key)]) encH_len encH_plain rfl (hs.upd u2 (fun f => f)) rfl ?_ (by decide) (by simp; omega) fun v' bl' h3 hs3 hbl' u3 hlt3 => ?_
    · simp only [cellsOfSl, Nat.one_mul]
      rw [cellsAt_of (i := 0) (cs := [I id, I key]) hnew _ 0 (by simp)]; rfl
    have hr3 : h3[r]? = _ := u3.get (u2.get hr (fun f => f)) (by
      rintro ⟨rfl, cs, hcs⟩
      rw [u2.get hr (fun f => f)] at hcs; simp at hcs; exact absurd hcs.2 (by decide))
    refine rput (h := h) (F := F) hr3 hs3 f1 ?_ (hlt3 (by have := hlow _ f2; omega)) hlow ((u2.mono fun _ hf _ => hf.elim).trans u3 fun b hb _ => hb.1 ▸ f2) ?_ (by simp; omega) fun h5 F' H5 g5 u5 _ => ?_
    · rcases hbl' with e | e
      · exact .inl (e ▸ f2)
      · exact .inr (by omega)
    · rw [List.map_append, List.nodup_append]
      refine ⟨hid, by simp, ?_⟩
      intro a ha b hb
      simp at hb; subst hb
      obtain ⟨p, hp', rfl⟩ := List.mem_map.1 ha
      exact hno p hp'
    · exact h0 (fun p hm => hno p (hp.mem_iff.2 hm)) (by omega) (by omega) h5 F' ⟨_, H5, (List.perm_append_comm (l₁ := l) (l₂ := [(id, key)])).trans (hp.cons _)⟩ g5 u5

theorem qlower (H : QV h F r L n)
    (h2 : (id < 0 ∨ n ≤ id) → K (I 2) h) (h20 : 0 ≤ id → id < n → (∀ p ∈ L, p.1 ≠ id) → K (I 20) h) (h2' : ∀ p ∈ L, 0 ≤ id → id < n → p.1 = id → p.2 < key → K (I 2) h)
    (h0 : ∀ p ∈ L, p.1 = id → 0 ≤ id → id < n → ¬ p.2 < key → ∀ h' F', QV h' F' r ((id, key) :: L.erase p) n → Grow h F F' → Upd F h h' → K (I 0) h') :
    callS Tryz.prog F_milestoneref08_Heap_Lower [ptr r, I id, I key] h K := by
  obtain ⟨l, H, hp⟩ := H
  refine callS_of (lk_milestoneref08_Heap_Lower _ _ _ ?_)
  unfold sh_milestoneref08_Heap_Lower
  have HR := H
  obtain ⟨⟨v, bl, hr, hs, f1, f2⟩, hlow, hid, hsm'⟩ := H
  have c0 := hcell0 hr
  have c1 := hcell1 hr
  simp only [pBin_lss, ifV_dec, pNil_ptr, pField_ptr, pLoad_ptr, Nat.add_zero, Nat.zero_add, c0, c1, pBin_geq]
  refine ⟨fun e => h2 (.inl e), fun hlt => ⟨fun e => h2 (.inr e), fun hge => ?_⟩⟩
  refine rat HR (fun i hi e => ?_) fun hno => ?_
  · simp only [pBin_lss, ifV_dec]
    refine ⟨fun e => by omega, fun _ => ?_⟩
    have hm := hp.mem_iff.1 (List.getElem_mem hi)
    have ck := hs.slot encH_len hi (j := 1) (by omega)
    rw [show (encH l[i])[1]? = some (I l[i].2) from rfl] at ck
    simp only [c1]
    refine hs.idx hi ?_
    simp only [pField_ptr, pLoad_ptr, ck, pBin_lss, ifV_dec]
    refine ⟨fun hk => h2' _ hm (by omega) (by omega) e hk, fun hk => ?_⟩
    refine hs.idx hi ?_
    obtain ⟨cap, rest, rfl, hb, hrest, hcap⟩ := hs.full (by omega)
    have hlen := row_length encH_len l
    simp only [pField_ptr]
    refine pStore_of rfl hb rfl (by simp [hlen]; omega) (by simp) ?_
    have eo : over (Mh.row encH l ++ rest) (i * 2 + 1) (I key).cells.toList = Mh.row encH (l.set i (l[i].1, key)) ++ rest := by
      have o := row_over encH_len hi (l[i].1, key) rest
      rw [← o]
      have hlt' : i * 2 < (Mh.row encH l ++ rest).length := by simp [hlen]; omega
      have hg := row_get encH_len hi (j := 0) (by omega) rest
      rw [Nat.add_zero, List.getElem?_eq_getElem hlt'] at hg
      have ht : (Mh.row encH l ++ rest).take (i * 2 + 1) = (Mh.row encH l ++ rest).take (i * 2) ++ [I l[i].1] := by
        rw [List.take_succ_eq_append_getElem hlt']
        congr 2
        simpa [encH] using hg
      unfold over
      rw [ht]
      simp [encH]
    rw [eo]
    have hne : bl ≠ r := by rintro rfl; rw [hr] at hb; simp at hb; exact absurd hb.2 (by decide)
    have u1 : Upd F h (upd h bl (.cells (Mh.row encH (l.set i (l[i].1, key)) ++ rest).toArray T_milestoneref08_Held (0, 0))) := Upd.upd _ _ f2
    have hl1 : (l.set i (l[i].1, key)).length = l.length := List.length_set
    refine h0 _ hm e (by omega) (by omega) hk _ F ⟨l.set i (l[i].1, key), ⟨⟨_, bl, (upd_ne hne).trans hr, .inr ⟨cap, rest, by rw [hl1], upd_self' hb, by rw [hl1]; exact hrest, by rw [hl1]; exact hcap⟩, f1, f2⟩,
      fun b hb => Nat.lt_of_lt_of_le (hlow b hb) u1.size, by rw [ids_set hi]; exact hid, by rw [hl1]; exact hsm'⟩, ?_⟩ (fun b hb => .inl hb) u1
    refine (set_perm (l := l) (i := i) (a := (l[i].1, key)) hi).trans ?_
    rw [e]
    exact (hp.erase l[i]).cons _
  · simp only [pBin_lss]
    rw [show decide ((-1 : Int) < 0) = true from rfl]
    simp only [ifV_true]
    exact h20 (by omega) (by omega) fun p hm => hno p (hp.mem_iff.2 hm)

theorem erase_split {i : Nat} (hi : i < l.length) : (l.take i ++ l.drop (i + 1)).Perm (l.erase l[i]) := by
  have h1 : l.Perm (l[i] :: (l.take i ++ l.drop (i + 1))) := by
    have : l = l.take i ++ l[i] :: l.drop (i + 1) := by rw [← List.drop_eq_getElem_cons hi, List.take_append_drop]
    exact (List.Perm.of_eq this).trans List.perm_middle
  have := h1.erase l[i]
  simp only [List.erase_cons_head] at this
  exact this.symm

theorem qpop (H : QV h F r L n) (h0 : L = [] → K (.tuple #[I 0, I 0, .bool false]) h)
    (h1 : ∀ p, Min L p → ∀ h' F', QV h' F' r (L.erase p) n → Grow h F F' → Upd F h h' → K (.tuple #[I p.1, I p.2, .bool true]) h') : callS Tryz.prog F_milestoneref08_Heap_Pop [ptr r] h K := by
  obtain ⟨l, H, hp⟩ := H
  refine callS_of (lk_milestoneref08_Heap_Pop _ ?_)
  unfold sh_milestoneref08_Heap_Pop
  refine rleast H (fun e => ?_) fun i hi hm => ?_
  · simp only [pBin_lss]
    rw [show decide ((-1 : Int) < 0) = true from rfl]
    exact h0 (by subst e; exact hp.nil_eq.symm)
  · obtain ⟨⟨v, bl, hr, hs, f1, f2⟩, hlow, hid, hsm⟩ := H
    have c1 := hcell1 hr
    have ck0 := hs.slot encH_len hi (j := 0) (by omega)
    have ck1 := hs.slot encH_len hi (j := 1) (by omega)
    rw [show (encH l[i])[0]? = some (I l[i].1) from rfl] at ck0
    rw [show (encH l[i])[1]? = some (I l[i].2) from rfl] at ck1
    simp only [pBin_lss, ifV_dec, pNil_ptr, pField_ptr, pLoad_ptr, Nat.zero_add, c1]
    refine ⟨fun e => by omega, fun _ => hs.idx hi ?_⟩
    rw [Nat.add_zero] at ck0
    have ca : cellsAt h bl (i * 2) 2 = some [I l[i].1, I l[i].2] := by simp [cellsAt, ck0, ck1]
    simp only [pLoadN_ptr, ca]
    refine pBox_of ?_
    refine pStore_of rfl push_new rfl (by simp) (by simp [Mh.plainCell]) ?_
    have x1 : Ext h (upd (h.push (.cells (Value.agg #[.int .i64 0, .int .i64 0]).cells T_milestoneref08_Held (0, 0))) h.size (.cells (over [Value.int .i64 0, Value.int .i64 0] 0 (Value.agg [I l[i].1, I l[i].2].toArray).cells.toList).toArray T_milestoneref08_Held (0, 0))) :=
      ((Upd.push _ _ _).trans (Upd.upd (S := fun b => b = h.size) _ _ rfl) (fun b hb hlt => by omega))
    have hf1 : (upd (h.push (.cells (Value.agg #[.int .i64 0, .int .i64 0]).cells T_milestoneref08_Held (0, 0))) h.size (.cells (over [Value.int .i64 0, Value.int .i64 0] 0 (Value.agg [I l[i].1, I l[i].2].toArray).cells.toList).toArray T_milestoneref08_Held (0, 0)))[h.size]? =
      some (.cells #[I l[i].1, I l[i].2] T_milestoneref08_Held (0, 0)) := upd_self' push_new
    have hsz1 := get_lt hf1
    generalize (upd (h.push (.cells (Value.agg #[.int .i64 0, .int .i64 0]).cells T_milestoneref08_Held (0, 0))) h.size (.cells (over [Value.int .i64 0, Value.int .i64 0] 0 (Value.agg [I l[i].1, I l[i].2].toArray).cells.toList).toArray T_milestoneref08_Held (0, 0))) = hA at x1 hf1 hsz1
    have hrA := x1.get hr
    have cA := hcell1 hrA
    have hsA := hs.upd x1 (fun f => f)
    simp only [cA]
    refine hsA.view.sub (i := 0) (j := i) encH_len rfl rfl (by omega) (by omega) fun va hva => ?_
    have e3 : IntKind.i64.wrap ((i : Int) + 1) = ((i + 1 : Nat) : Int) := by rw [w64 (by omega) (by omega)]; rfl
    simp only [pBin_add, e3]
    refine hsA.view.sub (i := i + 1) (j := l.length) encH_len rfl rfl (by omega) (by omega) fun vb hvb => ?_
    rw [List.drop_zero, Nat.sub_zero] at hva
    have hdl : (l.drop (i + 1)).take (l.length - (i + 1)) = l.drop (i + 1) := by rw [List.take_of_length_le]; simp
    rw [hdl] at hvb
    refine ⟨by simp [sizesOk], ?_⟩
    have hE : (hA.push (.cells (spliceAll (zerosL [Value.int .i64 0, Value.int .i64 0] 0) []).toArray T_milestoneref08_Held (0, 0)))[hA.size]? = some (.cells #[] T_milestoneref08_Held (0, 0)) := by rw [push_new]; rfl
    have xE := Upd.push (fun _ => False) hA (.cells (spliceAll (zerosL [Value.int .i64 0, Value.int .i64 0] 0) []).toArray T_milestoneref08_Held (0, 0))
    have hszE : (hA.push (.cells (spliceAll (zerosL [Value.int .i64 0, Value.int .i64 0] 0) []).toArray T_milestoneref08_Held (0, 0))).size = hA.size + 1 := push_size
    generalize (hA.push (.cells (spliceAll (zerosL [Value.int .i64 0, Value.int .i64 0] 0) []).toArray T_milestoneref08_Held (0, 0))) = hB at hE xE hszE
    have hse : SlR encH 2 T_milestoneref08_Held hB (.slice (some ⟨hA.size, 0, none⟩) 0 0) hA.size ([] : List HE) := .inr ⟨0, [], rfl, by rw [hE]; rfl, by simp, by simp⟩
    have hvaB := hva.upd xE (fun f => f)
    have hvbB := hvb.upd xE (fun f => f)
    obtain ⟨ba, capa, rfl, hca⟩ := hvaB.cells encH_len
    have hrB := xE.get hrA (fun f => f)
    have hfB := xE.get hf1 (fun f => f)
    have hrlt := hlow _ f1
    have hblt := hlow _ f2
    refine append_of (ys := l.take i) encH_len encH_plain rfl hse rfl hca (by decide) (by simp; omega) fun v1 b1 hC hs1 hb1 u1 hl1 => ?_
    have hb1' : hA.size ≤ b1 := by rcases hb1 with e | e <;> omega
    have hrC := u1.get hrB (fun e => by omega)
    have hfC := u1.get hfB (fun e => by omega)
    have hvbC := hvbB.upd u1 (fun e => by omega)
    have cC := hcell1 hrC
    simp only [cC, true_and]
    obtain ⟨bb, capb, rfl, hcb⟩ := hvbC.cells encH_len
    refine append_of (ys := l.drop (i + 1)) encH_len encH_plain rfl hs1 rfl hcb (by decide) (by simp; omega) fun v2 b2 hD hs2 hb2 u2 hl2 => ?_
    have hCs := u1.size
    have hb2' : hA.size ≤ b2 := by rcases hb2 with e | e <;> omega
    have hrD := u2.get hrC (fun e => by omega)
    have hfD := u2.get hfC (fun e => by omega)
    have uD : Upd F h hD := (((x1.mono (S' := F) fun _ hf _ => hf.elim).trans xE fun _ hf _ => hf.elim).trans u1 fun b hb hlt => by omega).trans u2 fun b hb hlt => by omega
    rw [List.nil_append] at hs2
    have hperm := erase_split hi
    refine rput (h := h) (F := F) hrD hs2 f1 (.inr (by omega)) (hl2 (hl1 (by omega))) hlow uD ?_ ?_ fun h5 F' H5 g5 u5 ur => ?_
    · rw [(hperm.map _).nodup_iff]
      exact (List.Sublist.map _ List.erase_sublist).nodup hid
    · rw [hperm.length_eq, List.length_erase_of_mem (List.getElem_mem hi)]; omega
    · have hf5 := ur.get hfD (fun e => by omega)
      have k0 := hcell0 hf5
      have k1 := hcell1 hf5
      simp only [pField_ptr, pLoad_ptr, Nat.add_zero, Nat.zero_add, k0, k1]
      exact h1 _ (hm.perm hp) h5 F' ⟨_, H5, hperm.trans (hp.erase _)⟩ g5 u5

end
end Go.Proofs.YtoopkllfpmjnfaaGreatDoor

namespace Go.Proofs.YtoopkllfpmjnfaaGreatDoor
open Go Go.Mh
set_option linter.unusedVariables false

/-! ### The document's heap as a part of memory -/

theorem RV.st {h h' : Heap} {F : Nat → Prop} {r : Nat} {l : List HE} {n : Int} (hs : ∀ b, F b → h'[b]? = h[b]?)
    (H : (∃ v bl, h[r]? = some (.cells #[I n, v] T_milestoneref08_Heap (0, 0)) ∧ SlR encH 2 T_milestoneref08_Held h v bl l ∧ F r ∧ F bl)) :
    (∃ v bl, h'[r]? = some (.cells #[I n, v] T_milestoneref08_Heap (0, 0)) ∧ SlR encH 2 T_milestoneref08_Held h' v bl l ∧ F r ∧ F bl) := by
  obtain ⟨v, bl, a, b, f1, f2⟩ := H
  refine ⟨v, bl, (hs _ f1).trans a, ?_, f1, f2⟩
  rcases b with b | ⟨c, rest, e, b, d⟩
  · exact .inl b
  · exact .inr ⟨c, rest, e, (hs _ f2).trans b, d⟩

def qR (F : Nat → Prop) (r : Nat) (H : List HE) (n : Nat) : Res :=
  ⟨F, fun h => ∃ l, (∃ v bl, h[r]? = some (.cells #[I n, v] T_milestoneref08_Heap (0, 0)) ∧ SlR encH 2 T_milestoneref08_Held h v bl l ∧ F r ∧ F bl) ∧ (l.map fun p : HE => p.1).Nodup ∧ l.length < 2 ^ 40 ∧ l.Perm H,
   fun hs ⟨l, R, a, b, c⟩ => ⟨l, RV.st hs R, a, b, c⟩⟩

section
variable {h0 h : Heap} {L : List Res} {F : Nat → Prop} {r n : Nat} {H : List HE} {id key : Int} {K : Value → Heap → Prop}

theorem QV.toR (P : QV h F r H n) : (qR F r H n).Q h := by
  obtain ⟨l, P, hp⟩ := P; exact ⟨l, P.rep, P.ids, P.small, hp⟩

theorem own_qv (o : Own h0 h L) (i : Nat) (hi : L[i]? = some (qR F r H n)) : QV h F r H n := by
  obtain ⟨l, a, b, c, d⟩ := o.get i hi
  exact ⟨l, ⟨a, fun x hx => ((o.q hi).2 x hx).2, b, c⟩, d⟩

theorem own_q {h' : Heap} {F' : Nat → Prop} {H' : List HE} (o : Own h0 h L) (i : Nat) (hi : L[i]? = some (qR F r H n)) (P : QV h' F' r H' n) (g : Grow h F F') (u : Upd F h h') : Own h0 h' (L.set i (qR F' r H' n)) :=
  o.set i hi u P.toR fun b hb => ⟨g b hb, P.low b hb⟩

theorem qo_new (o : Own h0 h L) (hK : ∀ F r h', Own h0 h' (qR F r [] n :: L) → K (ptr r) h') : callS Tryz.prog F_milestoneref08_New [I n] h K := by
  refine qnew fun h' F r P hF x => hK F r h' (o.cons x ?_ fun b hb => ⟨hF b hb, P.low b hb⟩)
  rw [show max (n : Int) 0 = n by omega] at P
  exact P.toR

theorem qo_push (o : Own h0 h L) (i : Nat) (hi : L[i]? = some (qR F r H n)) (hsm : H.length + 1 < 2 ^ 40) {v : Nat} (hno : ∀ p ∈ H, p.1 ≠ v) (hv : v < n)
    (hK : ∀ F' h', Own h0 h' (L.set i (qR F' r (((v : Int), key) :: H) n)) → K (I 0) h') : callS Tryz.prog F_milestoneref08_Heap_Push [ptr r, I v, I key] h K :=
  qpush (own_qv o i hi) hsm (fun h => by rcases h with ⟨p, hp, e⟩ | h | h
                                         · exact absurd e (hno p hp)
                                         · omega
                                         · omega) fun _ _ _ h' F' P g u => hK F' h' (own_q o i hi P g u)

theorem qo_lower (o : Own h0 h L) (i : Nat) (hi : L[i]? = some (qR F r H n)) {v : Nat} {was : Int} (hm : ((v : Int), was) ∈ H) (hv : v < n) (hk : ¬ was < key)
    (hK : ∀ F' h', Own h0 h' (L.set i (qR F' r (((v : Int), key) :: H.erase ((v : Int), was)) n)) → K (I 0) h') : callS Tryz.prog F_milestoneref08_Heap_Lower [ptr r, I v, I key] h K := by
  have P := own_qv o i hi
  refine qlower P (fun h => by omega) (fun _ _ h => absurd rfl (h _ hm)) (fun p hp _ _ e hlt => ?_) fun p hp e _ _ _ h' F' P' g u => ?_
  · have := id_uniq P.nodup hp hm e
    subst this
    exact absurd hlt hk
  · have := id_uniq P.nodup hp hm e
    subst this
    exact hK F' h' (own_q o i hi P' g u)

theorem qo_key (o : Own h0 h L) (i : Nat) (hi : L[i]? = some (qR F r H n)) {v : Nat}
    (hK : K (.tuple #[I ((lookH H v).getD 0), .bool (lookH H v).isSome]) h) : callS Tryz.prog F_milestoneref08_Heap_Key [ptr r, I v] h K := by
  have P := own_qv o i hi
  refine qkey P (fun hno => ?_) fun p hp e => ?_
  · have : lookH H v = none := lookH_none.2 hno
    rw [this] at hK; exact hK
  · cases hl : lookH H v with
    | none => exact absurd e (lookH_none.1 hl p hp)
    | some k =>
      have hm := lookH_some hl
      have := id_uniq P.nodup hp hm e
      subst this
      rw [hl] at hK; exact hK

theorem qo_pop (o : Own h0 h L) (i : Nat) (hi : L[i]? = some (qR F r H n)) (hne : H ≠ [])
    (hK : ∀ p, least H = some p → ∀ F' h', Own h0 h' (L.set i (qR F' r (H.erase p) n)) → K (.tuple #[I p.1, I p.2, .bool true]) h') : callS Tryz.prog F_milestoneref08_Heap_Pop [ptr r] h K := by
  refine qpop (own_qv o i hi) (fun e => absurd e hne) fun p hm h' F' P g u => hK p ?_ F' h' (own_q o i hi P g u)
  cases hl : least H with
  | none => exact absurd (least_none.1 hl) hne
  | some q =>
    have h1 := (min_iff.1 (least_min hl))
    have h2 := min_iff.1 hm
    have a := h1.2 p h2.1
    have b := h2.2 q h1.1
    rw [hl_iff] at a b
    rw [show q = p from Prod.ext (by omega) (by omega)]

theorem qo_len (o : Own h0 h L) (i : Nat) (hi : L[i]? = some (qR F r H n)) {K : Value → Prop} (hK : K (I H.length)) : pNil (ptr r) fun t52 => pField 1 t52 fun t53 => pLoad h t53 fun t54 => pLen t54 K := by
  obtain ⟨l, ⟨⟨v, bl, hr, hs, _⟩, _⟩, hp⟩ := own_qv o i hi
  have c1 := hcell1 hr
  simp only [pNil_ptr, pField_ptr, pLoad_ptr, Nat.zero_add, c1]
  refine hs.lenK ?_
  rw [hp.length_eq]; exact hK

end
end Go.Proofs.YtoopkllfpmjnfaaGreatDoor

namespace Go.Proofs.YtoopkllfpmjnfaaGreatDoor
open Go Go.Mh
set_option linter.unusedVariables false

section
variable {h0 h : Heap} {L : List Res} {K : Value → Heap → Prop} {g : G} {v : Value}

theorem outsP_take {q : A → Bool} {l : List A} {i : Nat} (hi : i < l.length) : outsP q (l.take (i + 1)) 0 = outsP q (l.take i) 0 ++ (if q l[i] then [i] else []) := by
  rw [List.take_succ_eq_append_getElem hi, outsP_append]
  simp only [outsP, List.length_take, Nat.zero_add, Nat.min_eq_left (Nat.le_of_lt hi)]

/-- The arcs that go out of a node. -/
theorem rout_ok {u : Nat} (o : Own h0 h L) (hR : g.Right) (H : RawV h v g) (hK : ∀ v' h', Own h0 h' (slR encN 1 T_int v' (g.out u) :: L) → K v' h') : callS Tryz.prog F_milestoneref07_Out [v, I u] h K := by
  obtain ⟨vx, vy, va, rfl, H⟩ := H
  refine callS_of (lk_milestoneref07_Out _ _ ?_)
  unfold sh_milestoneref07_Out
  have hmany := hR.many
  have hv : ∀ {h' : Heap}, Ext h h' → Vw encA 3 h' va g.arcs := fun x => H.2.2.more x
  refine (Own.start h).box fun r h1 o1 => ?_
  refine LoopH_count g.arcs.length (fun i x h' => x.2.1 = I i ∧ Own h h' [slR encN 1 T_int x.1 (outsP (fun a => a.f == u) (g.arcs.take i) 0), cellR r [I g.n, vx, vy, va] T_api_Raw]) ⟨rfl, o1.nilS⟩ ?_
  clear o1
  rintro i ⟨vl, x, ⟨⟩⟩ h' Z hi ⟨hx, o'⟩ hZ
  dsimp only at hx hZ o' ⊢
  subst hx
  unfold sh_milestoneref07_Out_L1
  simp only [pField_ptr]
  refine o'.load 1 rfl rfl ((hv o'.ext).len ?_)
  simp only [pBin_lss, ifV_dec]
  refine ⟨fun hlt => ?_, fun hge => ?_⟩
  · have hlt : i < g.arcs.length := by omega
    have ht := outsP_take (q := fun a => a.f == u) hlt
    have hol : (outsP (fun a => a.f == u) (g.arcs.take i) 0).length ≤ g.arcs.length := by
      rw [outsP_length]; exact Nat.le_trans List.countP_le_length (by simp; omega)
    refine o'.load 1 rfl rfl ((hv o'.ext).atF (j := 0) encA_len hlt (by decide) rfl ?_)
    simp only [pBin_eql, ifV_beq]
    refine ⟨fun e => ?_, fun e => ?_⟩
    · have e : (g.arcs[i]).f = u := by omega
      refine o'.app1 0 i rfl rfl (sizesOk_of rfl) encN_len encN_plain rfl (by decide) (by omega) fun v' h2 o2 => ?_
      unfold sh_milestoneref07_Out_k2
      rw [pBin_add, wI i (by omega)]
      refine hZ (v', I (i + 1 : Nat), ()) h2 hlt ⟨rfl, ?_⟩
      rw [ht, e, if_pos (by simp)]
      exact o2
    · have e : ¬ (g.arcs[i]).f = u := by omega
      unfold sh_milestoneref07_Out_k2
      rw [pBin_add, wI i (by omega)]
      refine hZ (vl, I (i + 1 : Nat), ()) h' hlt ⟨rfl, ?_⟩
      rw [ht, if_neg (by simpa using e), List.append_nil]
      exact o'
  · have : i = g.arcs.length := by omega
    subst this
    rw [List.take_length] at o'
    exact hK vl h' (o.frame (o'.sel [0] (by decide)))

/-- Are both rows alike? -/
theorem rints_ok {α : Type} {enc : α → List Value} {e : α → Int} {xs : List α} {va vb : Value} (he : ∀ a, enc a = [I (e a)]) (Ha : Vw enc 1 h va xs) (Hb : Vw enc 1 h vb xs) (hl : xs.length < 2 ^ 40) (hK : K (.bool true) h) : callS Tryz.prog F_milestoneref07_Ints [va, vb] h K := by
  refine callS_of (lk_milestoneref07_Ints _ _ ?_)
  unfold sh_milestoneref07_Ints
  refine Ha.len (Hb.len ?_)
  rw [pBin_neq, bne_self_eq_false, ifV_false]
  refine LoopH_count xs.length (fun i x h' => x.1 = I i ∧ h' = h) ⟨rfl, rfl⟩ ?_
  rintro i ⟨x, ⟨⟩⟩ h' Z hi ⟨hx, rfl⟩ hZ
  dsimp only at hx hZ ⊢
  subst hx
  unfold sh_milestoneref07_Ints_L1
  refine Ha.len ?_
  simp only [pBin_lss, ifV_dec]
  refine ⟨fun hlt => ?_, fun hge => hK⟩
  have hlt : i < xs.length := by omega
  refine Ha.at1 (e := fun a => I (e a)) he hlt (Hb.at1 (e := fun a => I (e a)) he hlt ?_)
  rw [pBin_neq, bne_self_eq_false, ifV_false, pBin_add, wI i (by omega)]
  exact hZ (I (i + 1 : Nat), ()) _ hlt ⟨rfl, rfl⟩

end
end Go.Proofs.YtoopkllfpmjnfaaGreatDoor

namespace Go.Proofs.YtoopkllfpmjnfaaGreatDoor
open Go Go.Mh
set_option linter.unusedVariables false

section
variable {h0 h : Heap} {L : List Res} {K : Value → Heap → Prop} {g : G} {v : Value}

set_option maxHeartbeats 4000000 in
theorem rcopy_ok (oL : Own h0 h L) (hR : g.Right) (H : RawV h v g) (hK : ∀ vx vy va h', Own h0 h' (xR vx g.X :: xR vy g.Y :: aR va g.arcs :: L) → K (.agg #[I g.n, vx, vy, va]) h') : callS Tryz.prog F_milestoneref07_Copy [v] h K := by
  obtain ⟨vx, vy, va, rfl, H⟩ := H
  refine callS_of (lk_milestoneref07_Copy _ ?_)
  unfold sh_milestoneref07_Copy
  have hx := hR.x
  have hy := hR.y
  have hm := hR.most
  have hmany := hR.many
  refine (Own.start h).box fun g1 h1 og => og.box fun t2 h2 o => ?_
  refine cutP_of (fun _ h' => ∃ vx' vy' va', Own h h' [cellR t2 [I g.n, vx', vy', va'] T_api_Raw, xR vx' g.X, xR vy' g.Y, aR va' g.arcs]) (fun J hJ => ?_) ?_
  · simp only [pField_ptr]
    have v1 := fun h' (x : Ext h h') => H.1.more x
    have v2 := fun h' (x : Ext h h') => H.2.1.more x
    have v3 := fun h' (x : Ext h h') => H.2.2.more x
    refine o.load 1 rfl rfl (o.load 1 rfl rfl (o.load 1 rfl rfl (o.load 1 rfl rfl ?_)))
    have fin : ∀ {h' : Heap} {vx' vy' va' : Value} (is : List Nat) {L' : List Res}, Own h h' L' → is.Nodup → (is.map fun i => L'.getD i nilR) = [cellR t2 [I g.n, vx', vy', va'] T_api_Raw, xR vx' g.X, xR vy' g.Y, aR va' g.arcs] → J () h' := by
      intro h' vx' vy' va' is L' o hn he
      exact hJ _ _ ⟨vx', vy', va', he ▸ o.sel is hn⟩
    clear hJ
    repeat' (first
      | rfl
      | refine o.load 1 rfl rfl ?_
      | refine o.load 2 rfl rfl ?_
      | refine o.load 3 rfl rfl ?_
      | refine o.load 4 rfl rfl ?_
      | refine o.build (enc := encI) (n := 1) (T := T_int64) ([] : List Int) rfl (sizesOk_of rfl) rfl fun w hh o => ?_
      | refine o.build (enc := encA) (n := 3) (T := T_api_Arc) ([] : List A) rfl (sizesOk_of rfl) rfl fun w hh o => ?_
      | refine o.app 0 rfl encI_len encI_plain rfl (v1 _ o.ext) (by decide) (by simp; omega) fun w hh o => ?_
      | refine o.app 1 rfl encI_len encI_plain rfl (v1 _ o.ext) (by decide) (by simp; omega) fun w hh o => ?_
      | refine o.app 2 rfl encI_len encI_plain rfl (v1 _ o.ext) (by decide) (by simp; omega) fun w hh o => ?_
      | refine o.app 0 rfl encI_len encI_plain rfl (v2 _ o.ext) (by decide) (by simp; omega) fun w hh o => ?_
      | refine o.app 1 rfl encI_len encI_plain rfl (v2 _ o.ext) (by decide) (by simp; omega) fun w hh o => ?_
      | refine o.app 2 rfl encI_len encI_plain rfl (v2 _ o.ext) (by decide) (by simp; omega) fun w hh o => ?_
      | refine o.app 0 rfl encA_len encA_plain rfl (v3 _ o.ext) (by decide) (by simp; omega) fun w hh o => ?_
      | refine o.app 1 rfl encA_len encA_plain rfl (v3 _ o.ext) (by decide) (by simp; omega) fun w hh o => ?_
      | refine o.app 2 rfl encA_len encA_plain rfl (v3 _ o.ext) (by decide) (by simp; omega) fun w hh o => ?_
      | with_reducible apply And.intro)
    all_goals (
      refine pBuild_ones (cs' := [_, _, _, _]) ?_ rfl rfl ?_
      · intro p hp
        simp at hp
        rcases hp with rfl | rfl | rfl | rfl
        · rfl
        all_goals first | exact (o.vw 0 rfl).one | exact (o.vw 1 rfl).one | exact (o.vw 2 rfl).one
      · refine o.st (l := [_, _, _, _]) 3 rfl rfl rfl rfl rfl ?_ fun hh o => ?_
        · intro u hu
          simp at hu
          rcases hu with rfl | rfl | rfl | rfl
          · rfl
          all_goals first | exact (o.vw 0 rfl).plain | exact (o.vw 1 rfl).plain | exact (o.vw 2 rfl).plain
        · first
            | exact fin [3, 0, 1, 2] o (by decide) rfl
            | exact fin [3, 0, 2, 1] o (by decide) rfl
            | exact fin [3, 1, 0, 2] o (by decide) rfl
            | exact fin [3, 1, 2, 0] o (by decide) rfl
            | exact fin [3, 2, 0, 1] o (by decide) rfl
            | exact fin [3, 2, 1, 0] o (by decide) rfl)
  · rintro ⟨⟩ h' ⟨vx', vy', va', o'⟩
    exact o'.ldN 0 rfl rfl rfl (hK vx' vy' va' h' (oL.frame (o'.sel [1, 2, 3] (by decide))))

end
end Go.Proofs.YtoopkllfpmjnfaaGreatDoor

namespace Go.Proofs.YtoopkllfpmjnfaaGreatDoor
open Go Go.Mh
set_option linter.unusedVariables false

section
variable {h0 h : Heap} {L : List Res} {K : Value → Heap → Prop} {g : G} {v : Value}

theorem turned2_step {l : List A} {i : Nat} (hi : i < l.length) : (((l.take i).map A.swap ++ l.drop i).set i (l[i]).swap) = (l.take (i + 1)).map A.swap ++ l.drop (i + 1) := by
  rw [List.set_append_right _ _ (by simp; omega)]
  have e : i - ((l.take i).map A.swap).length = 0 := by simp; omega
  rw [e, List.drop_eq_getElem_cons hi, List.set_cons_zero, List.take_succ_eq_append_getElem hi, List.map_append, List.append_assoc]; rfl

/-- The reference's graph turned round. -/
theorem rturned_ok (o : Own h0 h L) (hR : g.Right) (H : RawV h v g) (hK : ∀ vx vy va h', Own h0 h' (xR vx g.X :: xR vy g.Y :: aR va g.turned.arcs :: L) → K (.agg #[I g.n, vx, vy, va]) h') : callS Tryz.prog F_milestoneref07_Turned [v] h K := by
  obtain ⟨vx, vy, va, rfl, H⟩ := H
  refine callS_of (lk_milestoneref07_Turned _ ?_)
  unfold sh_milestoneref07_Turned
  have hmany := hR.many
  refine (Own.start h).box fun r h1 o1 => o1.box fun e h2 o2 => o2.ldN 1 rfl rfl rfl ?_
  refine rcopy_ok o2 hR ⟨vx, vy, va, rfl, H.more o2.ext⟩ fun vx1 vy1 va1 h3 o3 => ?_
  have p0 := (o3.vw 0 rfl).plain
  have p1 := (o3.vw 1 rfl).plain
  have p2 := (o3.vw 2 rfl).plain
  have pl : ∀ u ∈ [I g.n, vx1, vy1, va1], Mh.plainCell u = true := by
    intro u hu
    simp at hu
    rcases hu with rfl | rfl | rfl | rfl
    · rfl
    · exact p0
    · exact p1
    · exact p2
  refine o3.box fun w hb ob => ob.st 0 rfl rfl rfl rfl rfl pl fun h4 o4 => ?_
  have hv : ∀ {h' : Heap}, Ext h h' → Vw encA 3 h' va g.arcs := fun x => H.2.2.more x
  refine LoopH_count g.arcs.length (fun i x h' => x.1 = I i ∧ Own h h' [cellR w [I g.n, vx1, vy1, va1] T_api_Raw, xR vx1 g.X, xR vy1 g.Y, aR va1 ((g.arcs.take i).map A.swap ++ g.arcs.drop i), cellR e [I 0, sl0, sl0, sl0] T_api_Raw, cellR r [I g.n, vx, vy, va] T_api_Raw]) ⟨rfl, o4⟩ ?_
  clear o4 ob o3 o2 o1
  rintro i ⟨x, ⟨⟩⟩ h' Z hi ⟨hx, o'⟩ hZ
  dsimp only at hx hZ ⊢
  subst hx
  unfold sh_milestoneref07_Turned_L1
  simp only [pField_ptr]
  have hlen : ((g.arcs.take i).map A.swap ++ g.arcs.drop i).length = g.arcs.length := by simp; omega
  refine o'.load 0 rfl rfl ((o'.vw 3 rfl).len ?_)
  rw [hlen]
  simp only [pBin_lss, ifV_dec]
  refine ⟨fun hlt => ?_, fun hge => ?_⟩
  · have hlt : i < g.arcs.length := by omega
    have hll : i < ((g.arcs.take i).map A.swap ++ g.arcs.drop i).length := by omega
    have hget : ((g.arcs.take i).map A.swap ++ g.arcs.drop i)[i] = g.arcs[i] := by
      rw [List.getElem_append_right (by simp; omega)]
      simp only [List.getElem_drop]
      congr 1; simp; omega
    refine o'.load 0 rfl rfl (o'.load 5 rfl rfl ?_)
    refine (hv o'.ext).atF (j := 1) encA_len hlt (by decide) rfl ?_
    refine o'.setF (a := ⟨g.arcs[i].t, g.arcs[i].t, g.arcs[i].w⟩) 3 rfl encA_len hll (f := 0) (by decide) rfl rfl (by rw [hget]; rfl) fun h3 o3 => ?_
    refine o3.load 0 rfl rfl (o3.load 5 rfl rfl ?_)
    refine (hv o3.ext).atF (j := 0) encA_len hlt (by decide) rfl ?_
    refine o3.setF (a := (g.arcs[i]).swap) 3 rfl encA_len (by simpa using hll) (f := 1) (by decide) rfl rfl (by simp [encA, A.swap]) fun h4 o4 => ?_
    rw [pBin_add, wI i (by omega)]
    refine hZ (I (i + 1 : Nat), ()) h4 hlt ⟨rfl, ?_⟩
    simp only [List.set_set] at o4
    rw [← turned2_step hlt]
    exact o4
  · have : i = g.arcs.length := by omega
    subst this
    rw [List.take_length, List.drop_length, List.append_nil] at o'
    refine o'.ldN 0 rfl rfl rfl (o'.st 4 rfl rfl rfl rfl rfl pl fun h2 o2 => o2.ldN 4 rfl rfl rfl ?_)
    exact hK vx1 vy1 va1 h2 (o.frame (o2.sel [1, 2, 3] (by decide)))

end
end Go.Proofs.YtoopkllfpmjnfaaGreatDoor

namespace Go.Proofs.YtoopkllfpmjnfaaGreatDoor
open Go Go.Mh
set_option linter.unusedVariables false

def encB (x : Bool) : List Value := [.bool x]
theorem encB_len (x : Bool) : (encB x).length = 1 := rfl
/-- Which nodes are closed. -/
def clB (order : List Nat) (n : Nat) : List Bool := (List.range n).map fun v => order.contains v
theorem clB_len {order : List Nat} {n : Nat} : (clB order n).length = n := by simp [clB]
theorem clB_get {order : List Nat} {n v : Nat} (hv : v < n) : (clB order n)[v]'(by rw [clB_len]; exact hv) = order.contains v := by simp [clB]
theorem clB_set {order : List Nat} {n v : Nat} (hv : v < n) : (clB order n).set v true = clB (order ++ [v]) n := by
  apply List.ext_getElem (by simp [clB])
  intro i h1 h2
  have hi : i < n := by rw [clB_len] at h2; exact h2
  rw [clB_get hi, List.getElem_set]
  split
  · rename_i e; subst e; simp
  · rename_i e; rw [clB_get hi]; simp; intro e'; exact absurd e'.symm e
theorem clB_nil {n : Nat} : clB [] n = List.replicate n false := by
  apply List.ext_getElem (by simp [clB]) fun i h1 h2 => by simp [clB]

section
variable {h0 h : Heap} {L : List Res} {K : Value → Heap → Prop} {g : G} {v : Value}

abbrev refL (x5 t4 g2 : Nat) (F : Nat → Prop) (r n : Nat) (sd sa so vc vx vy va : Value) (hp : List HE) (st : FS) : List Res :=
  [cellR x5 [sd, sa, so] T_milestoneref10_Tree, xR sd st.dist, slR encI 1 T_int sa st.arc, slR encN 1 T_int so st.order, qR F r hp n, slR encB 1 T_bool vc (clB st.order n), cellR t4 [sl0, sl0, sl0] T_milestoneref10_Tree, cellR g2 [I n, vx, vy, va] T_api_Raw]

theorem rscan_hp {n : Nat} {B : Int} {s : FS} (inv : FInv n B s) : s.hp.length ≤ n := by
  have : (s.hp.map (·.1.toNat)).length ≤ n := nodup_le (by
    have : s.hp.map (·.1.toNat) = (s.hp.map (·.1)).map Int.toNat := by simp
    rw [this, List.nodup_iff_pairwise_ne, List.pairwise_map]
    refine (List.nodup_iff_pairwise_ne.1 inv.ids).imp_of_mem fun {x y} hx hy hne e => hne ?_
    obtain ⟨p, hp, rfl⟩ := List.mem_map.1 hx
    obtain ⟨q, hq, rfl⟩ := List.mem_map.1 hy
    obtain ⟨u, e1, _⟩ := inv.ent p hp
    obtain ⟨w, e2, _⟩ := inv.ent q hq
    rw [e1, e2] at e ⊢
    have e' : u = w := by simpa using e
    rw [e']) (fun x hx => by
    obtain ⟨p, hp, rfl⟩ := List.mem_map.1 hx
    obtain ⟨u, e1, e2, _⟩ := inv.ent p hp
    rw [e1]; simpa using e2)
  simpa using this

theorem rloop_ok {x5 t4 g2 r : Nat} {sd sa vc vx vy va : Value} {fin : FS} {h' : Heap} (hR : g.Right) (H : RawL h vx vy va g)
    (hK : ∀ so h', Own h h' [xR sd fin.dist, slR encI 1 T_int sa fin.arc, slR encN 1 T_int so fin.order] → K (.agg #[sd, sa, so]) h')
    (J : ∃ (st : FS) (so : Value) (F : Nat → Prop), FS.run g.arcs g.out A.t (g.n + 1 - st.order.length) st = fin ∧ FInv g.n (st.order.length * W) st ∧ Own h h' (refL x5 t4 g2 F r g.n sd sa so vc vx vy va st.hp st)) :
    LoopH (σ := Vals []) (fun x hh ZZ => sh_milestoneref10_From_L3 Tryz.prog (ptr r) vc (ptr x5) (ptr g2) (ptr t4) K hh (fun hz => ZZ () hz)) () h' := by
  have hmost := hR.most
  have hmany := hR.many
  have hv : ∀ {h' : Heap}, Ext h h' → Vw encA 3 h' va g.arcs := fun x => H.2.2.more x
  obtain ⟨st0, J⟩ := J
  refine LoopH_down (k0 := g.n + 1 - st0.order.length) (fun k x h' => ∃ (st : FS) (so : Value) (F : Nat → Prop), k = g.n + 1 - st.order.length ∧ FS.run g.arcs g.out A.t (g.n + 1 - st.order.length) st = fin ∧ FInv g.n (st.order.length * W) st ∧ Own h h' (refL x5 t4 g2 F r g.n sd sa so vc vx vy va st.hp st))
    (by obtain ⟨so, F, J⟩ := J; exact ⟨st0, so, F, rfl, J⟩) ?_
  clear J st0 h'
  rintro k ⟨⟩ h' Z ⟨st, so, F, hk, hrun, inv, o⟩ hZ

  unfold sh_milestoneref10_From_L3
  refine qo_len o 4 rfl ?_
  rw [pBin_gtr]
  have hhp := rscan_hp inv
  by_cases hne : st.hp = []
  · rw [hne, show decide ((0 : Int) < ([] : List HE).length) = false from rfl, ifV_false]
    have hf : st = fin := by
      rw [← hrun]
      cases g.n + 1 - st.order.length with
      | zero => rfl
      | succ k => simp only [FS.run, hne, least]
    subst hf
    refine o.ldN 0 rfl rfl rfl (o.st 6 rfl rfl rfl rfl rfl ?_ fun h2 o2 => o2.ldN 6 rfl rfl rfl (hK so h2 (o2.sel [1, 2, 3] (by decide))))
    intro u hu
    simp at hu
    rcases hu with rfl | rfl | rfl
    · exact (o.vw 1 rfl).plain
    · exact (o.vw 2 rfl).plain
    · exact (o.vw 3 rfl).plain
  · have hpos : 0 < st.hp.length := List.length_pos_iff.2 hne
    rw [show decide ((0 : Int) < st.hp.length) = true from decide_eq_true (by omega), ifV_true]
    refine qo_pop o 4 rfl hne fun p hl F1 h1 o1 => ?_
    simp only [pExt0, pExt1, pExt2]
    have hm := (least_spec hl).1
    obtain ⟨u, hu, hun, hno, hk0, hkB⟩ := inv.ent p hm
    obtain ⟨pv, key⟩ := p
    dsimp only at hu hk0 hkB o1 ⊢
    subst hu
    have hroom := inv.room hne
    have hB : (st.order.length : Int) * W + W ≤ 16777216 * W := by
      have : (st.order.length : Int) + 1 ≤ 16777216 := by omega
      have := Int.mul_le_mul_of_nonneg_right this (show (0 : Int) ≤ W by decide)
      rw [Int.add_mul, Int.one_mul] at this
      exact this
    refine o1.setAt (a := true) 5 rfl encB_len (by simp [encB, Mh.plainCell]) (by rw [clB_len]; exact hun) rfl fun h2 o2 => ?_
    rw [clB_set hun] at o2
    simp only [pField_ptr]
    refine o2.load 0 rfl rfl (o2.setI 1 rfl (by rw [inv.dl]; exact hun) fun h3 o3 => o3.load 0 rfl rfl ?_)
    refine o3.app1 3 u rfl rfl (sizesOk_of rfl) encN_len encN_plain rfl (by decide) (by omega) fun so1 h4 o4 => ?_
    refine o4.st1 0 rfl rfl rfl (o4.vw 3 rfl).one (o4.vw 3 rfl).plain fun h5 o5 => o5.ldN 7 rfl rfl rfl ?_
    refine rout_ok o5 hR ⟨vx, vy, va, rfl, H.more o5.ext⟩ fun vl h6 o6 => ?_
    obtain ⟨st1, hst1⟩ : ∃ st1, st1 = st.pop u key := ⟨_, rfl⟩
    have hW : (0 : Int) ≤ W := by decide
    have inv1 : FInv g.n (st.order.length * W + W) st1 := by subst hst1; exact (inv.popped hm).mono (by omega)
    have hord : st1.order.length = st.order.length + 1 := by subst hst1; simp [FS.pop]
    have hids : ∀ i ∈ g.out u, i < g.arcs.length := fun i => out_lt
    have hscan : ∀ i, FInv g.n (st.order.length * W + W) (st1.scan g.arcs A.t key ((g.out u).take i)) := fun i =>
      FInv.scan (fun a ha => ⟨(hR.ends a ha).2.1, by have := (hR.ends a ha).2.2; show (a.w : Int) ≤ 2147483647; omega⟩) hk0 (by omega) (fun j hj => hids j (List.mem_of_mem_take hj)) inv1
    have hol : (g.out u).length ≤ g.arcs.length := outsP_short
    refine LoopH_count (g.out u).length (fun i x h' => x.1 = I i ∧ ∃ F, Own h h' (slR encN 1 T_int vl (g.out u) :: refL x5 t4 g2 F r g.n sd sa so1 vc vx vy va (st1.scan g.arcs A.t key ((g.out u).take i)).hp (st1.scan g.arcs A.t key ((g.out u).take i)))) ⟨rfl, F1, by subst hst1; exact o6⟩ ?_
    clear o6 o5 o4 o3 o2 o1 o F1 F
    rintro i ⟨x, ⟨⟩⟩ h' Z2 hi ⟨hx, F, o⟩ hZ2
    dsimp only at hx hZ2 ⊢
    subst hx
    unfold sh_milestoneref10_From_L4
    refine (o.vw 0 rfl).len ?_
    simp only [pBin_lss, ifV_dec]
    refine ⟨fun hlt => ?_, fun hge => ?_⟩
    · have hlt : i < (g.out u).length := by omega
      have hil := hids _ (List.getElem_mem hlt)
      simp only [pField_ptr]
      refine o.load 8 rfl rfl ((o.vw 0 rfl).at1 (e := fun x : Nat => I x) (fun _ => rfl) hlt ((hv o.ext).atN encA_len hil ?_))
      have ea : arcAt g.arcs (g.out u)[i] = g.arcs[(g.out u)[i]] := by simp [arcAt, hil]
      have hsc := scan_take (l := g.arcs) (head := A.t) (key := key) (s := st1) hlt
      rw [ea] at hsc
      have ha := hR.ends _ (List.getElem_mem hil)
      have invs := hscan i
      generalize st1.scan g.arcs A.t key ((g.out u).take i) = s at o hsc invs
      have hps := rscan_hp invs
      generalize g.arcs[(g.out u)[i]] = a at ha hsc
      have e1 : IntKind.i64.wrap (key + (a.w : Int)) = key + a.w := by
        have hW2 : (16777216 : Int) * W ≤ 2 ^ 62 := by decide
        exact w64 (by omega) (by have : (W : Int) = 2147483647 := rfl
                                 omega)
      have hcl : (clB s.order g.n)[a.t]'(by rw [clB_len]; exact ha.2.1) = s.order.contains a.t := clB_get ha.2.1
      have next : ∀ {h2 : Heap} {F : Nat → Prop} {b : Nat} {cs : List Value}, Own h h2 (cellR b cs T_api_Arc :: slR encN 1 T_int vl (g.out u) :: refL x5 t4 g2 F r g.n sd sa so1 vc vx vy va (s.reach a.t (g.out u)[i] (key + a.w)).hp (s.reach a.t (g.out u)[i] (key + a.w))) →
          sh_milestoneref10_From_k5 Tryz.prog (I i) (fun a0 hz => Z2 (a0, ()) hz) h2 := fun {h2 F b cs} o2 => by
        unfold sh_milestoneref10_From_k5
        rw [pBin_add, wI i (by omega)]
        exact hZ2 (I (i + 1 : Nat), ()) _ hlt ⟨rfl, F, by rw [hsc]; exact o2.tail⟩
      refine o.box fun b h1 o1 => o1.st 0 rfl rfl rfl rfl rfl (encA_plain _) fun h2 o2 => o2.load 0 rfl rfl ?_
      refine (o2.vw 7 rfl).at1 (e := fun x : Bool => .bool x) (fun _ => rfl) (by rw [clB_len]; exact ha.2.1) ?_
      rw [hcl]
      by_cases hc : a.t ∈ s.order
      · rw [show s.order.contains a.t = true by simpa using hc, ifV_true]
        have : s.reach a.t (g.out u)[i] (key + a.w) = s := by simp [FS.reach, hc]
        rw [this] at next
        exact next o2
      · rw [show s.order.contains a.t = false by simpa using hc, ifV_false]
        refine o2.load 0 rfl rfl (qo_key o2 6 rfl ?_)
        simp only [pExt0, pExt1]
        cases hl : lookH s.hp a.t with
        | none =>
          have : s.reach a.t (g.out u)[i] (key + a.w) = { s with hp := ((a.t : Int), key + (a.w : Int)) :: s.hp, arc := s.arc.set a.t ((g.out u)[i] : Nat) } := by simp [FS.reach, hc, hl]
          rw [this] at next
          rw [Option.isSome_none, pUn_not, Bool.not_false, ifV_true]
          refine o2.load 0 rfl rfl (o2.load 0 rfl rfl ?_)
          rw [pBin_add, e1]
          refine qo_push o2 6 rfl (by omega) (lookH_none.1 hl) ha.2.1 fun F' h3 o3 => ?_
          refine o3.load 2 rfl rfl (o3.load 0 rfl rfl ((o3.vw 1 rfl).at1 (e := fun x : Nat => I x) (fun _ => rfl) hlt ?_))
          refine o3.setI 4 rfl (by rw [invs.al]; exact ha.2.1) fun h4 o4 => ?_
          exact next o4
        | some was =>
          rw [Option.isSome_some, pUn_not, Bool.not_true, ifV_false]
          refine o2.load 0 rfl rfl ?_
          rw [pBin_add, e1, pBin_gtr]
          simp only [Option.getD_some, ifV_dec]
          refine ⟨fun hlt' => ?_, fun hge => ?_⟩
          · have : s.reach a.t (g.out u)[i] (key + a.w) = { s with hp := ((a.t : Int), key + (a.w : Int)) :: s.hp.erase ((a.t : Int), was), arc := s.arc.set a.t ((g.out u)[i] : Nat) } := by
              simp only [FS.reach, hc, if_false, hl]; rw [if_neg (by omega)]
            rw [this] at next
            refine o2.load 0 rfl rfl (o2.load 0 rfl rfl ?_)
            rw [pBin_add, e1]
            refine qo_lower o2 6 rfl (lookH_some hl) ha.2.1 (by omega) fun F' h3 o3 => ?_
            refine o3.load 2 rfl rfl (o3.load 0 rfl rfl ((o3.vw 1 rfl).at1 (e := fun x : Nat => I x) (fun _ => rfl) hlt ?_))
            refine o3.setI 4 rfl (by rw [invs.al]; exact ha.2.1) fun h4 o4 => ?_
            exact next o4
          · have : s.reach a.t (g.out u)[i] (key + a.w) = s := by
              simp only [FS.reach, hc, if_false, hl]; rw [if_pos (by omega)]
            rw [this] at next
            exact next o2
    · have : i = (g.out u).length := by omega
      subst this
      rw [List.take_length] at o
      have hso := @scan_order g.arcs A.t key (g.out u) st1
      have inv2 : FInv g.n ((st1.scan g.arcs A.t key (g.out u)).order.length * W) (st1.scan g.arcs A.t key (g.out u)) := by
        have := hscan (g.out u).length
        rw [List.take_length] at this
        refine this.mono ?_
        rw [hso.1, hord]
        have : ((st.order.length + 1 : Nat) : Int) * W = st.order.length * W + W := by
          rw [Int.natCast_add, Int.add_mul]; rfl
        omega
      have hrun2 : FS.run g.arcs g.out A.t (g.n + 1 - (st1.scan g.arcs A.t key (g.out u)).order.length) (st1.scan g.arcs A.t key (g.out u)) = fin := by
        rw [← hrun, hso.1, hord]
        rw [show g.n + 1 - st.order.length = (g.n + 1 - (st.order.length + 1)) + 1 by omega]
        simp only [FS.run, hl, Int.toNat_natCast]
        rw [← hst1]
      exact hZ () h' _ (by rw [hso.1, hord]; omega) ⟨_, so1, F, rfl, hrun2, inv2, o.tail⟩

end
end Go.Proofs.YtoopkllfpmjnfaaGreatDoor

namespace Go.Proofs.YtoopkllfpmjnfaaGreatDoor
open Go Go.Mh
set_option linter.unusedVariables false

section
variable {h0 h : Heap} {L : List Res} {K : Value → Heap → Prop} {g : G} {v : Value}

theorem rfrom_ok {s : Int} (hR : g.Right) (H : RawV h v g) (hK : TreeK h (g.fromI s) K) : callS Tryz.prog F_milestoneref10_From [v, I s] h K := by
  obtain ⟨vx, vy, va, rfl, H⟩ := H
  refine callS_of (lk_milestoneref10_From _ _ ?_)
  unfold sh_milestoneref10_From
  have hmost := hR.most
  refine (Own.start h).box fun g2 h1 o1 => o1.box fun t4 h2 o2 => o2.box fun x5 h3 o3 => ?_
  have none : ¬ (0 ≤ s ∧ s < g.n) → sh_milestoneref10_From_k1 Tryz.prog (ptr x5) (ptr t4) K h3 := fun hs => by
    unfold sh_milestoneref10_From_k1
    rw [G.fromI, if_neg hs] at hK
    exact o3.ldN 0 rfl rfl rfl (o3.st (l := [sl0, sl0, sl0]) 1 rfl rfl rfl rfl rfl (by simp) fun h4 o4 => o4.ldN 1 rfl rfl rfl (hK sl0 sl0 sl0 h4 ((o4.nilS.nilS.nilS).sel [0, 1, 2] (by decide))))
  simp only [pBin_lss, ifV_dec, pField_ptr]
  refine ⟨fun e => none (by omega), fun h0 => o3.load 2 rfl rfl ?_⟩
  simp only [pBin_geq, ifV_dec]
  refine ⟨fun e => none (by omega), fun h1' => o3.load 2 rfl rfl ?_⟩
  obtain ⟨s, rfl⟩ := Int.eq_ofNat_of_zero_le (show 0 ≤ s by omega)
  have hs : s < g.n := by omega
  have hK : TreeK h (g.from s) K := by rw [G.fromI, if_pos (by omega)] at hK; exact hK
  refine o3.make (enc := encB) (n := 1) (a := false) rfl (by omega) (by omega) fun vc h4 o4 => ?_
  refine LoopH_count g.n (fun i x h' => x.1 = I i ∧ ∃ sd sa, Own h h' [cellR x5 [sd, sa, sl0] T_milestoneref10_Tree, xR sd (List.replicate i far), slR encI 1 T_int sa (List.replicate i (-1)), slR encB 1 T_bool vc (List.replicate g.n false), cellR t4 [sl0, sl0, sl0] T_milestoneref10_Tree, cellR g2 [I g.n, vx, vy, va] T_api_Raw])
    ⟨rfl, sl0, sl0, (o4.nilS (enc := encI) (n := 1) (T := T_int64)).nilS (enc := encI) (n := 1) (T := T_int) |>.sel [3, 1, 0, 2, 4, 5] (by decide)⟩ ?_
  clear none o4 o3 o2 o1
  rintro i ⟨x, ⟨⟩⟩ h' Z hi ⟨hx, sd, sa, o⟩ hZ
  dsimp only at hx hZ ⊢
  subst hx
  unfold sh_milestoneref10_From_L2
  simp only [pField_ptr]
  refine o.load 5 rfl rfl ?_
  simp only [pBin_lss, ifV_dec]
  refine ⟨fun hlt => o.load 0 rfl rfl ?_, fun hge => o.load 5 rfl rfl ?_⟩
  · refine o.app1 1 far rfl rfl (sizesOk_of rfl) encI_len encI_plain rfl (by decide) (by simp; omega) fun sd' h2 o2 => ?_
    refine o2.st1 0 rfl rfl rfl (o2.vw 1 rfl).one (o2.vw 1 rfl).plain fun h3 o3 => o3.load 0 rfl rfl ?_
    refine o3.app1 2 (-1) rfl rfl (sizesOk_of rfl) encI_len encI_plain rfl (by decide) (by simp; omega) fun sa' h4 o4 => ?_
    refine o4.st1 0 rfl rfl rfl (o4.vw 2 rfl).one (o4.vw 2 rfl).plain fun h5 o5 => ?_
    rw [pBin_add, wI i (by omega)]
    refine hZ (I (i + 1 : Nat), ()) h5 (by omega) ⟨rfl, sd', sa', ?_⟩
    rw [List.replicate_succ', List.replicate_succ']
    exact o5
  · have : i = g.n := by omega
    subst this
    refine qo_new o fun F r h2 o2 => ?_
    refine qo_push o2 0 rfl (by simp) (by simp) hs fun F' h3 o3 => ?_
    refine rloop_ok (fin := FS.run g.arcs g.out A.t (g.n + 1) (FS.start g.n s)) hR H (fun so h' o' => hK sd sa so h' o') ⟨FS.start g.n s, sl0, F', rfl, (FInv.start hs).mono (by simp [FS.start]), ?_⟩
    have o4 := ((o3.nilS (enc := encN) (n := 1) (T := T_int)).sel [2, 3, 4, 0, 1, 5, 6, 7] (by decide))
    rw [show List.replicate g.n false = clB (FS.start g.n s).order g.n from clB_nil.symm] at o4
    exact o4

theorem rto_ok {s : Int} (hR : g.Right) (H : RawV h v g) (hK : TreeK h (g.toI s) K) : callS Tryz.prog F_milestoneref10_To [v, I s] h K := by
  obtain ⟨vx, vy, va, rfl, H⟩ := H
  refine callS_of (lk_milestoneref10_To _ _ ?_)
  unfold sh_milestoneref10_To
  refine (Own.start h).box fun g2 h1 o1 => o1.box fun t4 h2 o2 => o2.ldN 1 rfl rfl rfl ?_
  refine rturned_ok o2 hR ⟨vx, vy, va, rfl, H.more o2.ext⟩ fun wx wy wa h3 o3 => ?_
  refine rfrom_ok (g := g.turned) (s := s) hR.turned ⟨wx, wy, wa, rfl, o3.vw 0 rfl, o3.vw 1 rfl, o3.vw 2 rfl⟩ fun sd sa so h4 o4 => ?_
  rw [turned_from] at o4
  have o5 := o3.frame o4
  refine o5.st 6 rfl rfl rfl rfl rfl ?_ fun h6 o6 => o6.ldN 6 rfl rfl rfl (hK sd sa so h6 (o6.sel [0, 1, 2] (by decide)))
  intro u hu
  simp at hu
  rcases hu with rfl | rfl | rfl
  · exact (o5.vw 0 rfl).plain
  · exact (o5.vw 1 rfl).plain
  · exact (o5.vw 2 rfl).plain

end
end Go.Proofs.YtoopkllfpmjnfaaGreatDoor

namespace Go.Proofs.YtoopkllfpmjnfaaGreatDoor
open Go Go.Mh
set_option linter.unusedVariables false

theorem row_nI {l : List Nat} : row encN l = row encI (nI l) := by
  unfold row nI
  rw [List.flatMap_map]
  rfl
theorem vw_nI {h : Heap} {v : Value} {l : List Nat} (H : Vw encN 1 h v l) : Vw encI 1 h v (nI l) := by
  obtain ⟨bl, base, cap, rfl, hc, H⟩ := H
  refine ⟨bl, base, cap, by rw [nI_len], by rw [nI_len]; exact hc, ?_⟩
  rcases H with ⟨rfl, H⟩ | ⟨o, pre, post, T, fz, h1, h2, h3⟩
  · exact .inl ⟨rfl, H⟩
  · exact .inr ⟨o, pre, post, T, fz, h1, by rw [← row_nI]; exact h2, h3⟩
theorem vw_nN {h : Heap} {v : Value} {l : List Nat} (H : Vw encI 1 h v (nI l)) : Vw encN 1 h v l := by
  obtain ⟨bl, base, cap, rfl, hc, H⟩ := H
  rw [nI_len] at *
  refine ⟨bl, base, cap, rfl, hc, ?_⟩
  rcases H with ⟨e, H⟩ | ⟨o, pre, post, T, fz, h1, h2, h3⟩
  · exact .inl ⟨by cases l with
      | nil => rfl
      | cons a l => simp [nI] at e, H⟩
  · exact .inr ⟨o, pre, post, T, fz, h1, by rw [row_nI]; exact h2, h3⟩

section
variable {h0 h : Heap} {L : List Res} {K : Value → Heap → Prop} {g : G} {vx vy va vl : Value} {l : List Int}

theorem rthere16_ok {z : Int} (hK : ∀ h', Ext h h' → K (.bool (decide (0 ≤ z ∧ z < g.n))) h') : callS Tryz.prog F_milestoneref16_there [.agg #[I g.n, vx, vy, va], I z] h K := by
  refine callS_of (lk_milestoneref16_there _ _ ?_)
  unfold sh_milestoneref16_there
  refine (Own.start h).box fun g2 h1 o1 => ?_
  have o1 : Own h h1 [cellR g2 [I g.n, vx, vy, va] T_api_Raw] := o1
  rw [pBin_geq, ifV_dec]
  refine ⟨fun h1' => ?_, fun h1' => ?_⟩
  · simp only [pField_ptr]
    refine o1.load 0 rfl rfl ?_
    rw [pBin_lss, show decide (z < g.n) = decide (0 ≤ z ∧ z < g.n) by rw [decide_eq_decide]; exact ⟨fun h => ⟨h1', h⟩, fun h => h.2⟩]
    exact hK _ o1.ext
  · rw [show decide (0 ≤ z ∧ z < g.n) = false from decide_eq_false fun h => h1' h.1] at hK
    exact hK _ o1.ext

theorem rin16_ok {z : Int} (Hl : Vw encI 1 h vl l) (hl : l.length < 2 ^ 40) (hK : K (.bool (decide (z ∈ l))) h) : callS Tryz.prog F_milestoneref16_in [vl, I z] h K := by
  refine callS_of (lk_milestoneref16_in _ _ ?_)
  unfold sh_milestoneref16_in
  refine LoopH_count l.length (fun i x h' => x.1 = I i ∧ h' = h ∧ z ∉ l.take i) ⟨rfl, rfl, by simp⟩ ?_
  rintro i ⟨x, ⟨⟩⟩ h' Z hi ⟨hx, rfl, hno⟩ hZ
  dsimp only at hx hZ ⊢
  subst hx
  unfold sh_milestoneref16_in_L1
  refine Hl.len ?_
  rw [pBin_lss, ifV_dec]
  refine ⟨fun hlt => ?_, fun hge => ?_⟩
  · have hlt : i < l.length := by omega
    refine Hl.atI hlt ?_
    rw [pBin_eql, ifV_beq]
    refine ⟨fun he => ?_, fun he => ?_⟩
    · rw [decide_eq_true (show z ∈ l by rw [← he]; exact List.getElem_mem hlt)] at hK
      exact hK
    · rw [pBin_add, wI i (by omega)]
      refine hZ (_, ()) _ hlt ⟨rfl, rfl, ?_⟩
      rw [List.take_succ_eq_append_getElem hlt, List.mem_append, List.mem_singleton]
      rintro (h | h)
      · exact hno h
      · exact he h.symm
  · have : i = l.length := by omega
    subst this
    rw [List.take_length] at hno
    rw [decide_eq_false hno] at hK
    exact hK

theorem bndZ_nil {r v : Int} : bndZ g [] r v = 0 := by
  unfold bndZ
  split
  · rfl
  · rfl

theorem rbound16_ok {z v : Int} (hR : g.Right) (H : RawL h vx vy va g) (Hl : Vw encI 1 h vl l) (hl : l.length < 2 ^ 40) (hK : ∀ h', Ext h h' → K (I (bndZ g l z v)) h') : callS Tryz.prog F_milestoneref16_Bound [.agg #[I g.n, vx, vy, va], vl, I z, I v] h K := by
  refine callS_of (lk_milestoneref16_Bound _ _ _ _ ?_)
  unfold sh_milestoneref16_Bound
  refine (Own.start h).box fun g4 h1 o1 => ?_
  have o1 : Own h h1 [cellR g4 [I g.n, vx, vy, va] T_api_Raw] := o1
  refine LoopH_count l.length (fun i x h' => x.1 = I (bndZ g (l.take i) z v) ∧ x.2.1 = I i ∧ Own h h' [cellR g4 [I g.n, vx, vy, va] T_api_Raw]) ⟨by rw [List.take_zero, bndZ_nil], rfl, o1⟩ ?_
  clear o1
  rintro i ⟨x, y, ⟨⟩⟩ h2 Z hi ⟨hx, hy, o⟩ hZ
  dsimp only at hx hy hZ ⊢
  subst hx hy
  unfold sh_milestoneref16_Bound_L1
  refine (Hl.more o.ext).len ?_
  rw [pBin_lss, ifV_dec]
  refine ⟨fun hlt => ?_, fun hge => ?_⟩
  case refine_2 =>
    have : i = l.length := by omega
    subst this
    rw [List.take_length]
    exact hK h2 o.ext
  have hlt : i < l.length := by omega
  refine o.ldN (cs' := [I g.n, vx, vy, va]) 0 rfl rfl rfl (rthere16_ok (g := g) fun h3 x3 => ?_)
  replace o := o.more x3
  have none : ¬ ((0 ≤ z ∧ z < g.n) ∧ 0 ≤ v ∧ v < g.n) → ∀ h', Own h h' [cellR g4 [I g.n, vx, vy, va] T_api_Raw] → sh_milestoneref16_Bound_k3 Tryz.prog K (I (bndZ g (l.take i) z v)) h' := fun hn h' o' => by
    have e : ∀ l', bndZ g l' z v = 0 := fun l' => by unfold bndZ; rw [if_neg hn]
    rw [e]
    rw [e] at hK
    exact hK h' o'.ext
  rw [ifV_dec]
  refine ⟨fun c1 => ?_, fun c1 => none (fun h => c1 h.1) _ o⟩
  refine o.ldN (cs' := [I g.n, vx, vy, va]) 0 rfl rfl rfl (rthere16_ok (g := g) fun h4 x4 => ?_)
  replace o := o.more x4
  rw [ifV_dec]
  refine ⟨fun c2 => ?_, fun c2 => none (fun h => c2 h.2) _ o⟩
  obtain ⟨s, rfl⟩ : ∃ s : Nat, z = s := Int.eq_ofNat_of_zero_le c1.1
  obtain ⟨u, rfl⟩ : ∃ s : Nat, v = s := Int.eq_ofNat_of_zero_le c2.1
  have e : ∀ l', bndZ g l' s u = bnd g (mksZ g.n l') s u := fun l' => by unfold bndZ; rw [if_pos ⟨c1, c2⟩, Int.toNat_natCast, Int.toNat_natCast]
  rw [e]
  simp only [e] at hZ
  have hs : s < g.n := by omega
  have hu : u < g.n := by omega
  have tk : l.take (i + 1) = l.take i ++ [l[i]] := List.take_succ_eq_append_getElem hlt
  have k2 : ∀ (b : Int) (h' : Heap), b = bnd g (mksZ g.n (l.take (i + 1))) s u → Own h h' [cellR g4 [I g.n, vx, vy, va] T_api_Raw] → sh_milestoneref16_Bound_k2 Tryz.prog (I i) (fun a0 a1 hz => Z (a0, (a1, ())) hz) (I b) h' := fun b h' hb o' => by
    unfold sh_milestoneref16_Bound_k2
    rw [pBin_add, wI i (by omega)]
    exact hZ (_, _, ()) h' hlt ⟨by rw [hb], rfl, o'⟩
  refine o.ldN (cs' := [I g.n, vx, vy, va]) 0 rfl rfl rfl ?_
  refine (Hl.more o.ext).atI hlt (rthere16_ok (g := g) fun h5 x5 => ?_)
  replace o := o.more x5
  have hat : ∀ {h' : Heap} {K' : Value → Prop}, Ext h h' → K' (I l[i]) → pIdx 1 vl (I i) fun t => pLoad h' t K' := fun x hk => (Hl.more x).atI hlt hk
  have hix : ∀ {h' : Heap} {K' : Value → Prop}, Ext h h' → (∀ b o, hcell h' ⟨b, o, .none⟩ = some (I l[i]) → K' (ptr b |> fun _ => .pointer (some ⟨b, o, .none⟩))) → pIdx 1 vl (I i) K' := fun x hk => (Hl.more x).idxI hlt hk
  rw [ifV_dec]
  rw [tk, mksZ_snoc] at k2
  generalize l[i] = m at hat hix k2
  refine ⟨fun c3 => ?_, fun c3 => k2 _ _ (by rw [if_neg c3, List.append_nil]) o⟩
  rw [if_pos c3, bnd_snoc] at k2
  obtain ⟨m, rfl⟩ : ∃ s : Nat, m = s := Int.eq_ofNat_of_zero_le c3.1
  rw [Int.toNat_natCast] at k2
  have hm : m < g.n := by omega
  refine o.ldN (cs' := [I g.n, vx, vy, va]) 0 rfl rfl rfl (hat o.ext ?_)
  refine o.ldN (cs' := [I g.n, vx, vy, va]) 0 rfl rfl rfl (hix o.ext fun b1 f1 q1 => pLoad_of rfl q1 ?_)
  refine rto_ok (g := g) hR ⟨vx, vy, va, rfl, H.more o.ext⟩ fun sd sa so h6 o6' => ?_
  have o6 := o.frame o6'
  refine ⟨o6.ldN (cs' := [I g.n, vx, vy, va]) 3 rfl rfl rfl rfl, pLoad_of rfl (hcell_more o6'.ext q1) rfl, ?_⟩
  show callS Tryz.prog F_milestoneref10_From _ h6 _
  refine rfrom_ok (g := g) hR ⟨vx, vy, va, rfl, H.more o6.ext⟩ fun fd fa fo h7 o7' => ?_
  have o7 := o6.frame o7'
  simp only [pPart1_agg]
  rw [show g.toI m = g.to m by simp [G.toI, hm], show g.fromI m = g.from m by simp [G.fromI, hm]] at o7
  have T1 := to_tree hR hm
  have T2 := from_tree hR hm
  have l1 := T1.ls.len
  have l2 := T2.ls.len
  have hr1 : s < (g.to m).dist.length := by rw [l1]; exact hs
  have hv1 : u < (g.to m).dist.length := by rw [l1]; exact hu
  have hr2 : s < (g.from m).dist.length := by rw [l2]; exact hs
  have hv2 : u < (g.from m).dist.length := by rw [l2]; exact hu
  have V1 := o7.vw 3 rfl
  have V2 := o7.vw 0 rfl
  refine V1.atI hr1 (V1.atI hv1 ?_)
  refine V2.idxI hr2 fun b3 f3 c3 => pLoad_of rfl c3 (V2.idxI hv2 fun b4 f4 c4 => pLoad_of rfl c4 ?_)
  rw [dAt_get hr2] at c3
  rw [dAt_get hv2] at c4
  rw [dAt_get hr1, dAt_get hv1, dAt_get hr2, dAt_get hv2]
  refine rlow04_ok (T1.ls.nonneg hs) (T1.ls.far_le hs) (T1.ls.nonneg hu) (T1.ls.far_le hu) ?_
  refine ⟨pLoad_of rfl c3 rfl, pLoad_of rfl c4 rfl, ?_⟩
  refine rlift04_ok (T2.ls.nonneg hs) (T2.ls.far_le hs) (T2.ls.nonneg hu) (T2.ls.far_le hu) ?_
  rw [pMax_int, pMax_int, maxE16, maxE16]
  exact k2 _ _ rfl (o7.sel [6] (by decide))

/-! ### Parts, sizes -/

theorem arc_rng {l : List A} {n s : Nat} {t : Tr} (T : TreeOf l A.f A.t n s t) {v : Nat} (hv : v < n) : t.arc.getD v (-1) = -1 ∨ ∃ i : Nat, t.arc.getD v (-1) = (i : Int) ∧ i < l.length := by
  by_cases ho : v ∈ t.order
  · by_cases hs : v = s
    · exact .inl (by rw [hs]; exact T.root)
    · obtain ⟨i, hi, e, _⟩ := T.arc v ho hs
      exact .inr ⟨i, e, hi⟩
  · exact .inl (T.none v hv ho).2

theorem arcF_at {l : List A} {i : Nat} {h : Heap} {va : Value} {K : Value → Prop} (H : Vw encA 3 h va l) (hi : i < l.length) (hK : K (I (arcAt l i).f)) : pIdx 3 va (I i) fun t => pField 0 t fun t' => pLoad h t' K := by
  refine H.atF encA_len (j := 0) (u := I (arcAt l i).f) hi (by decide) ?_ hK
  simp [encA, arcAt, List.getD_eq_getElem?_getD, hi]

theorem rpart16_ok {r v : Nat} {sd sa so : Value} (hR : g.Right) (hn : g.n ≤ 16) (hr : r < g.n) (hv : v ∈ (g.from r).order) (H : RawL h vx vy va g) (Hx : Vw encI 1 h sa (g.from r).arc)
    (hK : ∀ w p h', p.length ≤ g.n → p.Nodup → (∀ u, u ∈ p ↔ Desc (parA g r) v u) → Own h h' [slR encN 1 T_int w p] → K w h') : callS Tryz.prog F_milestoneref16_Part [.agg #[I g.n, vx, vy, va], .agg #[sd, sa, so], I v] h K := by
  refine callS_of (lk_milestoneref16_Part _ _ _ ?_)
  unfold sh_milestoneref16_Part
  have T := from_tree hR hr
  refine (Own.start h).box fun g3 h1 o1 => o1.box fun x4 h2 o2 => ?_
  have o2 : Own h h2 [cellR x4 [sd, sa, so] T_milestoneref10_Tree, cellR g3 [I g.n, vx, vy, va] T_api_Raw] := o2
  refine o2.build (enc := encN) (n := 1) [v] rfl (sizesOk_of rfl) rfl fun w3 h3 o3 => ?_
  clear o1 o2
  refine LoopH_count g.n (fun i x h' => x.2.1 = I i ∧ ∃ out, BfsI (parA g r) g.n v i out ∧ i ≤ out.length ∧ Own h h' [slR encN 1 T_int x.1 out, cellR x4 [sd, sa, so] T_milestoneref10_Tree, cellR g3 [I g.n, vx, vy, va] T_api_Raw]) ⟨rfl, [v], BfsI.start, Nat.zero_le _, o3⟩ ?_
  clear o3
  rintro i ⟨wo, y, ⟨⟩⟩ h4 Z hi ⟨hy, out, HB, hil, o4⟩ hZ
  dsimp only at hy o4 hZ ⊢
  subst hy
  unfold sh_milestoneref16_Part_L1
  have hol := HB.len T hv
  refine (o4.vw 0 rfl).len ?_
  rw [pBin_lss, ifV_dec]
  refine ⟨fun hlt => ?_, fun hge => hK wo out h4 hol HB.nd (HB.fin T (by omega)) (o4.sel [0] (by decide))⟩
  have hlt : i < out.length := by omega
  have hstep := HB.step T hlt
  have holN := hstep.len T hv
  rw [List.length_append] at holN
  refine LoopH_count g.n (fun q x h' => x.2.1 = I q ∧ Own h h' [slR encN 1 T_int x.1 (out ++ (List.range q).filter fun w => decide (parA g r w = some out[i])), cellR x4 [sd, sa, so] T_milestoneref10_Tree, cellR g3 [I g.n, vx, vy, va] T_api_Raw]) ⟨rfl, by rw [List.range_zero, List.filter_nil, List.append_nil]; exact o4⟩ ?_
  clear o4
  rintro q ⟨wo, y, ⟨⟩⟩ h5 Z1 hq ⟨hy, o5⟩ hZ1
  dsimp only at hy o5 hZ1 ⊢
  subst hy
  unfold sh_milestoneref16_Part_L2
  simp only [pField_ptr]
  refine o5.load 2 rfl rfl ?_
  rw [pBin_lss, ifV_dec]
  refine ⟨fun hqlt => ?_, fun hqge => ?_⟩
  · have hqlt : q < g.n := by omega
    have hrs : (List.range (q + 1)).filter (fun w => decide (parA g r w = some out[i])) = (List.range q).filter (fun w => decide (parA g r w = some out[i])) ++ if parA g r q = some out[i] then [q] else [] := by
      rw [List.range_succ, List.filter_append]
      congr 1
      by_cases e : parA g r q = some out[i]
      · simp [e]
      · simp [e]
    refine cutP_of (fun y h' => y.1 = .bool (decide (parA g r q = some out[i])) ∧ h' = h5) (fun J hJ => ?_) ?_
    · refine o5.load 1 rfl rfl ((Hx.more o5.ext).atI (by rw [T.al]; exact hqlt) ?_)
      rw [arc_get (by rw [T.al]; exact hqlt)]
      rcases arc_rng T hqlt with e | ⟨j, e, hj⟩
      · rw [e, pBin_geq, show decide ((0 : Int) ≤ -1) = false from rfl, ifV_false]
        refine hJ _ _ ⟨?_, rfl⟩
        have : parA g r q = none := by show parT _ _ _ = _; unfold parT; rw [e]; rfl
        rw [this]; rfl
      · rw [e, pBin_geq, decide_eq_true (by omega), ifV_true]
        refine o5.load 2 rfl rfl (o5.load 1 rfl rfl ((Hx.more o5.ext).atI (by rw [T.al]; exact hqlt) ?_))
        rw [arc_get (by rw [T.al]; exact hqlt), e]
        refine arcF_at (H.2.2.more o5.ext) hj ?_
        have hpi : (out ++ (List.range q).filter fun w => decide (parA g r w = some out[i])).length > i := by rw [List.length_append]; omega
        refine (o5.vw 0 rfl).at1 (e := fun (x : Nat) => I x) (fun _ => rfl) hpi ?_
        rw [List.getElem_append_left hlt, pBin_eql]
        refine hJ _ _ ⟨?_, rfl⟩
        have : parA g r q = some (arcAt g.arcs j).f := by show parT _ _ _ = _; unfold parT; rw [e, if_pos ⟨by omega, by omega⟩, Int.toNat_natCast]
        rw [this]
        refine congrArg Value.bool ?_
        rw [Bool.eq_iff_iff, beq_iff_eq, decide_eq_true_eq]
        exact ⟨fun h => congrArg some (by omega), fun h => by rw [Option.some.inj h]⟩
    · rintro ⟨y, ⟨⟩⟩ h6 ⟨hy, rfl⟩
      dsimp only at hy ⊢
      subst hy
      unfold sh_milestoneref16_Part_C3 sh_milestoneref16_Part_k4
      rw [ifV_dec]
      have hfl : ((List.range q).filter fun w => decide (parA g r w = some out[i])).length ≤ q := by
        have := List.length_filter_le (fun w => decide (parA g r w = some out[i])) (List.range q)
        rwa [List.length_range] at this
      refine ⟨fun hp => ?_, fun hp => ?_⟩
      · refine o5.app1 0 q rfl rfl (sizesOk_of rfl) (fun _ => rfl) encN_plain rfl (by decide) (by rw [List.length_append]; omega) fun w' h7 o7 => ?_
        rw [pBin_add, wI q (by omega)]
        refine hZ1 (_, _, ()) h7 hqlt ⟨rfl, ?_⟩
        rw [hrs, if_pos hp, ← List.append_assoc]
        exact o7
      · rw [pBin_add, wI q (by omega)]
        refine hZ1 (_, _, ()) _ hqlt ⟨rfl, ?_⟩
        rw [hrs, if_neg hp, List.append_nil]
        exact o5
  · have : q = g.n := by omega
    subst this
    rw [pBin_add, wI i (by omega)]
    exact hZ (_, _, ()) h5 (by omega) ⟨rfl, _, hstep, by rw [List.length_append]; omega, o5⟩

end
end Go.Proofs.YtoopkllfpmjnfaaGreatDoor

namespace Go.Proofs.YtoopkllfpmjnfaaGreatDoor
open Go Go.Mh
set_option linter.unusedVariables false

section
variable {h0 h : Heap} {L : List Res} {K : Value → Heap → Prop} {g : G} {vb vd : Value} {bs ds : List Int}

theorem avoidGains_ok {z : Int} (H : Vw encU8 1 h vb bs) (Hd0 : Vw encU 1 h vd ds) (hdr : ∀ x ∈ ds, 0 ≤ x ∧ x ≤ 4294967295) (hz : 0 ≤ z ∧ z < 256) (hK : ∀ h', Ext h h' → K (.bool true) h') :
    CallsH Tryz.prog F_milestonelaw16_AvoidGains [vb, vd, .int .u8 z].toArray h K := by
  refine lk_milestonelaw16_AvoidGains _ _ _ ?_
  unfold sh_milestonelaw16_AvoidGains
  refine works16_ok fun h1 x1 => ?_
  rw [pUn_not, Bool.not_true, ifV_false]
  refine drawn16_ok (H.more x1) fun g vx vy va h2 hg o2' => ?_
  have o2 : Own h h2 [xR vx g.X, xR vy g.Y, aR va g.arcs] := ((Own.start h).more x1).frame o2'
  clear o2'
  have hR := hg.toRight
  have hmost := hg.few
  have hpos := hR.pos
  refine o2.box fun g7 h3 o3 => o3.st (cs' := [I g.n, vx, vy, va]) 0 rfl rfl rfl rfl rfl (agg4_plain o3 (i := 1) (j := 2) (k := 3) rfl rfl rfl) fun h4 o4 => o4.ldN (cs' := [I g.n, vx, vy, va]) 0 rfl rfl rfl ?_
  refine made16_ok o4 hR ⟨vx, vy, va, rfl, o4.vw 1 rfl, o4.vw 2 rfl, o4.vw 3 rfl⟩ fun r N h5 hN o5 => ?_
  simp only [pEq_ptr_nil, Option.isNone_some, ifV_false, pField_ptr, pConv_int]
  have o : Own h h5 [N, cellR g7 [I g.n, vx, vy, va] T_api_Raw] := o5.sel [0, 1] (by decide)
  clear o5 o4 o3 o2
  refine (Hd0.more o.ext).len ?_
  rw [pMin_int, show (if (8 : Int) < (ds.length : Int) then (8 : Int) else (ds.length : Int)) = ((min ds.length 8 : Nat) : Int) by split <;> omega]
  refine Hd0.subA (a := 0) (j := min ds.length 8) (fun _ => rfl) rfl rfl (by omega) (by omega) fun w31 hw31 => ?_
  have hxl : ((ds.drop 0).take (min ds.length 8 - 0)).length ≤ 8 := by rw [List.length_take]; omega
  have hxr : ∀ x ∈ (ds.drop 0).take (min ds.length 8 - 0), 0 ≤ x ∧ x ≤ 4294967295 := fun x hx => hdr x (List.mem_of_mem_drop (List.mem_of_mem_take hx))
  generalize (ds.drop 0).take (min ds.length 8 - 0) = xs at hw31 hxl hxr
  have hx0 : ∀ x ∈ xs, 0 ≤ x := fun x hx => (hxr x hx).1
  rw [pBin_rem]
  refine ⟨by omega, ?_⟩
  obtain ⟨k, hk, hk8⟩ : ∃ k : Nat, z.tmod 8 = (k : Int) ∧ k < 8 := by
    have h1 := Int.tmod_nonneg (8 : Int) hz.1
    have h2 := Int.tmod_lt_of_pos z (show (0 : Int) < 8 by omega)
    exact ⟨(z.tmod 8).toNat, by omega, by omega⟩
  rw [hk, pConv_int, w64 (by omega) (by omega)]
  refine dnew_ok o (hw31 _ (Hd0.more o.ext)) (by omega) fun pd1 w1 h6 o6 => ?_
  refine amarksD_ok (k := (k : Int)) o6 0 rfl hR hN (by omega) (by omega) (by omega) hxr fun w39 vl' h7 o7 => ?_
  replace o7 := o7.sel [0, 3, 4] (by decide)
  obtain ⟨kk, hkk, hkn⟩ : ∃ kk : Nat, (min (k : Int) g.n) = (kk : Int) ∧ kk ≤ g.n := ⟨(min (k : Int) g.n).toNat, by omega, by omega⟩
  rw [hkk, Int.toNat_natCast] at o7
  have hMl : (mksA g xs kk).length = kk := mksA_len
  have hMt : ∀ i, i ≤ kk → (mksA g xs kk).take i = mksA g xs i := fun i hi => mksA_take hi
  have hMg : ∀ i (hi : i < kk), (mksA g xs kk)[i]'(by rw [hMl]; exact hi) = if i = 0 then rootA xs g.n 0 else nextA g (mksA g xs i) (rootA xs g.n i) := fun i hi => by
    have := mksA_get (g := g) (xs := xs) hi
    rw [List.getElem?_eq_getElem (by rw [hMl]; exact hi)] at this
    exact Option.some.inj this
  obtain ⟨hMn, hMr⟩ := mksA_ok hR (by omega) hx0 hkn
  generalize mksA g xs kk = M at o7 hMl hMt hMg hMn hMr
  refine (o7.vw 0 rfl).len ?_
  refine o7.load 2 rfl rfl ?_
  rw [pMin_int, hMl, show (if (g.n : Int) < (k : Int) then (g.n : Int) else (k : Int)) = (kk : Int) by split <;> omega, pBin_neq, bne_self_eq_false, ifV_false]
  refine dnew_ok o7 (hw31 _ (Hd0.more o7.ext)) (by omega) fun pd w2 h8 o8 => ?_
  refine LoopH_count kk (fun i x h' => x.1 = I i ∧ ∃ vl, Own h h' [cellR pd [vl] T_draw_Draws, quR encU 1 T_uint32 vl (xs.drop i), slR encN 1 T_int w39 M, N, cellR g7 [I g.n, vx, vy, va] T_api_Raw]) ⟨rfl, w2, o8⟩ ?_
  clear o8 o7 o6 o
  rintro i ⟨x, ⟨⟩⟩ h9 Z hi ⟨hx, vl, o⟩ hZ
  dsimp only at hx hZ ⊢
  subst hx
  unfold sh_milestonelaw16_AvoidGains_L1
  refine (o.vw 2 rfl).len ?_
  rw [hMl, pBin_lss, ifV_dec]
  refine ⟨fun hlt => ?_, fun hge => hK _ o.ext⟩
  have hlt : i < kk := by omega
  have hiM : i < M.length := by omega
  have hiN : i < (nI M).length := by rw [nI_len]; exact hiM
  have hge : (nI M)[i] = (M[i] : Int) := by simp [nI]
  have hmn : M[i] < g.n := hMr _ (List.getElem_mem hiM)
  have hmi := hMg i hlt
  simp only [pField_ptr]
  refine o.load 4 rfl rfl ?_
  obtain ⟨e1, e2⟩ := rootA_draw (xs := xs) (i := i) (n := g.n) (by omega) hx0
  refine dnext_ok o 0 1 rfl rfl (by decide) hpos (by omega) (by rw [List.length_drop]; omega) (fun x hx => hxr x (List.mem_of_mem_drop hx)) fun vl2 h10 o10 => ?_
  rw [e1]
  rw [e2] at o10
  have o10 : Own h h10 [cellR pd [vl2] T_draw_Draws, quR encU 1 T_uint32 vl2 (xs.drop (i + 1)), slR encN 1 T_int w39 M, N, cellR g7 [I g.n, vx, vy, va] T_api_Raw] := o10
  clear o
  have hrt : rootA xs g.n i < g.n := rootA_lt (by omega) hx0
  have k4 : ∀ h', Own h h' [cellR pd [vl2] T_draw_Draws, quR encU 1 T_uint32 vl2 (xs.drop (i + 1)), slR encN 1 T_int w39 M, N, cellR g7 [I g.n, vx, vy, va] T_api_Raw] → sh_milestonelaw16_AvoidGains_k4 Tryz.prog (I i) (fun a0 hz => Z (a0, ()) hz) h' := fun h' o' => by
    unfold sh_milestonelaw16_AvoidGains_k4
    rw [pBin_add, wI i (by omega)]
    exact hZ (_, ()) h' hlt ⟨rfl, vl2, o'⟩
  obtain ⟨hnd, hmlt⟩ := mksA_ok hR (by omega) hx0 (k := i) (xs := xs) (by omega)
  have hpre : ∀ {K' : Value → Prop}, (∀ wv, (∀ h', Vw encN 1 h' w39 M → Vw encN 1 h' wv (mksA g xs i)) → K' wv) → pSlice 1 w39 none (some (I i)) none K' := fun hk => by
    refine (o10.vw 2 rfl).subA (a := 0) (j := i) encN_len rfl rfl (by omega) (by omega) fun wv hwv => hk wv fun h' H' => ?_
    have := hwv h' H'
    rw [List.drop_zero, Nat.sub_zero, hMt i (by omega)] at this
    exact this
  refine cutP_of (fun y h' => y.1 = .bool false ∧ Own h h' [cellR pd [vl2] T_draw_Draws, quR encU 1 T_uint32 vl2 (xs.drop (i + 1)), slR encN 1 T_int w39 M, N, cellR g7 [I g.n, vx, vy, va] T_api_Raw]) (fun J hJ => ?_) ?_
  · have tl : pSlice 1 w39 none (some (I i)) none fun t92 => callS Tryz.prog F_draw_New [w31] h10 fun t88 h_11 => callS Tryz.prog F_avoid_Marks [ptr r, I i, t88] h_11 fun t89 h_12 => callS Tryz.prog F_milestonelaw16_rows [t89, t92] h_12 fun t93 h_13 => pUn .not t93 fun t94 => J (t94, ()) h_13 := by
      refine hpre fun wv hwv => ?_
      refine dnew_ok o10 (hw31 _ (Hd0.more o10.ext)) (by omega) fun pd3 w3 h11 o11 => ?_
      refine amarksD_ok (k := (i : Int)) o11 3 rfl hR hN (by omega) (by omega) (by omega) hxr fun w89 vl3 h12 o12 => ?_
      rw [show (min (i : Int) g.n).toNat = i by omega] at o12
      refine rows16_ok (e := fun (x : Nat) => (x : Int)) (fun _ => rfl) (o12.vw 0 rfl) (hwv _ (o12.vw 5 rfl)) (by rw [mksA_len]; omega) ?_
      rw [pUn_not, Bool.not_true]
      exact hJ _ _ ⟨rfl, o12.sel [3, 4, 5, 6, 7] (by decide)⟩
    refine (vw_nI (o10.vw 2 rfl)).atI hiN ?_
    rw [hge, pBin_lss, decide_eq_false (by omega), ifV_false]
    refine (vw_nI (o10.vw 2 rfl)).atI hiN (o10.load 4 rfl rfl ?_)
    rw [hge, pBin_geq, decide_eq_false (by omega), ifV_false, pBin_eql, ifV_beq]
    refine ⟨fun e => ?_, fun e => tl⟩
    have : i = 0 := by omega
    subst this
    refine (vw_nI (o10.vw 2 rfl)).atI (i := 0) hiN ?_
    rw [hge, hmi, if_pos rfl, pBin_neq, bne_self_eq_false, ifV_false]
    exact tl
  rintro ⟨y, ⟨⟩⟩ h11 ⟨hy, o11⟩
  dsimp only at hy ⊢
  subst hy
  clear o10
  unfold sh_milestonelaw16_AvoidGains_C2
  rw [ifV_false]
  refine LoopH_count i (fun j x h' => x.1 = I j ∧ h' = h11) ⟨rfl, rfl⟩ ?_
  rintro j ⟨x, ⟨⟩⟩ h12 Z1 hj ⟨hx, rfl⟩ hZ1
  dsimp only at hx hZ1 ⊢
  subst hx
  unfold sh_milestonelaw16_AvoidGains_L3
  rw [pBin_lss, ifV_dec]
  refine ⟨fun c => ?_, fun c => ?_⟩
  · have hjN : j < (nI M).length := by rw [nI_len]; omega
    refine (vw_nI (o11.vw 2 rfl)).atI hjN ((vw_nI (o11.vw 2 rfl)).atI hiN ?_)
    have hgj : (nI M)[j] = (M[j]'(by omega) : Int) := by simp [nI]
    rw [hge, hgj, pBin_eql]
    have hne : M[j]'(by omega) ≠ M[i] := fun e => by
      have := (List.getElem_inj hMn).1 e
      omega
    rw [show ((M[j]'(by omega) : Int) == (M[i] : Int)) = false by rw [beq_eq_false_iff_ne]; omega, ifV_false, pBin_add, wI j (by omega)]
    exact hZ1 (_, ()) _ (by omega) ⟨rfl, rfl⟩
  rw [pBin_eql, ifV_beq]
  refine ⟨fun e => k4 _ o11, fun hi0 => ?_⟩
  have hi0 : i ≠ 0 := by omega
  rw [if_neg hi0] at hmi
  refine hpre fun wv hwv => ?_
  refine aSizes_ok (l := nI (mksA g xs i)) hR (hN _ (o11.get 3 rfl)) (by omega) hrt (vw_nI (hwv _ (o11.vw 2 rfl))) (by rw [nI_len, mksA_len]; omega) fun ws h13 o13' => ?_
  rw [mksZ_nI hmlt] at o13'
  have o13 : Own h h13 [xR ws (growA g (mksA g xs i) (rootA xs g.n i)).sz, cellR pd [vl2] T_draw_Draws, quR encU 1 T_uint32 vl2 (xs.drop (i + 1)), slR encN 1 T_int w39 M, N, cellR g7 [I g.n, vx, vy, va] T_api_Raw] := o11.frame o13'
  clear o13' o11
  have hszl : (growA g (mksA g xs i) (rootA xs g.n i)).sz.length = g.n := (growA_gi hR (by omega) hrt hmlt).sl
  obtain ⟨_, _, n3⟩ := nextA_spec hR (by omega) hrt hmlt hnd (by rw [mksA_len]; omega)
  rw [← hmi] at n3
  have hsz : ∀ v, szA g (mksA g xs i) (rootA xs g.n i) v = (growA g (mksA g xs i) (rootA xs g.n i)).sz.getD v 0 := fun v => rfl
  have T := from_tree hR hrt
  generalize (growA g (mksA g xs i) (rootA xs g.n i)).sz = S at o13 hszl hsz
  refine LoopH_count g.n (fun v x h' => x.1 = .bool ((S.take v).any fun z => decide (0 < z)) ∧ x.2.1 = I v ∧ h' = h13) ⟨rfl, rfl, rfl⟩ ?_
  rintro v ⟨x, y, ⟨⟩⟩ h14 Z2 hv ⟨hx, hy, rfl⟩ hZ2
  dsimp only at hx hy hZ2 ⊢
  subst hx hy
  unfold sh_milestonelaw16_AvoidGains_L5
  refine (o13.vw 0 rfl).len ?_
  rw [hszl, pBin_lss, ifV_dec]
  refine ⟨fun c => ?_, fun c => ?_⟩
  · have hvl : v < S.length := by omega
    have tk : S.take (v + 1) = S.take v ++ [S[v]] := List.take_succ_eq_append_getElem hvl
    have k6 : ∀ b : Bool, b = ((S.take (v + 1)).any fun z => decide (0 < z)) → sh_milestonelaw16_AvoidGains_k6 Tryz.prog (I v) (fun a0 a1 hz => Z2 (a0, (a1, ())) hz) (.bool b) h14 := fun b hb => by
      unfold sh_milestonelaw16_AvoidGains_k6
      rw [pBin_add, wI v (by omega)]
      exact hZ2 (_, _, ()) _ (by omega) ⟨by rw [hb], rfl, rfl⟩
    rw [tk, List.any_append] at k6
    cases hb : (S.take v).any fun z => decide (0 < z) with
    | true =>
      rw [ifV_true]
      exact k6 true (by rw [hb]; rfl)
    | false =>
      rw [ifV_false]
      refine (o13.vw 0 rfl).atI hvl ?_
      rw [pBin_gtr]
      exact k6 _ (by rw [hb]; simp)
  have : v = g.n := by omega
  subst this
  rw [List.take_of_length_le (by omega)]
  refine (vw_nI (o13.vw 3 rfl)).idxI hiN fun b1 f1 c1 => pLoad_of rfl c1 ?_
  refine from_ok hR (hN _ (o13.get 4 rfl)) fun sd sa so h15 o15' => ?_
  refine ⟨pLoad_of rfl (hcell_more o15'.ext c1) rfl, ?_⟩
  have o15 := o13.frame o15'
  rw [show g.fromI (rootA xs g.n i) = g.from (rootA xs g.n i) by simp [G.fromI, hrt]] at o15
  simp only [pPart1_agg]
  rw [hge]
  have hml : M[i] < (g.from (rootA xs g.n i)).dist.length := by rw [T.ls.len]; exact hmn
  refine (o15.vw 0 rfl).atI hml ?_
  rw [dAt_get hml]
  have ofin : Own h h15 [cellR pd [vl2] T_draw_Draws, quR encU 1 T_uint32 vl2 (xs.drop (i + 1)), slR encN 1 T_int w39 M, N, cellR g7 [I g.n, vx, vy, va] T_api_Raw] := o15.sel [4, 5, 6, 7, 8] (by decide)
  refine cutP_of (fun y h' => y.1 = .bool false ∧ Own h h' [cellR pd [vl2] T_draw_Draws, quR encU 1 T_uint32 vl2 (xs.drop (i + 1)), slR encN 1 T_int w39 M, N, cellR g7 [I g.n, vx, vy, va] T_api_Raw]) (fun J hJ => ?_) ?_
  · cases hb : S.any fun z => decide (0 < z) with
    | false =>
      rw [ifV_false]
      exact hJ _ _ ⟨rfl, ofin⟩
    | true =>
      rw [ifV_true]
      obtain ⟨q1, q2, q3⟩ := n3 (by
        obtain ⟨z, hz, hp⟩ := List.any_eq_true.1 hb
        obtain ⟨v, hv, rfl⟩ := List.getElem_of_mem hz
        refine ⟨v, by omega, ?_⟩
        rw [hsz, List.getD_eq_getElem?_getD, List.getElem?_eq_getElem hv]
        exact of_decide_eq_true hp)
      have hMS : M[i] < S.length := by omega
      rw [hsz, List.getD_eq_getElem?_getD, List.getElem?_eq_getElem hMS] at q1
      replace q1 : 0 < S[M[i]] := q1
      refine (vw_nI (o15.vw 6 rfl)).atI hiN ?_
      rw [hge]
      refine (o15.vw 3 rfl).atI hMS ?_
      rw [pBin_leq, decide_eq_false (by omega), ifV_false]
      refine hpre fun wv2 hwv2 => ?_
      refine (vw_nI (o15.vw 6 rfl)).atI hiN ?_
      rw [hge]
      refine aBound_ok (l := nI (mksA g xs i)) hR (hN _ (o15.get 7 rfl)) (vw_nI (hwv2 _ (o15.vw 6 rfl))) (by rw [nI_len, mksA_len]; omega) fun h16 x16 => ?_
      have o16 := o15.more x16
      rw [bndZ_nn hrt hmn, mksZ_nI hmlt, pBin_geq, decide_eq_false (by omega), ifV_false]
      have hfar : far = 72057594037927936 := rfl
      rw [pBin_geq, decide_eq_false (by omega), ifV_false, pBin_add, wI i (by omega)]
      refine (o16.vw 6 rfl).subA (a := i) (j := i + 1) encN_len rfl rfl (by omega) (by omega) fun w5 hw5 => ?_
      have e5 : (M.drop i).take (i + 1 - i) = [M[i]] := by
        rw [show i + 1 - i = 1 by omega, List.drop_eq_getElem_cons hiM]
        rfl
      rw [e5] at hw5
      refine (vw_nI (o16.vw 6 rfl)).atI hiN ?_
      rw [hge]
      refine aBound_ok (l := nI [M[i]]) hR (hN _ (o16.get 7 rfl)) (vw_nI (hw5 _ (o16.vw 6 rfl))) (show 1 < 2 ^ 32 by decide) fun h17 x17 => ?_
      have o17 := o16.more x17
      rw [bndZ_nn hrt hmn, mksZ_nI fun m hm => by rw [List.mem_singleton.1 hm]; exact hmn, (bnd_self hR hrt hmn).1, pBin_neq, bne_self_eq_false]
      exact hJ _ _ ⟨rfl, o17.sel [4, 5, 6, 7, 8] (by decide)⟩
  · rintro ⟨y, ⟨⟩⟩ h16 ⟨hy, o16⟩
    dsimp only at hy ⊢
    subst hy
    unfold sh_milestonelaw16_AvoidGains_C7
    rw [ifV_false]
    exact k4 _ o16

end
end Go.Proofs.YtoopkllfpmjnfaaGreatDoor

namespace Go.Proofs.YtoopkllfpmjnfaaGreatDoor
open Go Go.Mh
set_option linter.unusedVariables false

section
variable {h0 h : Heap} {L : List Res} {K : Value → Heap → Prop} {g : G} {vd : Value} {ds : List Int}

/-- The reference's draws. -/
theorem rnext05_ok {p a n : Nat} (o : Own h0 h L) (i : Nat) (hi : L[i]? = some (cellR p [vd, I a] T_milestoneref05_Draws)) (Hd : Vw encU 1 h0 vd ds) (ha : a ≤ ds.length) (hn : 1 ≤ n) (hn2 : n < 2 ^ 40) (hxl : ds.length < 2 ^ 62) (hr : ∀ x ∈ ds, 0 ≤ x ∧ x ≤ 4294967295)
    (hK : ∀ h', Own h0 h' (L.set i (cellR p [vd, I (ds.length - (drawP (ds.drop a) n).2.length : Nat)] T_milestoneref05_Draws)) → K (I (drawP (ds.drop a) n).1) h') : callS Tryz.prog F_milestoneref05_Draws_Next [ptr p, I n] h K := by
  refine callS_of (lk_milestoneref05_Draws_Next _ _ ?_)
  unfold sh_milestoneref05_Draws_Next
  refine cutP_of (fun y h' => y.1 = .bool (decide (ds.length ≤ a)) ∧ h' = h) (fun J hJ => ?_) ?_
  · rw [pBin_lss, decide_eq_false (by omega), ifV_false]
    simp only [pNil_ptr, pField_ptr]
    refine o.load i hi rfl (o.load i hi rfl ((Hd.more o.ext).len ?_))
    rw [pBin_geq]
    exact hJ _ _ ⟨by congr 2; simp, rfl⟩
  · rintro ⟨y, ⟨⟩⟩ h1 ⟨hy, rfl⟩
    dsimp only at hy ⊢
    subst hy
    unfold sh_milestoneref05_Draws_Next_C1
    rw [ifV_dec]
    refine ⟨fun hge => ?_, fun hlt => ?_⟩
    · have e : ds.drop a = [] := List.drop_eq_nil_of_le hge
      rw [e] at hK
      refine hK h1 ?_
      have : ds.length - (drawP [] n).2.length = a := by show ds.length - 0 = a; omega
      rw [this, set_same hi]
      exact o
    · have hlt : a < ds.length := by omega
      have e : ds.drop a = ds[a] :: ds.drop (a + 1) := List.drop_eq_getElem_cons hlt
      rw [e] at hK
      have hx := hr ds[a] (List.getElem_mem hlt)
      simp only [pNil_ptr, pField_ptr]
      refine o.load i hi rfl ?_
      rw [pBin_add, wI a (by omega)]
      refine o.st1 i hi (cs' := [vd, I (a + 1 : Nat)]) rfl rfl rfl rfl fun h2 o2 => ?_
      refine o2.load i (set_get hi) rfl (o2.load i (set_get hi) rfl ?_)
      rw [pBin_sub, w64 (by omega) (by omega), show ((a + 1 : Nat) : Int) - 1 = (a : Int) by omega]
      refine (Hd.more o2.ext).at1 (e := fun x : Int => .int .u32 x) (fun _ => rfl) hlt ?_
      simp only [pConv_int]
      rw [w64 (by omega) (by omega), pBin_rem]
      refine ⟨by omega, hK h2 ?_⟩
      have : ds.length - (drawP (ds[a] :: ds.drop (a + 1)) n).2.length = a + 1 := by
        show ds.length - (ds.drop (a + 1)).length = a + 1
        rw [List.length_drop]; omega
      rw [this]
      exact o2

end
end Go.Proofs.YtoopkllfpmjnfaaGreatDoor

namespace Go.Proofs.YtoopkllfpmjnfaaGreatDoor
open Go Go.Mh
set_option linter.unusedVariables false

theorem szA_of {g : G} {r v : Nat} {ms p : List Nat} (hR : g.Right) (hn : g.n ≤ 16) (hr : r < g.n) (hm : ∀ m ∈ ms, m < g.n) (hv : v ∈ (g.from r).order) (hnd : p.Nodup) (hp : ∀ u, u ∈ p ↔ Desc (parA g r) v u) :
    szA g ms r v = if (p.any fun u => decide (u ∈ ms)) = true then 0 else (p.map (wtA g ms r)).sum := by
  obtain ⟨p0, h1, h2, h3, h4⟩ := szA_in hR hn hr hm hv
  have he : ∀ u, u ∈ p ↔ u ∈ p0 := fun u => (hp u).trans (h2 u).symm
  by_cases c : (p.any fun u => decide (u ∈ ms)) = true
  · rw [if_pos c]
    obtain ⟨u, hu, hum⟩ := List.any_eq_true.1 c
    exact h3 ⟨u, (he u).1 hu, of_decide_eq_true hum⟩
  · rw [if_neg c, h4 fun u hu hum => c (List.any_eq_true.2 ⟨u, (he u).2 hu, decide_eq_true hum⟩)]
    exact (sum_perm hnd h1 he).symm

theorem sum_snoc {f : Nat → Int} {p : List Nat} {u : Nat} : ((p ++ [u]).map f).sum = (p.map f).sum + f u := by
  rw [List.map_append, List.sum_append]; simp

theorem sum_far {f : Nat → Int} : ∀ {p : List Nat}, (∀ u ∈ p, 0 ≤ f u ∧ f u ≤ far) → 0 ≤ (p.map f).sum ∧ (p.map f).sum ≤ p.length * far
  | [], _ => ⟨Int.le_refl _, by simp⟩
  | u :: p, h => by
    have hfar : far = 72057594037927936 := rfl
    have h1 := h u List.mem_cons_self
    have h2 := @sum_far f p fun x hx => h x (List.mem_cons_of_mem _ hx)
    rw [List.map_cons, List.sum_cons, List.length_cons]
    rw [hfar] at h1 h2 ⊢
    omega

section
variable {h0 h : Heap} {L : List Res} {K : Value → Heap → Prop} {g : G} {vx vy va vl vd : Value} {l ds : List Int} {r : Nat} {ms : List Nat}

theorem mem_mksZ {n u : Nat} {l : List Int} (hu : u < n) : u ∈ mksZ n l ↔ (u : Int) ∈ l := by
  unfold mksZ
  rw [List.mem_map]
  constructor
  · rintro ⟨z, hz, rfl⟩
    have h1 := List.mem_filter.1 hz
    have h2 := of_decide_eq_true h1.2
    rw [show ((z.toNat : Nat) : Int) = z by omega]
    exact h1.1
  · intro h
    exact ⟨u, List.mem_filter.2 ⟨h, decide_eq_true ⟨by omega, by omega⟩⟩, rfl⟩

theorem rsizes16_ok (hR : g.Right) (hn : g.n ≤ 16) (hr : r < g.n) (H : RawL h vx vy va g) (Hl : Vw encI 1 h vl l) (hl : l.length < 2 ^ 40)
    (hK : ∀ w h', Own h h' [xR w ((List.range g.n).map (szA g (mksZ g.n l) r))] → K w h') : callS Tryz.prog F_milestoneref16_Sizes [.agg #[I g.n, vx, vy, va], vl, I r] h K := by
  refine callS_of (lk_milestoneref16_Sizes _ _ _ ?_)
  unfold sh_milestoneref16_Sizes
  have T := from_tree hR hr
  have hm : ∀ m ∈ mksZ g.n l, m < g.n := mksZ_lt
  have hfar : far = 72057594037927936 := rfl
  refine (Own.start h).box fun g3 h1 o1 => ?_
  have o1 : Own h h1 [cellR g3 [I g.n, vx, vy, va] T_api_Raw] := o1
  refine o1.ldN (cs' := [I g.n, vx, vy, va]) 0 rfl rfl rfl (rthere16_ok (g := g) fun h2 x2 => ?_)
  replace o1 := o1.more x2
  rw [pUn_not, decide_eq_true (⟨by omega, by omega⟩ : (0 : Int) ≤ r ∧ (r : Int) < g.n), Bool.not_true, ifV_false]
  refine o1.ldN (cs' := [I g.n, vx, vy, va]) 0 rfl rfl rfl (rfrom_ok (g := g) hR ⟨vx, vy, va, rfl, H.more o1.ext⟩ fun sd sa so h3 o3' => ?_)
  have o3 := o1.frame o3'
  rw [show g.fromI r = g.from r by simp [G.fromI, hr]] at o3
  refine o3.box fun x7 h4 o4 => o4.st (l := [sd, sa, so]) (cs' := [sd, sa, so]) 0 rfl rfl rfl rfl rfl ?_ fun h5 o5 => ?_
  · intro u hu
    simp at hu
    rcases hu with rfl | rfl | rfl
    · exact (o3.vw 0 rfl).plain
    · exact (o3.vw 1 rfl).plain
    · exact (o3.vw 2 rfl).plain
  have o5 : Own h h5 [cellR x7 [sd, sa, so] T_milestoneref10_Tree, xR sd (g.from r).dist, slR encI 1 T_int sa (g.from r).arc, slR encN 1 T_int so (g.from r).order, cellR g3 [I g.n, vx, vy, va] T_api_Raw] := o5
  clear o1 o3 o3' o4
  refine LoopH_count g.n (fun v x h' => x.2.1 = I v ∧ Own h h' [xR x.1 ((List.range v).map (szA g (mksZ g.n l) r)), cellR x7 [sd, sa, so] T_milestoneref10_Tree, xR sd (g.from r).dist, slR encI 1 T_int sa (g.from r).arc, slR encN 1 T_int so (g.from r).order, cellR g3 [I g.n, vx, vy, va] T_api_Raw]) ⟨rfl, o5.nilS⟩ ?_
  clear o5
  rintro v ⟨w, y, ⟨⟩⟩ h6 Z hv ⟨hy, o⟩ hZ
  dsimp only at hy o hZ ⊢
  subst hy
  unfold sh_milestoneref16_Sizes_L1
  simp only [pField_ptr]
  refine o.load 5 rfl rfl ?_
  rw [pBin_lss, ifV_dec]
  refine ⟨fun hlt => ?_, fun hge => ?_⟩
  case refine_2 =>
    have : v = g.n := by omega
    subst this
    exact hK w h6 (o.sel [0] (by decide))
  have hlt : v < g.n := by omega
  have hvl : v < (g.from r).dist.length := by rw [T.ls.len]; exact hlt
  have k5 : ∀ (z : Int) (h' : Heap) (X : List Res), z = szA g (mksZ g.n l) r v → Own h h' (X ++ [xR w ((List.range v).map (szA g (mksZ g.n l) r)), cellR x7 [sd, sa, so] T_milestoneref10_Tree, xR sd (g.from r).dist, slR encI 1 T_int sa (g.from r).arc, slR encN 1 T_int so (g.from r).order, cellR g3 [I g.n, vx, vy, va] T_api_Raw]) →
      sh_milestoneref16_Sizes_k5 Tryz.prog w (I v) (fun a0 a1 hz => Z (a0, (a1, ())) hz) (I z) h' := fun z h' X hz o' => by
    unfold sh_milestoneref16_Sizes_k5
    have o2 := (Own.comm o').left
    refine o2.app1 0 z rfl rfl (sizesOk_of rfl) encI_len encI_plain rfl (by decide) (by simp; omega) fun w' h7 o7 => ?_
    rw [pBin_add, wI v (by omega)]
    refine hZ (_, _, ()) h7 hlt ⟨rfl, ?_⟩
    rw [List.range_succ, List.map_append, List.map_cons, List.map_nil, ← hz]
    exact o7
  refine o.load 1 rfl rfl ((o.vw 2 rfl).atI hvl ?_)
  rw [dAt_get hvl, pBin_lss, ifV_dec]
  refine ⟨fun hd => ?_, fun hd => ?_⟩
  case refine_2 =>
    have ho : v ∉ (g.from r).order := fun h => hd ((T.reached v hlt).1 h)
    exact k5 0 h6 [] (szA_out hR hn hr hm hlt ho).symm o
  have ho : v ∈ (g.from r).order := (T.reached v hlt).2 hd
  refine o.ldN (cs' := [I g.n, vx, vy, va]) 5 rfl rfl rfl (o.ldN (cs' := [sd, sa, so]) 1 rfl rfl rfl ?_)
  refine rpart16_ok hR hn hr ho (H.more o.ext) (o.vw 3 rfl) fun wp p h7 hpl hnd hp o7' => ?_
  have o7 := o.frame o7'
  clear o7' o
  have hsz := szA_of hR hn hr hm ho hnd hp
  have hin : ∀ u ∈ p, u ∈ (g.from r).order := fun u hu => desc_in T ((hp u).1 hu) ho
  have hrng : ∀ u ∈ p, 0 ≤ wtA g (mksZ g.n l) r u ∧ wtA g (mksZ g.n l) r u ≤ far := fun u hu => wtA_rng hR hr hm u (hin u hu)
  refine LoopH_count p.length (fun i x h' => x.1 = I ((p.take i).map (wtA g (mksZ g.n l) r)).sum ∧ x.2.1 = .bool ((p.take i).any fun u => decide (u ∈ mksZ g.n l)) ∧ x.2.2.1 = I i ∧
    Own h h' [slR encN 1 T_int wp p, xR w ((List.range v).map (szA g (mksZ g.n l) r)), cellR x7 [sd, sa, so] T_milestoneref10_Tree, xR sd (g.from r).dist, slR encI 1 T_int sa (g.from r).arc, slR encN 1 T_int so (g.from r).order, cellR g3 [I g.n, vx, vy, va] T_api_Raw]) ⟨rfl, rfl, rfl, o7⟩ ?_
  clear o7
  rintro i ⟨x, y, y3, ⟨⟩⟩ h8 Z1 hi ⟨hx, hy, hy3, o⟩ hZ1
  dsimp only at hx hy hy3 o hZ1 ⊢
  subst hx hy hy3
  unfold sh_milestoneref16_Sizes_L2
  refine (o.vw 0 rfl).len ?_
  rw [pBin_lss, ifV_dec]
  refine ⟨fun hil => ?_, fun hig => ?_⟩
  case refine_2 =>
    have : i = p.length := by omega
    subst this
    rw [List.take_length]
    cases hb : p.any fun u => decide (u ∈ mksZ g.n l) with
    | true =>
      rw [ifV_true]
      rw [hb, if_pos rfl] at hsz
      exact k5 0 h8 [slR encN 1 T_int wp p] hsz.symm o
    | false =>
      rw [ifV_false]
      rw [hb, if_neg (by decide)] at hsz
      exact k5 _ h8 [slR encN 1 T_int wp p] hsz.symm o
  have hil : i < p.length := by omega
  have tk : p.take (i + 1) = p.take i ++ [p[i]] := List.take_succ_eq_append_getElem hil
  have hu := hin _ (List.getElem_mem hil)
  have hur := hrng _ (List.getElem_mem hil)
  have hsr := sum_far (p := p.take i) fun u hu => hrng u (List.mem_of_mem_take hu)
  rw [List.length_take] at hsr
  rw [hfar] at hsr hur
  have hil2 : i < (nI p).length := by rw [nI_len]; exact hil
  have hge : (nI p)[i] = (p[i] : Int) := by simp [nI]
  have hun : p[i] < g.n := T.range _ hu
  have hul : p[i] < (g.from r).dist.length := by rw [T.ls.len]; exact hun
  have k4 : ∀ (z : Int) (b : Bool) (h' : Heap), z = ((p.take (i + 1)).map (wtA g (mksZ g.n l) r)).sum → b = ((p.take (i + 1)).any fun u => decide (u ∈ mksZ g.n l)) →
      Own h h' [slR encN 1 T_int wp p, xR w ((List.range v).map (szA g (mksZ g.n l) r)), cellR x7 [sd, sa, so] T_milestoneref10_Tree, xR sd (g.from r).dist, slR encI 1 T_int sa (g.from r).arc, slR encN 1 T_int so (g.from r).order, cellR g3 [I g.n, vx, vy, va] T_api_Raw] →
      sh_milestoneref16_Sizes_k4 Tryz.prog (I i) (fun a0 a1 a2 hz => Z1 (a0, (a1, (a2, ()))) hz) (.bool b) (I z) h' := fun z b h' hz hb o' => by
    unfold sh_milestoneref16_Sizes_k4
    rw [pBin_add, wI i (by omega)]
    exact hZ1 (_, _, _, ()) h' hil ⟨by rw [hz], by rw [hb], rfl, o'⟩
  have k3 : ∀ b : Bool, b = ((p.take (i + 1)).any fun u => decide (u ∈ mksZ g.n l)) → sh_milestoneref16_Sizes_k3 Tryz.prog wp (I i) (I r) (ptr x7) (ptr g3) vl (I ((p.take i).map (wtA g (mksZ g.n l) r)).sum) (fun a0 a1 a2 hz => Z1 (a0, (a1, (a2, ()))) hz) (.bool b) h8 := fun b hb => by
    unfold sh_milestoneref16_Sizes_k3
    rw [tk, sum_snoc] at k4
    refine (vw_nI (o.vw 0 rfl)).atI hil2 ?_
    rw [hge, pBin_neq]
    by_cases hur' : p[i] = r
    · rw [show ((p[i] : Int) != (r : Int)) = false by rw [hur']; simp, ifV_false]
      refine k4 _ b h8 ?_ (by rw [hb, tk]) o
      unfold wtA
      rw [if_neg (fun h => h hur')]; omega
    · rw [show ((p[i] : Int) != (r : Int)) = true by simp; omega, ifV_true]
      simp only [pField_ptr]
      refine o.load 2 rfl rfl ((vw_nI (o.vw 0 rfl)).idxI hil2 fun b1 f1 c1 => pLoad_of rfl c1 ?_)
      rw [hge]
      refine (o.vw 3 rfl).idxI hul fun b2 f2 c2 => pLoad_of rfl c2 ?_
      refine o.ldN (cs' := [I g.n, vx, vy, va]) 6 rfl rfl rfl ((vw_nI (o.vw 0 rfl)).atI hil2 ?_)
      rw [hge]
      refine rbound16_ok hR (H.more o.ext) (Hl.more o.ext) hl fun h9 x9 => ?_
      have o9 := o.more x9
      refine ⟨o9.load 2 rfl rfl rfl, pLoad_of rfl (hcell_more x9 c1) (by rw [hge]), pLoad_of rfl (hcell_more x9 c2) rfl, ?_⟩
      rw [show bndZ g l r p[i] = bnd g (mksZ g.n l) r p[i] by unfold bndZ; rw [if_pos ⟨⟨by omega, by omega⟩, by omega, by omega⟩, Int.toNat_natCast, Int.toNat_natCast], dAt_get hul]
      have ew : dAt (g.from r).dist p[i] - bnd g (mksZ g.n l) r p[i] = wtA g (mksZ g.n l) r p[i] := by unfold wtA; rw [if_pos hur']
      rw [pBin_sub, ew, w64 (by omega) (by omega)]
      refine rsat04_ok ?_
      rw [show satI ((p.take i).map (wtA g (mksZ g.n l) r)).sum (wtA g (mksZ g.n l) r p[i]) = ((p.take i).map (wtA g (mksZ g.n l) r)).sum + wtA g (mksZ g.n l) r p[i] by unfold satI keepS mostS; omega]
      exact k4 _ b h9 rfl (by rw [hb, tk]) o9
  have e1 : ((p.take (i + 1)).any fun u => decide (u ∈ mksZ g.n l)) = (((p.take i).any fun u => decide (u ∈ mksZ g.n l)) || decide (p[i] ∈ mksZ g.n l)) := by
    rw [tk, List.any_append]; simp
  cases hb : (p.take i).any fun u => decide (u ∈ mksZ g.n l) with
  | true =>
    rw [ifV_true]
    exact k3 true (by rw [e1, hb]; rfl)
  | false =>
    rw [ifV_false]
    refine (vw_nI (o.vw 0 rfl)).atI hil2 ?_
    rw [hge]
    refine rin16_ok (Hl.more o.ext) hl ?_
    refine k3 _ ?_
    rw [e1, hb, Bool.false_or, decide_eq_decide]
    exact (mem_mksZ hun).symm

theorem rsizes16_none {z : Int} (hz : ¬ (0 ≤ z ∧ z < g.n)) (hK : ∀ h', Ext h h' → K (.slice none 0 0) h') : callS Tryz.prog F_milestoneref16_Sizes [.agg #[I g.n, vx, vy, va], vl, I z] h K := by
  refine callS_of (lk_milestoneref16_Sizes _ _ _ ?_)
  unfold sh_milestoneref16_Sizes
  refine (Own.start h).box fun g3 h1 o1 => ?_
  have o1 : Own h h1 [cellR g3 [I g.n, vx, vy, va] T_api_Raw] := o1
  refine o1.ldN (cs' := [I g.n, vx, vy, va]) 0 rfl rfl rfl (rthere16_ok (g := g) fun h2 x2 => ?_)
  rw [pUn_not, decide_eq_false hz, Bool.not_false, ifV_true]
  exact hK h2 (o1.more x2).ext

end
end Go.Proofs.YtoopkllfpmjnfaaGreatDoor

namespace Go.Proofs.YtoopkllfpmjnfaaGreatDoor
open Go Go.Mh
set_option linter.unusedVariables false

theorem bst1_some {f : Nat → Int} {w v : Nat} (h : w < v) : bst1 f (some w) v = if 0 < f v ∧ f w < f v then some v else some w := by
  unfold bst1 ovr
  by_cases c : 0 < f v ∧ f w < f v
  · rw [if_pos c, if_pos ⟨c.1, decide_eq_true (.inl c.2)⟩]
  · rw [if_neg c, if_neg fun h2 => c ⟨h2.1, by have := of_decide_eq_true h2.2; omega⟩]
theorem bst1_none {f : Nat → Int} {v : Nat} : bst1 f none v = if 0 < f v then some v else none := by
  unfold bst1 ovr
  by_cases c : 0 < f v
  · rw [if_pos c, if_pos ⟨c, rfl⟩]
  · rw [if_neg c, if_neg fun h => c h.1]
theorem bestS_mem {f : Nat → Int} {l : List Nat} {w : Nat} (h : bestS f l = some w) : w ∈ l ∧ 0 < f w := by
  rcases bestS_is (f := f) (l := l) with ⟨e, _⟩ | ⟨w', e, h1, h2, _⟩
  · rw [e] at h; cases h
  · rw [e] at h; cases h; exact ⟨h1, h2⟩

section
variable {h0 h : Heap} {L : List Res} {K : Value → Heap → Prop} {g : G} {vx vy va vl vd : Value} {ds : List Int} {r : Nat} {ms : List Nat}

theorem rnext16_ok (hR : g.Right) (hn : g.n ≤ 16) (hr : r < g.n) (H : RawL h vx vy va g) (Hl : Vw encN 1 h vl ms) (hm : ∀ m ∈ ms, m < g.n) (hnd : ms.Nodup) (hl : ms.length < g.n)
    (hK : ∀ h', Ext h h' → K (I (nextA g ms r)) h') : callS Tryz.prog F_milestoneref16_next [.agg #[I g.n, vx, vy, va], vl, I r] h K := by
  refine callS_of (lk_milestoneref16_next _ _ _ ?_)
  unfold sh_milestoneref16_next
  have T := from_tree hR hr
  have hfar : far = 72057594037927936 := rfl
  have ems : mksZ g.n (nI ms) = ms := mksZ_nI hm
  refine (Own.start h).box fun g3 h1 o1 => ?_
  have o1 : Own h h1 [cellR g3 [I g.n, vx, vy, va] T_api_Raw] := o1
  refine cutP_of (fun y h' => ∃ x7 sd sa so w, y.1 = ptr x7 ∧ y.2.1 = w ∧ Own h h' [cellR x7 [sd, sa, so] T_milestoneref10_Tree, xR w ((List.range g.n).map (szA g ms r)), slR encI 1 T_int sa (g.from r).arc, cellR g3 [I g.n, vx, vy, va] T_api_Raw]) (fun J hJ => ?_) ?_
  · have fr : ∀ {h' : Heap} {L' : List Res} {K' : Value → Heap → Prop}, Own h h' L' → (∀ sd sa so h2, Own h h2 ([xR sd (g.from r).dist, slR encI 1 T_int sa (g.from r).arc, slR encN 1 T_int so (g.from r).order] ++ L') → K' (.agg #[sd, sa, so]) h2) → callS Tryz.prog F_milestoneref10_From [.agg #[I g.n, vx, vy, va], I r] h' K' := fun o' hk => by
      refine rfrom_ok (g := g) hR ⟨vx, vy, va, rfl, H.more o'.ext⟩ fun sd sa so h2 o2 => ?_
      rw [show g.fromI r = g.from r by simp [G.fromI, hr]] at o2
      exact hk sd sa so h2 (o'.frame o2)
    have sz : ∀ {h' : Heap} {L' : List Res} {K' : Value → Heap → Prop}, Own h h' L' → (∀ w h2, Own h h2 ([xR w ((List.range g.n).map (szA g ms r))] ++ L') → K' w h2) → callS Tryz.prog F_milestoneref16_Sizes [.agg #[I g.n, vx, vy, va], vl, I r] h' K' := fun o' hk => by
      refine rsizes16_ok hR hn hr (H.more o'.ext) (vw_nI (Hl.more o'.ext)) (by rw [nI_len]; omega) fun w h2 o2 => ?_
      rw [ems] at o2
      exact hk w h2 (o'.frame o2)
    have pl : ∀ {h' : Heap} {L' : List Res} {i j k : Nat} {sd sa so : Value}, Own h h' L' → L'[i]? = some (xR sd (g.from r).dist) → L'[j]? = some (slR encI 1 T_int sa (g.from r).arc) → L'[k]? = some (slR encN 1 T_int so (g.from r).order) → ∀ u ∈ [sd, sa, so], Mh.plainCell u = true := fun o' hi hj hk u hu => by
      simp at hu
      rcases hu with rfl | rfl | rfl
      · exact (o'.vw _ hi).plain
      · exact (o'.vw _ hj).plain
      · exact (o'.vw _ hk).plain
    refine o1.ldN (cs' := [I g.n, vx, vy, va]) 0 rfl rfl rfl (o1.ldN (cs' := [I g.n, vx, vy, va]) 0 rfl rfl rfl ⟨fr o1 fun sd sa so h2 o2 => ⟨o2.ldN (cs' := [I g.n, vx, vy, va]) 3 rfl rfl rfl rfl, sz o2 fun w h3 o3 => ?_, ?_⟩, ?_⟩)
    · refine o3.box fun x7 h4 o4 => o4.st (l := [sd, sa, so]) (cs' := [sd, sa, so]) 0 rfl rfl rfl rfl rfl (pl o3 (i := 1) (j := 2) (k := 3) rfl rfl rfl) fun h5 o5 => ?_
      exact hJ _ _ ⟨x7, sd, sa, so, w, rfl, rfl, o5.sel [0, 1, 3, 5] (by decide)⟩
    · refine o2.box fun x7 h4 o4 => sz o4 fun w h5 o5 => o5.st (l := [sd, sa, so]) (cs' := [sd, sa, so]) 1 rfl rfl rfl rfl rfl (pl o5 (i := 2) (j := 3) (k := 4) rfl rfl rfl) fun h6 o6 => ?_
      exact hJ _ _ ⟨x7, sd, sa, so, w, rfl, rfl, o6.sel [1, 0, 3, 5] (by decide)⟩
    · refine o1.box fun x7 h2 o2 => fr o2 fun sd sa so h3 o3 => ⟨o3.ldN (cs' := [I g.n, vx, vy, va]) 4 rfl rfl rfl rfl, sz o3 fun w h5 o5 => o5.st (l := [sd, sa, so]) (cs' := [sd, sa, so]) 4 rfl rfl rfl rfl rfl (pl o5 (i := 1) (j := 2) (k := 3) rfl rfl rfl) fun h6 o6 => ?_⟩
      exact hJ _ _ ⟨x7, sd, sa, so, w, rfl, rfl, o6.sel [4, 0, 2, 5] (by decide)⟩
  rintro ⟨y1, y2, ⟨⟩⟩ h2 ⟨x7, sd, sa, so, w, hy1, hy2, o⟩
  dsimp only at hy1 hy2 ⊢
  subst hy1 hy2
  clear o1
  unfold sh_milestoneref16_next_C1
  have hlen : ((List.range g.n).map (szA g ms r)).length = g.n := by simp
  have hat : ∀ {h' : Heap} {L' : List Res} {i v : Nat} {K' : Value → Prop}, Own h h' L' → L'[i]? = some (xR y2 ((List.range g.n).map (szA g ms r))) → v < g.n → K' (I (szA g ms r v)) → pIdx 1 y2 (I v) fun t => pLoad h' t K' := fun {h' L' i v K'} o' hi hv hk => by
    refine (o'.vw i hi).atI (by rw [hlen]; exact hv) ?_
    rw [show ((List.range g.n).map (szA g ms r))[v]'(by rw [hlen]; exact hv) = szA g ms r v by simp]
    exact hk
  have hbo : bestS (szA g ms r) (List.range g.n) = bestS (szA g ms r) (g.from r).order := by
    refine IsBest.uniq (bestS_is (f := szA g ms r) (l := List.range g.n)) bestS_is fun v hv => ?_
    rw [List.mem_range]
    refine ⟨fun hvn => ?_, T.range v⟩
    by_cases ho : v ∈ (g.from r).order
    · exact ho
    · have := szA_out hR hn hr hm hvn ho; omega
  have hnx : nextA g ms r = match bestS (szA g ms r) (List.range g.n) with
    | none => freeM ms (g.n + 1) 0
    | some v => down (szA g ms r) (growA g ms r).kd g.n v := by rw [hbo]; rfl
  refine LoopH_count g.n (fun v x h' => x.1 = bestV (bestS (szA g ms r) (List.range v)) ∧ x.2.1 = I v ∧ h' = h2) ⟨rfl, rfl, rfl⟩ ?_
  rintro v ⟨x, y, ⟨⟩⟩ h3 Z hv ⟨hx, hy, rfl⟩ hZ
  dsimp only at hx hy hZ ⊢
  subst hx hy
  unfold sh_milestoneref16_next_L2
  simp only [pField_ptr]
  refine o.load 3 rfl rfl ?_
  rw [pBin_lss, ifV_dec]
  refine ⟨fun hlt => ?_, fun hge => ?_⟩
  · have hlt : v < g.n := by omega
    have hsn : bestS (szA g ms r) (List.range (v + 1)) = bst1 (szA g ms r) (bestS (szA g ms r) (List.range v)) v := by rw [List.range_succ, bestS_snoc]
    have hwv : ∀ w, bestS (szA g ms r) (List.range v) = some w → w < v := fun w hw => List.mem_range.1 (bestS_mem hw).1
    generalize bestS (szA g ms r) (List.range v) = b at hsn hwv
    refine cutP_of (fun y h' => y.1 = .bool (decide (bst1 (szA g ms r) b v = some v)) ∧ h' = h3) (fun J hJ => ?_) ?_
    · refine hat o (i := 1) rfl hlt ?_
      rw [pBin_gtr, ifV_dec]
      refine ⟨fun hp => ?_, fun hp => ?_⟩
      · cases b with
        | none =>
          show pBin .lss (I (-1)) _ _
          rw [pBin_lss, show decide ((-1 : Int) < 0) = true from rfl, ifV_true, ]
          refine hJ _ _ ⟨?_, rfl⟩
          rw [bst1_none, if_pos hp]; simp
        | some w =>
          have hw := hwv w rfl
          show pBin .lss (I w) _ _
          rw [pBin_lss, show decide ((w : Int) < 0) = false from decide_eq_false (by omega), ifV_false]
          refine hat o (i := 1) rfl hlt (hat o (i := 1) (v := w) rfl (by omega) ?_)
          rw [pBin_gtr]
          refine hJ _ _ ⟨?_, rfl⟩
          rw [bst1_some hw]
          refine congrArg Value.bool ?_
          by_cases c : szA g ms r w < szA g ms r v
          · rw [if_pos ⟨hp, c⟩, decide_eq_true c]; simp
          · rw [if_neg fun h => c h.2, decide_eq_false c]
            exact (decide_eq_false (p := some w = some v) fun h => by have := Option.some.inj h; omega).symm
      · refine hJ _ _ ⟨?_, rfl⟩
        have : bst1 (szA g ms r) b v = b := if_neg fun h => hp h.1
        rw [this]
        refine congrArg Value.bool ?_
        exact (decide_eq_false (p := b = some v) fun h => by have := hwv v h; omega).symm
    · rintro ⟨y, ⟨⟩⟩ h4 ⟨hy, rfl⟩
      dsimp only at hy ⊢
      subst hy
      unfold sh_milestoneref16_next_C3 sh_milestoneref16_next_k4
      rw [ifV_dec]
      refine ⟨fun hp => ?_, fun hp => ?_⟩
      · rw [pBin_add, wI v (by omega)]
        exact hZ (_, _, ()) _ hlt ⟨by rw [hsn, hp]; rfl, rfl, rfl⟩
      · have : bst1 (szA g ms r) b v = b := by
          unfold bst1 at hp ⊢
          split at hp
          · exact absurd rfl hp
          · rename_i h; rw [if_neg h]
        rw [pBin_add, wI v (by omega)]
        exact hZ (_, _, ()) _ hlt ⟨by rw [hsn, this], rfl, rfl⟩
  have : v = g.n := by omega
  subst this
  clear hZ
  have hbm : ∀ w, bestS (szA g ms r) (List.range g.n) = some w → w ∈ (g.from r).order := fun w hw => by rw [hbo] at hw; exact (bestS_mem hw).1
  generalize bestS (szA g ms r) (List.range g.n) = bb at hnx hbm
  cases bb with
  | none =>
    show pBin .lss (I (-1)) _ _
    rw [pBin_lss, show decide ((-1 : Int) < 0) = true from rfl, ifV_true]
    refine LoopH_count g.n (fun i x h' => x.1 = I i ∧ h' = h3 ∧ (∀ u, u < i → u ∈ ms) ∧ freeM ms (g.n + 1 - i) i = nextA g ms r) ⟨rfl, rfl, fun u hu => by omega, hnx.symm⟩ ?_
    rintro i ⟨x, ⟨⟩⟩ h4 Z1 hi ⟨hx, rfl, hall, hfm⟩ hZ1
    dsimp only at hx hZ1 ⊢
    subst hx
    unfold sh_milestoneref16_next_L5
    simp only [pField_ptr]
    have hrl := range_len hall
    rw [List.length_range] at hrl
    refine o.load 3 rfl rfl ?_
    rw [pBin_lss, decide_eq_true (by omega), ifV_true]
    refine rin16_ok (vw_nI (Hl.more o.ext)) (by rw [nI_len]; omega) ?_
    have hin : (i : Int) ∈ nI ms ↔ i ∈ ms := by
      unfold nI
      refine ⟨fun h => ?_, fun h => List.mem_map.2 ⟨i, h, rfl⟩⟩
      obtain ⟨a, ha, e⟩ := List.mem_map.1 h
      have : a = i := by have e : (a : Int) = i := e; omega
      rw [← this]; exact ha
    rw [pUn_not]
    by_cases hc : i ∈ ms
    · rw [decide_eq_true (hin.2 hc), Bool.not_true, ifV_false, pBin_add, wI i (by omega)]
      refine hZ1 (_, ()) _ (by omega) ⟨rfl, rfl, fun u hu => ?_, ?_⟩
      · by_cases e : u = i
        · rw [e]; exact hc
        · exact hall u (by omega)
      · rw [← hfm, show g.n + 1 - i = (g.n + 1 - (i + 1)) + 1 by omega, freeM_in hc]
    · rw [decide_eq_false fun h => hc (hin.1 h), Bool.not_false, ifV_true]
      rw [show g.n + 1 - i = (g.n - i) + 1 by omega, freeM_no hc] at hfm
      rw [hfm]
      exact hK _ o.ext
  | some w0 =>
    show pBin .lss (I w0) _ _
    rw [pBin_lss, show decide ((w0 : Int) < 0) = false from decide_eq_false (by omega), ifV_false]
    unfold sh_milestoneref16_next_k6
    dsimp only at hnx
    refine LoopH_count g.n (fun j x h' => h' = h3 ∧ ∃ w : Nat, x.1 = I w ∧ w ∈ (g.from r).order ∧ j ≤ (g.from r).order.idxOf w ∧ down (szA g ms r) (growA g ms r).kd (g.n - j) w = nextA g ms r) ⟨rfl, w0, rfl, hbm w0 rfl, Nat.zero_le _, hnx.symm⟩ ?_
    rintro j ⟨x, ⟨⟩⟩ h4 Z1 hj ⟨rfl, w, hx, hw1, hw2, hw3⟩ hZ1
    dsimp only at hx hZ1 ⊢
    subst hx
    unfold sh_milestoneref16_next_L7
    have hol : (g.from r).order.length ≤ g.n := nodup_le T.nodup T.range
    have hjl : j < g.n := by have := List.idxOf_lt_length_of_mem hw1; omega
    rw [show g.n - j = (g.n - (j + 1)) + 1 by omega] at hw3
    unfold down at hw3
    have hkb : bestS (szA g ms r) (kidsR (parA g r) g.n w) = bestS (szA g ms r) ((growA g ms r).kd w) := by
      refine IsBest.uniq (bestS_is (f := szA g ms r) (l := kidsR (parA g r) g.n w)) bestS_is fun v hv => ?_
      rw [kdA hR hn hr hm]
      unfold kidsR
      rw [List.mem_filter, List.mem_range, decide_eq_true_eq]
      exact ⟨fun h => h.2, fun h => ⟨T.range v (par_some T h).1, h⟩⟩
    rw [← hkb] at hw3
    refine LoopH_count g.n (fun q x h' => x.1 = bestV (bestS (szA g ms r) (kidsR (parA g r) q w)) ∧ x.2.1 = I q ∧ h' = h4) ⟨rfl, rfl, rfl⟩ ?_
    rintro q ⟨x, y, ⟨⟩⟩ h5 Z3 hq ⟨hx, hy, rfl⟩ hZ3
    dsimp only at hx hy hZ3 ⊢
    subst hx hy
    unfold sh_milestoneref16_next_L8
    simp only [pField_ptr]
    refine o.load 3 rfl rfl ?_
    rw [pBin_lss, ifV_dec]
    refine ⟨fun hqlt => ?_, fun hqge => ?_⟩
    · have hqlt : q < g.n := by omega
      have hsn : bestS (szA g ms r) (kidsR (parA g r) (q + 1) w) = if parA g r q = some w then bst1 (szA g ms r) (bestS (szA g ms r) (kidsR (parA g r) q w)) q else bestS (szA g ms r) (kidsR (parA g r) q w) := by
        unfold kidsR
        rw [List.range_succ, List.filter_append]
        by_cases e : parA g r q = some w
        · rw [if_pos e, show [q].filter (fun w_1 => decide (parA g r w_1 = some w)) = [q] by simp [e], bestS_snoc]
        · rw [if_neg e, show [q].filter (fun w_1 => decide (parA g r w_1 = some w)) = [] by simp [e], List.append_nil]
      have hwv : ∀ u, bestS (szA g ms r) (kidsR (parA g r) q w) = some u → u < q := fun u hu => by
        have := (bestS_mem hu).1
        unfold kidsR at this
        exact List.mem_range.1 (List.mem_filter.1 this).1
      generalize bestS (szA g ms r) (kidsR (parA g r) q w) = b at hsn hwv
      refine cutP_of (fun y h' => y.1 = .bool (decide (parA g r q = some w ∧ bst1 (szA g ms r) b q = some q)) ∧ h' = h5) (fun J hJ => ?_) ?_
      · refine o.load 0 rfl rfl ((o.vw 2 rfl).atI (by rw [T.al]; exact hqlt) ?_)
        rw [arc_get (by rw [T.al]; exact hqlt)]
        rcases arc_rng T hqlt with e | ⟨i, e, hi⟩
        · rw [e, pBin_geq, show decide ((0 : Int) ≤ -1) = false from rfl, ifV_false]
          refine hJ _ _ ⟨?_, rfl⟩
          have : parA g r q = none := by show parT _ _ _ = _; unfold parT; rw [e]; rfl
          rw [this]; rfl
        · rw [e, pBin_geq, decide_eq_true (by omega), ifV_true]
          have hpar : parA g r q = some (arcAt g.arcs i).f := by show parT _ _ _ = _; unfold parT; rw [e, if_pos ⟨by omega, by omega⟩, Int.toNat_natCast]
          refine o.load 3 rfl rfl (o.load 0 rfl rfl ((o.vw 2 rfl).atI (by rw [T.al]; exact hqlt) ?_))
          rw [arc_get (by rw [T.al]; exact hqlt), e]
          refine arcF_at (H.2.2.more o.ext) hi ?_
          rw [hpar] at hJ
          rw [pBin_eql, ifV_beq]
          refine ⟨fun hf => ?_, fun hf => hJ _ _ ⟨by rw [decide_eq_false fun h => hf (by have := Option.some.inj h.1; omega)], rfl⟩⟩
          have hfw : (arcAt g.arcs i).f = w := by omega
          refine hat o (i := 1) rfl hqlt ?_
          rw [pBin_gtr, ifV_dec]
          refine ⟨fun hp => ?_, fun hp => ?_⟩
          · cases b with
            | none =>
              show pBin .lss (I (-1)) _ _
              rw [pBin_lss, show decide ((-1 : Int) < 0) = true from rfl, ifV_true]
              refine hJ _ _ ⟨?_, rfl⟩
              rw [bst1_none, if_pos hp, hfw]; simp
            | some u =>
              have hu := hwv u rfl
              show pBin .lss (I u) _ _
              rw [pBin_lss, show decide ((u : Int) < 0) = false from decide_eq_false (by omega), ifV_false]
              refine hat o (i := 1) rfl hqlt (hat o (i := 1) (v := u) rfl (by omega) ?_)
              rw [pBin_gtr]
              refine hJ _ _ ⟨?_, rfl⟩
              rw [bst1_some hu, hfw]
              refine congrArg Value.bool ?_
              by_cases c : szA g ms r u < szA g ms r q
              · rw [if_pos ⟨hp, c⟩, decide_eq_true c]; simp
              · rw [if_neg fun h => c h.2, decide_eq_false c]
                exact (decide_eq_false (p := some w = some w ∧ some u = some q) fun h => by have := Option.some.inj h.2; omega).symm
          · refine hJ _ _ ⟨?_, rfl⟩
            have : bst1 (szA g ms r) b q = b := if_neg fun h => hp h.1
            rw [this]
            refine congrArg Value.bool ?_
            exact (decide_eq_false (p := some (arcAt g.arcs i).f = some w ∧ b = some q) fun h => by have := hwv q h.2; omega).symm
      · rintro ⟨y, ⟨⟩⟩ h6 ⟨hy, rfl⟩
        dsimp only at hy ⊢
        subst hy
        unfold sh_milestoneref16_next_C9 sh_milestoneref16_next_k10
        rw [ifV_dec]
        refine ⟨fun hp => ?_, fun hp => ?_⟩
        · rw [pBin_add, wI q (by omega)]
          exact hZ3 (_, _, ()) _ hqlt ⟨by rw [hsn, if_pos hp.1, hp.2]; rfl, rfl, rfl⟩
        · have : (if parA g r q = some w then bst1 (szA g ms r) b q else b) = b := by
            split
            · rename_i h1
              have h2 : ¬ bst1 (szA g ms r) b q = some q := fun h => hp ⟨h1, h⟩
              unfold bst1 at h2 ⊢
              split at h2
              · exact absurd rfl h2
              · rename_i h; rw [if_neg h]
            · rfl
          rw [pBin_add, wI q (by omega)]
          exact hZ3 (_, _, ()) _ hqlt ⟨by rw [hsn, this], rfl, rfl⟩
    · have : q = g.n := by omega
      subst this
      have hkm : ∀ u, bestS (szA g ms r) (kidsR (parA g r) g.n w) = some u → u ∈ (g.from r).order ∧ (g.from r).order.idxOf w < (g.from r).order.idxOf u := fun u hu => by
        have := (bestS_mem hu).1
        unfold kidsR at this
        obtain ⟨q1, _, _, q4⟩ := par_some T (of_decide_eq_true (List.mem_filter.1 this).2)
        exact ⟨q1, q4⟩
      generalize bestS (szA g ms r) (kidsR (parA g r) g.n w) = b at hw3 hkm
      cases b with
      | none =>
        show pBin .lss (I (-1)) _ _
        rw [pBin_lss, show decide ((-1 : Int) < 0) = true from rfl, ifV_true]
        dsimp only at hw3
        rw [hw3]
        exact hK _ o.ext
      | some u =>
        show pBin .lss (I u) _ _
        rw [pBin_lss, show decide ((u : Int) < 0) = false from decide_eq_false (by omega), ifV_false]
        dsimp only at hw3
        obtain ⟨q1, q2⟩ := hkm u rfl
        exact hZ1 (_, ()) _ hjl ⟨rfl, u, rfl, q1, by omega, hw3⟩

theorem rmarks16_ok {k : Int} (hR : g.Right) (hn : g.n ≤ 16) (H : RawL h vx vy va g) (Hd : Vw encU 1 h vd ds) (hxl : ds.length < 2 ^ 62) (hr : ∀ x ∈ ds, 0 ≤ x ∧ x ≤ 4294967295)
    (hK : ∀ w h', Own h h' [slR encN 1 T_int w (mksA g ds (min k g.n).toNat)] → K w h') : callS Tryz.prog F_milestoneref16_Marks [.agg #[I g.n, vx, vy, va], I k, vd] h K := by
  refine callS_of (lk_milestoneref16_Marks _ _ _ ?_)
  unfold sh_milestoneref16_Marks
  have hpos := hR.pos
  have hvd := Hd.one
  refine (Own.start h).box fun g3 h1 o1 => ?_
  have o1 : Own h h1 [cellR g3 [I g.n, vx, vy, va] T_api_Raw] := o1
  refine pBuild_ones (cs' := [vd, I 0]) (fun p hp => by simp at hp; subst hp; exact hvd) rfl rfl ?_
  refine o1.box fun t12 h2 o2 => ?_
  rw [show (Value.cells (.agg [vd, I 0].toArray)).toList = [vd, I 0] by simp [Value.cells, hvd]] at o2
  have o2 : Own h h2 [cellR t12 [vd, I 0] T_milestoneref05_Draws, cellR g3 [I g.n, vx, vy, va] T_api_Raw] := o2
  generalize hkk : (min k g.n).toNat = kk at hK
  have hkn : kk ≤ g.n := by omega
  refine LoopH_count kk (fun i x h' => Own h h' [slR encN 1 T_int x.1 (mksA g ds i), cellR t12 [vd, I (min i ds.length : Nat)] T_milestoneref05_Draws, cellR g3 [I g.n, vx, vy, va] T_api_Raw]) (by rw [Nat.zero_min]; exact o2.nilS) ?_
  clear o1 o2
  rintro i ⟨wo, ⟨⟩⟩ h3 Z hi o hZ
  dsimp only at o hZ ⊢
  unfold sh_milestoneref16_Marks_L1 sh_milestoneref16_Marks_k3
  simp only [pField_ptr]
  refine (o.vw 0 rfl).len ?_
  rw [mksA_len, pBin_lss, ifV_dec]
  have fin : i = kk → K wo h3 := fun e => by subst e; exact hK wo h3 (o.sel [0] (by decide))
  refine ⟨fun c1 => ?_, fun c1 => fin (by omega)⟩
  refine (o.vw 0 rfl).len (o.load 2 rfl rfl ?_)
  rw [mksA_len, pBin_lss, ifV_dec]
  refine ⟨fun c2 => ?_, fun c2 => fin (by omega)⟩
  have hlt : i < kk := by omega
  obtain ⟨hnd, hmlt⟩ := mksA_ok hR hn (fun x hx => (hr x hx).1) (k := i) (xs := ds) (by omega)
  have hrt : rootA ds g.n i < g.n := rootA_lt (by omega) fun x hx => (hr x hx).1
  refine o.load 2 rfl rfl ?_
  refine rnext05_ok (a := min i ds.length) o 1 rfl Hd (by omega) hpos (by omega) hxl hr fun h4 o4 => ?_
  have ed : ds.drop (min i ds.length) = ds.drop i := by
    by_cases h : i ≤ ds.length
    · rw [Nat.min_eq_left h]
    · rw [Nat.min_eq_right (by omega), List.drop_eq_nil_of_le (Nat.le_refl _), List.drop_eq_nil_of_le (by omega)]
  obtain ⟨e1, e2⟩ := rootA_draw (xs := ds) (i := i) (n := g.n) (by omega) fun x hx => (hr x hx).1
  rw [ed, e1]
  rw [ed, e2, List.length_drop, show ds.length - (ds.length - (i + 1)) = min (i + 1) ds.length by omega] at o4
  have o4 : Own h h4 [slR encN 1 T_int wo (mksA g ds i), cellR t12 [vd, I (min (i + 1) ds.length : Nat)] T_milestoneref05_Draws, cellR g3 [I g.n, vx, vy, va] T_api_Raw] := o4
  have k2 : ∀ (v : Nat) (h' : Heap), mksA g ds (i + 1) = mksA g ds i ++ [v] → Own h h' [slR encN 1 T_int wo (mksA g ds i), cellR t12 [vd, I (min (i + 1) ds.length : Nat)] T_milestoneref05_Draws, cellR g3 [I g.n, vx, vy, va] T_api_Raw] →
      sh_milestoneref16_Marks_k2 Tryz.prog wo (fun a0 hz => Z (a0, ()) hz) (I v) h' := fun v h' he o' => by
    unfold sh_milestoneref16_Marks_k2
    refine o'.app1 0 v rfl rfl (sizesOk_of rfl) (fun _ => rfl) encN_plain rfl (by decide) (by rw [mksA_len]; omega) fun w' h5 o5 => ?_
    refine hZ (_, ()) h5 hlt ?_
    rw [he]
    exact o5
  refine (o4.vw 0 rfl).len ?_
  rw [mksA_len, pBin_gtr, ifV_dec]
  refine ⟨fun hp => ?_, fun hz => ?_⟩
  · refine o4.ldN (cs' := [I g.n, vx, vy, va]) 2 rfl rfl rfl ?_
    refine rnext16_ok hR hn hrt (H.more o4.ext) (o4.vw 0 rfl) hmlt hnd (by rw [mksA_len]; omega) fun h5 x5 => ?_
    refine k2 _ h5 ?_ (o4.more x5)
    show mksA g ds i ++ [if i = 0 then _ else _] = _
    rw [if_neg (by omega)]
  · have hi0 : i = 0 := by omega
    subst hi0
    exact k2 _ h4 rfl o4

end
end Go.Proofs.YtoopkllfpmjnfaaGreatDoor
