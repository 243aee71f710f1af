/- Texts of the proofs of seat YtoopkllfpmjnfaaGreatDoor, joined: F16A, F16B. They have no conditions of their own. -/
import Derived.Test.YtoopkllfpmjnfaaGreatDoorTa
import Derived.Test.YtoopkllfpmjnfaaGreatDoorTb
set_option linter.unusedVariables false
set_option linter.unusedSimpArgs false

namespace Go.Proofs.YtoopkllfpmjnfaaGreatDoor
open Go Go.Mh
set_option linter.unusedVariables false

theorem gW_sz : (growA gW (mksZ gW.n [2]) 0).sz = [0, 0, 0, 1] := by decide +kernel
theorem gW_b : bndZ gW [2] 0 2 = 9 ∧ bndZ gW [2] 0 1 = 5 ∧ bndZ gW [2] 0 3 = 0 := by decide +kernel
theorem gW_m1 : mksA gW [6] (min (1 : Int) gW.n).toNat = [2] := by decide +kernel
theorem gW_m2 : mksA gW [6, 0] (min (2 : Int) gW.n).toNat = [2, 3] := by decide +kernel

section
variable {h0 h : Heap} {L : List Res} {K : Value → Heap → Prop}

theorem eqT16 {a : Int} {A B : Prop} (h : A) : pBin .eql (I a) (I a) fun t => ifV t A B := by
  rw [pBin_eql, beq_self_eq_true, ifV_true]; exact h

theorem works16_ok (hK : ∀ h', Ext h h' → K (.bool true) h') : callS Tryz.prog F_milestonelaw16_works [] h K := by
  refine callS_of (lk_milestonelaw16_works ?_)
  unfold sh_milestonelaw16_works
  refine (Own.start h).build (enc := encI) (n := 1) [0, 0, 0, 0] rfl (sizesOk_of rfl) rfl fun w4 h1 o1 => ?_
  refine ⟨sizesOk_of rfl, sizesOk_of rfl, sizesOk_of rfl, sizesOk_of rfl, ?_⟩
  refine o1.build (enc := encA) (n := 3) gW.arcs (by kernel_rfl) (sizesOk_of rfl) rfl fun wa h2 o2 => ?_
  refine pBuild_ones (cs' := [I gW.n, w4, w4, wa]) (fun p hp => by
    simp at hp
    rcases hp with rfl | rfl | rfl | rfl
    · rfl
    · exact (o2.vw 1 rfl).one
    · exact (o2.vw 1 rfl).one
    · exact (o2.vw 0 rfl).one) rfl rfl ?_
  refine made16_ok o2 gW_right ⟨w4, w4, wa, rfl, o2.vw 1 rfl, o2.vw 1 rfl, o2.vw 0 rfl⟩ fun r N h3 hN o3 => ?_
  simp only [pEq_ptr_nil, Option.isNone_some, ifV_false]
  have o := o3.sel [0] (by decide)
  clear o3 o2 o1
  refine o.build (enc := encI) (n := 1) [2] rfl (sizesOk_of rfl) rfl fun w2 h4 o => ?_
  refine aSizes_ok (g := gW) (r := 0) (l := [2]) gW_right (hN _ (o.get 1 rfl)) (by decide) (by decide) (o.vw 0 rfl) (by decide) fun ws h5 o5 => ?_
  rw [gW_sz] at o5
  replace o := o.frame o5
  refine aBound_ok (g := gW) (l := [2]) gW_right (hN _ (o.get 2 rfl)) (o.vw 1 rfl) (by decide) fun h6 x6 => ?_
  replace o := o.more x6
  rw [gW_b.1]
  refine eqT16 ?_
  refine aBound_ok (g := gW) (l := [2]) gW_right (hN _ (o.get 2 rfl)) (o.vw 1 rfl) (by decide) fun h7 x7 => ?_
  replace o := o.more x7
  rw [gW_b.2.1]
  refine eqT16 ?_
  refine aBound_ok (g := gW) (l := [2]) gW_right (hN _ (o.get 2 rfl)) (o.vw 1 rfl) (by decide) fun h8 x8 => ?_
  replace o := o.more x8
  rw [gW_b.2.2, pBin_eql, beq_self_eq_true]
  unfold sh_milestonelaw16_works_k1
  clear o5 x6 x7 x8
  refine o.build (enc := encU) (n := 1) [6] rfl (sizesOk_of rfl) rfl fun w1 h9 o => ?_
  refine dnew_ok o (o.vw 0 rfl) (by decide) fun pd w h4 o => ?_
  refine amarksD_ok (k := 1) o 3 rfl gW_right hN (by decide) (by decide) (by decide) (by decide) fun wm vl' h5 o => ?_
  rw [gW_m1] at o
  refine o.build (enc := encN) (n := 1) [2] rfl (sizesOk_of rfl) rfl fun w2 h6 o => ?_
  refine rows16_ok (e := fun (x : Nat) => (x : Int)) (fun _ => rfl) (o.vw 1 rfl) (o.vw 0 rfl) (by decide) ?_
  rw [ifV_true, ifV_true]
  replace o := o.sel [5, 7] (by decide)
  refine (o.vw 0 rfl).len (eqT16 ?_)
  refine (o.vw 0 rfl).atI (i := 0) (by decide) (eqT16 ?_)
  refine (o.vw 0 rfl).atI (i := 1) (by decide) (eqT16 ?_)
  refine (o.vw 0 rfl).atI (i := 2) (by decide) (eqT16 ?_)
  refine (o.vw 0 rfl).atI (i := 3) (by decide) (eqT16 ?_)
  refine o.build (enc := encU) (n := 1) [6, 0] rfl (sizesOk_of rfl) rfl fun w1 h9 o => ?_
  refine dnew_ok o (o.vw 0 rfl) (by decide) fun pd w h4 o => ?_
  refine amarksD_ok (k := 2) o 2 rfl gW_right hN (by decide) (by decide) (by decide) (by decide) fun wm vl' h5 o => ?_
  rw [gW_m2] at o
  refine o.build (enc := encN) (n := 1) [2, 3] rfl (sizesOk_of rfl) rfl fun w2 h6 o => ?_
  exact rows16_ok (e := fun (x : Nat) => (x : Int)) (fun _ => rfl) (o.vw 1 rfl) (o.vw 0 rfl) (by decide) (hK _ o.ext)

end
end Go.Proofs.YtoopkllfpmjnfaaGreatDoor

namespace Go.Proofs.YtoopkllfpmjnfaaGreatDoor
open Go Go.Mh
set_option linter.unusedVariables false

theorem bndZ_nn {g : G} {l : List Int} {r v : Nat} (hr : r < g.n) (hv : v < g.n) : bndZ g l r v = bnd g (mksZ g.n l) r v := by
  unfold bndZ
  rw [if_pos ⟨⟨by omega, by omega⟩, by omega, by omega⟩, Int.toNat_natCast, Int.toNat_natCast]

section
variable {h0 h : Heap} {L : List Res} {K : Value → Heap → Prop} {g : G} {vb vm : Value} {bs ms : List Int}

theorem agg4_plain {vx vy va : Value} {n : Int} {h' : Heap} {i j k : Nat} {L : List Res} (o : Own h0 h' L) (hi : L[i]? = some (xR vx g.X)) (hj : L[j]? = some (xR vy g.Y)) (hk : L[k]? = some (aR va g.arcs)) : ∀ u ∈ [I n, vx, vy, va], Mh.plainCell u = true := by
  intro u hu
  simp at hu
  rcases hu with rfl | rfl | rfl | rfl
  · rfl
  · exact (o.vw i hi).plain
  · exact (o.vw j hj).plain
  · exact (o.vw k hk).plain

theorem avoidBounds_ok {z : Int} (H : Vw encU8 1 h vb bs) (Hm : Vw encU8 1 h vm ms) (hmr : ∀ x ∈ ms, 0 ≤ x ∧ x ≤ 255) (hz : 0 ≤ z ∧ z < 256) (hK : ∀ h', Ext h h' → K (.bool true) h') :
    CallsH Tryz.prog F_milestonelaw16_AvoidBounds [vb, vm, .int .u8 z].toArray h K := by
  refine lk_milestonelaw16_AvoidBounds _ _ _ ?_
  unfold sh_milestonelaw16_AvoidBounds
  refine works16_ok fun h1 x1 => ?_
  rw [pUn_not, Bool.not_true, ifV_false]
  refine drawn16_ok (H.more x1) fun g vx vy va h2 hg o2' => ?_
  have o2 : Own h h2 [xR vx g.X, xR vy g.Y, aR va g.arcs] := ((Own.start h).more x1).frame o2'
  clear o2'
  have hR := hg.toRight
  have hmost := hg.few
  have hpos := hR.pos
  refine o2.box fun g7 h3 o3 => o3.st (cs' := [I g.n, vx, vy, va]) 0 rfl rfl rfl rfl rfl (agg4_plain o3 (i := 1) (j := 2) (k := 3) rfl rfl rfl) fun h4 o4 => o4.ldN (cs' := [I g.n, vx, vy, va]) 0 rfl rfl rfl ?_
  refine made16_ok o4 hR ⟨vx, vy, va, rfl, o4.vw 1 rfl, o4.vw 2 rfl, o4.vw 3 rfl⟩ fun r N h5 hN o5 => ?_
  simp only [pEq_ptr_nil, Option.isNone_some, ifV_false, pField_ptr, pConv_int]
  rw [w64 (by omega) (by omega)]
  refine o5.load 1 rfl rfl ?_
  rw [pBin_rem]
  refine ⟨by omega, ?_⟩
  obtain ⟨f, hf, hfn⟩ : ∃ f : Nat, z.tmod g.n = (f : Int) ∧ f < g.n := by
    have h1 := Int.tmod_nonneg (g.n : Int) hz.1
    have h2 := Int.tmod_lt_of_pos z (show (0 : Int) < g.n by omega)
    exact ⟨(z.tmod g.n).toNat, by omega, by omega⟩
  rw [hf]
  have T := from_tree hR hfn
  refine from_ok hR (hN _ (o5.get 0 rfl)) fun sd sa so h6 o6' => ?_
  have o6 := o5.frame o6'
  rw [show g.fromI f = g.from f by simp [G.fromI, hfn]] at o6
  refine o6.box fun x10 h7 o7 => o7.st (cs' := [sd, sa, so]) 0 rfl rfl rfl rfl rfl ?_ fun h8 o8 => ?_
  · intro u hu
    simp at hu
    rcases hu with rfl | rfl | rfl
    · exact (o6.vw 0 rfl).plain
    · exact (o6.vw 1 rfl).plain
    · exact (o6.vw 2 rfl).plain
  have o : Own h h8 [cellR x10 [sd, sa, so] T_flood_Tree, xR sd (g.from f).dist, N, cellR g7 [I g.n, vx, vy, va] T_api_Raw] := o8.sel [0, 1, 4, 5] (by decide)
  clear o8 o7 o6 o6' o5 o4 o3 o2
  have hdl : (g.from f).dist.length = g.n := T.ls.len
  have k5 : ∀ (h' : Heap) (X : List Res), Own h h' (X ++ [cellR x10 [sd, sa, so] T_flood_Tree, xR sd (g.from f).dist, N, cellR g7 [I g.n, vx, vy, va] T_api_Raw]) → sh_milestonelaw16_AvoidBounds_k5 Tryz.prog (ptr g7) (ptr x10) (ptr r) (I f) K h' := by
    intro h' X o'
    have o := (Own.comm o').left
    clear o'
    unfold sh_milestonelaw16_AvoidBounds_k5
    refine LoopH_count g.n (fun v x h' => x.1 = I v ∧ Own h h' [cellR x10 [sd, sa, so] T_flood_Tree, xR sd (g.from f).dist, N, cellR g7 [I g.n, vx, vy, va] T_api_Raw]) ⟨rfl, o⟩ ?_
    clear o
    rintro v ⟨x, ⟨⟩⟩ h9 Z hv ⟨hx, o⟩ hZ
    dsimp only at hx hZ ⊢
    subst hx
    unfold sh_milestonelaw16_AvoidBounds_L6
    simp only [pField_ptr]
    refine o.load 3 rfl rfl ?_
    rw [pBin_lss, ifV_dec]
    refine ⟨fun hlt => ?_, fun hge => hK _ o.ext⟩
    have hlt : v < g.n := by omega
    have hvl : v < (g.from f).dist.length := by omega
    obtain ⟨s1, s2⟩ := bnd_self hR hfn hlt
    refine cutP_of (fun y h' => y.1 = .bool false ∧ Own h h' [cellR x10 [sd, sa, so] T_flood_Tree, xR sd (g.from f).dist, N, cellR g7 [I g.n, vx, vy, va] T_api_Raw]) (fun J hJ => ?_) ?_
    · refine o.load 0 rfl rfl ((o.vw 1 rfl).idxI hvl fun b1 f1 c1 => pLoad_of rfl c1 ?_)
      refine (Own.start h9).build (enc := encI) (n := 1) [(v : Int)] rfl (sizesOk_of rfl) rfl fun w1 h10 p10 => ?_
      refine aBound_ok (l := [(v : Int)]) hR (hN _ ((o.more p10.ext).get 2 rfl)) (p10.vw 0 rfl) (show 1 < 2 ^ 32 by decide) fun h11 x11 => ?_
      have e11 := (p10.more x11).ext
      have o11 := o.more e11
      refine ⟨o11.load 0 rfl rfl rfl, pLoad_of rfl (hcell_more e11 c1) rfl, ?_⟩
      have em : ∀ u : Nat, u < g.n → mksZ g.n [(u : Int)] = [u] := fun u hu => mksZ_nI (n := g.n) (l := [u]) fun m hm => by rw [List.mem_singleton.1 hm]; exact hu
      rw [bndZ_nn hfn hlt, em v hlt, s1, dAt_get hvl, pBin_neq, bne_self_eq_false, ifV_false]
      refine o11.load 0 rfl rfl ((o11.vw 1 rfl).idxI hvl fun b2 f2 c2 => pLoad_of rfl c2 ?_)
      refine (Own.start h11).build (enc := encI) (n := 1) [(f : Int)] rfl (sizesOk_of rfl) rfl fun w2 h12 p12 => ?_
      refine aBound_ok (l := [(f : Int)]) hR (hN _ ((o11.more p12.ext).get 2 rfl)) (p12.vw 0 rfl) (show 1 < 2 ^ 32 by decide) fun h13 x13 => ?_
      have e13 := (p12.more x13).ext
      have o13 := o11.more e13
      refine ⟨o13.load 0 rfl rfl rfl, pLoad_of rfl (hcell_more e13 c2) rfl, ?_⟩
      rw [bndZ_nn hfn hlt, em f hfn, s2, dAt_get hvl, pBin_neq, bne_self_eq_false]
      exact hJ _ _ ⟨rfl, o13⟩
    · rintro ⟨y, ⟨⟩⟩ h14 ⟨hy, o14⟩
      dsimp only at hy ⊢
      subst hy
      unfold sh_milestonelaw16_AvoidBounds_C7
      rw [ifV_false, pBin_add, wI v (by omega)]
      exact hZ (_, ()) _ hlt ⟨rfl, o14⟩
  have hlN : ∀ i : Nat, i ≤ ms.length → ((ms.take i).map fun (x : Int) => x.tmod g.n).length ≤ ms.length := fun i hi => by rw [List.length_map, List.length_take]; omega
  refine LoopH_count (min ms.length 4) (fun i x h' => x.2.1 = I i ∧ Own h h' [slR encI 1 T_int x.1 ((ms.take i).map fun (x : Int) => x.tmod g.n), cellR x10 [sd, sa, so] T_flood_Tree, xR sd (g.from f).dist, N, cellR g7 [I g.n, vx, vy, va] T_api_Raw]) ⟨rfl, o.nilS⟩ ?_
  clear o
  rintro i ⟨wl, y, ⟨⟩⟩ h9 Z hi ⟨hy, o⟩ hZ
  dsimp only at hy o hZ ⊢
  subst hy
  unfold sh_milestonelaw16_AvoidBounds_L1
  refine (Hm.more o.ext).len ?_
  rw [pBin_lss, ifV_dec]
  refine ⟨fun c1 => ?_, fun c1 => k5 h9 [_] o⟩
  rw [pBin_lss, ifV_dec]
  refine ⟨fun c2 => ?_, fun c2 => k5 h9 [_] o⟩
  have hil : i < ms.length := by omega
  have hrx := hmr _ (List.getElem_mem hil)
  have tk : (ms.take (i + 1)).map (fun (x : Int) => x.tmod g.n) = (ms.take i).map (fun (x : Int) => x.tmod g.n) ++ [ms[i].tmod g.n] := by rw [List.take_succ_eq_append_getElem hil, List.map_append]; rfl
  have hln : ((ms.take i).map fun (x : Int) => x.tmod g.n).length = i := by rw [List.length_map, List.length_take]; omega
  rw [tk] at hZ
  have hpx : ∀ {h' : Heap} {K' : Value → Prop}, Ext h h' → (∀ b o, hcell h' ⟨b, o, none⟩ = some (.int .u8 ms[i]) → K' (.pointer (some ⟨b, o, none⟩))) → pIdx 1 vm (I i) K' := fun x hk => by
    exact (Hm.more x).idx (fun _ => rfl) hil fun b o hc => hk b o (by simpa [encU8] using hc 0 (by omega))
  generalize (ms.take i).map (fun (x : Int) => x.tmod g.n) = lo at o hZ hln k5
  generalize ms[i] = m at hpx hrx hZ
  refine cutP_of (fun y h' => ∃ wm, y.1 = wm ∧ Own h h' [slR encI 1 T_int wm (lo ++ [m.tmod g.n]), slR encI 1 T_int wl lo, cellR x10 [sd, sa, so] T_flood_Tree, xR sd (g.from f).dist, N, cellR g7 [I g.n, vx, vy, va] T_api_Raw]) (fun J hJ => ?_) ?_
  · refine hpx o.ext fun b1 f1 c1 => pLoad_of rfl c1 ?_
    simp only [pConv_int, pField_ptr]
    rw [w64 (by omega) (by omega)]
    refine o.load 4 rfl rfl ?_
    rw [pBin_rem]
    refine ⟨by omega, ?_⟩
    have hb1 : (([] : List Int).length + lo.length) * 8 ≤ 2 ^ 47 := by simp; omega
    have hb2 : (([] ++ lo).length + [m.tmod g.n].length) * 8 ≤ 2 ^ 47 := by simp; omega
    refine ⟨(Own.start h9).build (enc := encI) (n := 1) [] rfl (sizesOk_of rfl) rfl fun w44 h10 p10 => ⟨?_, ?_⟩, ?_⟩
    · refine p10.app 0 rfl encI_len encI_plain rfl ((o.vw 0 rfl).more p10.ext) (by decide) hb1 fun w46 h11 p11 => ?_
      refine ⟨pLoad_of rfl (hcell_more p11.ext c1) rfl, (o.more p11.ext).load 4 rfl rfl rfl, ?_⟩
      refine p11.build (enc := encI) (n := 1) [m.tmod g.n] rfl (sizesOk_of rfl) rfl fun w55 h12 p12 => ?_
      refine p12.app 1 rfl encI_len encI_plain rfl (p12.vw 0 rfl) (by decide) hb2 fun w56 h13 p13 => ?_
      exact hJ _ _ ⟨w56, rfl, (o.frame p13).sel [1, 2, 3, 4, 5, 6] (by decide)⟩
    · refine p10.build (enc := encI) (n := 1) [m.tmod g.n] rfl (sizesOk_of rfl) rfl fun w55 h12 p12 => ?_
      refine p12.app 1 rfl encI_len encI_plain rfl ((o.vw 0 rfl).more p12.ext) (by decide) hb1 fun w46 h11 p11 => ?_
      refine p11.app 1 rfl encI_len encI_plain rfl (p11.vw 0 rfl) (by decide) hb2 fun w56 h13 p13 => ?_
      exact hJ _ _ ⟨w56, rfl, (o.frame p13).sel [1, 2, 3, 4, 5, 6] (by decide)⟩
    · refine (Own.start h9).build (enc := encI) (n := 1) [m.tmod g.n] rfl (sizesOk_of rfl) rfl fun w55 h10 p10 => ?_
      refine p10.build (enc := encI) (n := 1) [] rfl (sizesOk_of rfl) rfl fun w44 h12 p12 => ?_
      refine p12.app 0 rfl encI_len encI_plain rfl ((o.vw 0 rfl).more p12.ext) (by decide) hb1 fun w46 h11 p11 => ?_
      refine p11.app 0 rfl encI_len encI_plain rfl (p11.vw 1 rfl) (by decide) hb2 fun w56 h13 p13 => ?_
      exact hJ _ _ ⟨w56, rfl, (o.frame p13).sel [0, 2, 3, 4, 5, 6] (by decide)⟩
  · rintro ⟨y, ⟨⟩⟩ h10 ⟨wm, hy, o10⟩
    dsimp only at hy ⊢
    subst hy
    unfold sh_milestonelaw16_AvoidBounds_C2
    refine LoopH_count g.n (fun v x h' => x.1 = I v ∧ Own h h' [slR encI 1 T_int y (lo ++ [m.tmod g.n]), slR encI 1 T_int wl lo, cellR x10 [sd, sa, so] T_flood_Tree, xR sd (g.from f).dist, N, cellR g7 [I g.n, vx, vy, va] T_api_Raw]) ⟨rfl, o10⟩ ?_
    clear o10 o
    rintro v ⟨x, ⟨⟩⟩ h11 Z1 hv ⟨hx, o⟩ hZ1
    dsimp only at hx hZ1 ⊢
    subst hx
    unfold sh_milestonelaw16_AvoidBounds_L3 sh_milestonelaw16_AvoidBounds_k4
    simp only [pField_ptr]
    refine o.load 5 rfl rfl ?_
    rw [pBin_lss, ifV_dec]
    refine ⟨fun hlt => ?_, fun hge => ?_⟩
    · have hlt : v < g.n := by omega
      have hvl : v < (g.from f).dist.length := by omega
      refine aBound_ok hR (hN _ (o.get 4 rfl)) (o.vw 1 rfl) (by omega) fun h12 x12 => ?_
      replace o := o.more x12
      refine aBound_ok hR (hN _ (o.get 4 rfl)) (o.vw 0 rfl) (by rw [List.length_append, List.length_singleton]; omega) fun h13 x13 => ?_
      replace o := o.more x13
      rw [bndZ_nn hfn hlt, bndZ_nn hfn hlt, mksZ_snoc]
      have n1 := @bnd_nonneg g f v (mksZ g.n lo)
      have n2 : bnd g (mksZ g.n lo) f v ≤ bnd g (mksZ g.n lo ++ (if 0 ≤ m.tmod g.n ∧ m.tmod g.n < g.n then [(m.tmod g.n).toNat] else [])) f v := by
        unfold bnd
        rw [List.foldl_append]
        exact bnd_up
      have n3 : bnd g (mksZ g.n lo ++ (if 0 ≤ m.tmod g.n ∧ m.tmod g.n < g.n then [(m.tmod g.n).toNat] else [])) f v ≤ dAt (g.from f).dist v := by
        rw [← mksZ_snoc]
        exact bnd_le hR hfn hlt mksZ_lt
      rw [pBin_lss, decide_eq_false (by omega), ifV_false, pBin_lss, decide_eq_false (by omega), ifV_false]
      refine o.load 2 rfl rfl ((o.vw 3 rfl).atI hvl ?_)
      rw [dAt_get hvl, pBin_gtr, decide_eq_false (by omega), ifV_false, pBin_add, wI v (by omega)]
      exact hZ1 (_, ()) _ hlt ⟨rfl, o⟩
    · rw [pBin_add, wI i (by omega)]
      exact hZ (_, _, ()) _ (by omega) ⟨rfl, o.sel [0, 2, 3, 4, 5] (by decide)⟩

end
end Go.Proofs.YtoopkllfpmjnfaaGreatDoor
