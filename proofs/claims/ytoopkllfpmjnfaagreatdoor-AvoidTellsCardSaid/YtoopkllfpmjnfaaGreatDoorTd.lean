/- Texts of the proofs of seat YtoopkllfpmjnfaaGreatDoor, joined: F16D. They have no conditions of their own. -/
import Derived.Test.YtoopkllfpmjnfaaGreatDoorTc
set_option linter.unusedVariables false
set_option linter.unusedSimpArgs false

namespace Go.Proofs.YtoopkllfpmjnfaaGreatDoor
open Go Go.Mh
set_option linter.unusedVariables false

section
variable {h0 h : Heap} {L : List Res} {K : Value → Heap → Prop} {g : G} {vb vd vm : Value} {bs ds ms : List Int}

theorem sz_map {g : G} {ms : List Nat} {r : Nat} (hl : (growA g ms r).sz.length = g.n) : (List.range g.n).map (szA g ms r) = (growA g ms r).sz := by
  apply List.ext_getElem?
  intro i
  by_cases hi : i < g.n
  · rw [List.getElem?_eq_getElem (show i < (growA g ms r).sz.length by omega)]
    simp [hi, szA, List.getD_eq_getElem?_getD, List.getElem?_eq_getElem (show i < (growA g ms r).sz.length by omega)]
  · rw [List.getElem?_eq_none (by simp; omega), List.getElem?_eq_none (by omega)]

theorem avoidTells_ok (H : Vw encU8 1 h vb bs) (Hd0 : Vw encU 1 h vd ds) (hdr : ∀ x ∈ ds, 0 ≤ x ∧ x ≤ 4294967295) (Hm : Vw (encK .i8) 1 h vm ms) (hmr : ∀ x ∈ ms, -128 ≤ x ∧ x ≤ 127) (hK : ∀ h', Ext h h' → K (.bool true) h') :
    CallsH Tryz.prog F_milestonelaw16_AvoidTells [vb, vd, vm].toArray h K := by
  refine lk_milestonelaw16_AvoidTells _ _ _ ?_
  unfold sh_milestonelaw16_AvoidTells
  refine drawn16_ok H fun g vx vy va h2 hg o2 => ?_
  have hR := hg.toRight
  have hmost := hg.few
  have hpos := hR.pos
  refine o2.box fun g7 h3 o3 => o3.st (cs' := [I g.n, vx, vy, va]) 0 rfl rfl rfl rfl rfl (agg4_plain o3 (i := 1) (j := 2) (k := 3) rfl rfl rfl) fun h4 o4 => o4.ldN (cs' := [I g.n, vx, vy, va]) 0 rfl rfl rfl ?_
  refine made16_ok o4 hR ⟨vx, vy, va, rfl, o4.vw 1 rfl, o4.vw 2 rfl, o4.vw 3 rfl⟩ fun r N h5 hN o5 => ?_
  simp only [pEq_ptr_nil, Option.isNone_some, ifV_false]
  have o : Own h h5 [N, cellR g7 [I g.n, vx, vy, va] T_api_Raw, xR vx g.X, xR vy g.Y, aR va g.arcs] := o5
  clear o5 o4 o3 o2
  refine (Hd0.more o.ext).len ?_
  rw [pMin_int, show (if (12 : Int) < (ds.length : Int) then (12 : Int) else (ds.length : Int)) = ((min ds.length 12 : Nat) : Int) by split <;> omega]
  refine Hd0.subA (a := 0) (j := min ds.length 12) (fun _ => rfl) rfl rfl (by omega) (by omega) fun w27 hw27 => ?_
  have hxl : ((ds.drop 0).take (min ds.length 12 - 0)).length ≤ 12 := by rw [List.length_take]; omega
  have hxr : ∀ x ∈ (ds.drop 0).take (min ds.length 12 - 0), 0 ≤ x ∧ x ≤ 4294967295 := fun x hx => hdr x (List.mem_of_mem_drop (List.mem_of_mem_take hx))
  generalize (ds.drop 0).take (min ds.length 12 - 0) = xs at hw27 hxl hxr
  have hx0 : ∀ x ∈ xs, 0 ≤ x := fun x hx => (hxr x hx).1
  -- the marks that were drawn
  have k2 : ∀ (wl : Value) (lo : List Int) (h6 : Heap), lo.length ≤ 5 → Own h h6 [slR encI 1 T_int wl lo, N, cellR g7 [I g.n, vx, vy, va] T_api_Raw, xR vx g.X, xR vy g.Y, aR va g.arcs] → sh_milestonelaw16_AvoidTells_k2 Tryz.prog (ptr g7) w27 (ptr r) K wl h6 := by
    intro wl lo h6 hlo o
    unfold sh_milestonelaw16_AvoidTells_k2
    -- bounds
    have fin : ∀ (z : Int) (h' : Heap) (X : List Res), Own h h' (X ++ [slR encI 1 T_int wl lo, N, cellR g7 [I g.n, vx, vy, va] T_api_Raw, xR vx g.X, xR vy g.Y, aR va g.arcs]) →
        LoopH (σ := Vals [16]) (fun x hh ZZ => sh_milestonelaw16_AvoidTells_L6 Tryz.prog (ptr g7) (ptr r) wl (I z) K x.1 hh (fun a0 hz => ZZ (a0, ()) hz)) ((.int .i64 (-1)), ()) h' := by
      intro z h' X o'
      have o := (Own.comm o').left
      clear o'
      refine LoopH_count (g.n + 2) (fun i x h' => x.1 = I ((i : Int) - 1) ∧ Own h h' [slR encI 1 T_int wl lo, N, cellR g7 [I g.n, vx, vy, va] T_api_Raw, xR vx g.X, xR vy g.Y, aR va g.arcs]) ⟨rfl, o⟩ ?_
      clear o
      rintro i ⟨x, ⟨⟩⟩ h7 Z hi ⟨hx, o⟩ hZ
      dsimp only at hx hZ ⊢
      subst hx
      unfold sh_milestonelaw16_AvoidTells_L6
      simp only [pField_ptr]
      refine o.load 2 rfl rfl ?_
      rw [pBin_leq, ifV_dec]
      refine ⟨fun c => ?_, fun c => works16_ok fun h8 x8 => hK _ (o.more x8).ext⟩
      refine cutP_of (fun y h' => y.1 = .bool false ∧ Own h h' [slR encI 1 T_int wl lo, N, cellR g7 [I g.n, vx, vy, va] T_api_Raw, xR vx g.X, xR vy g.Y, aR va g.arcs]) (fun J hJ => ?_) ?_
      · refine o.ldN (cs' := [I g.n, vx, vy, va]) 2 rfl rfl rfl ?_
        refine aBound_ok (l := lo) hR (hN _ (o.get 1 rfl)) (o.vw 0 rfl) (by omega) fun h8 x8 => ?_
        have o8 := o.more x8
        refine ⟨o8.ldN (cs' := [I g.n, vx, vy, va]) 2 rfl rfl rfl rfl, ?_⟩
        refine rbound16_ok (l := lo) hR ⟨o8.vw 3 rfl, o8.vw 4 rfl, o8.vw 5 rfl⟩ (o8.vw 0 rfl) (by omega) fun h9 x9 => ?_
        have o9 := o8.more x9
        rw [pBin_neq, bne_self_eq_false, ifV_false]
        refine o9.ldN (cs' := [I g.n, vx, vy, va]) 2 rfl rfl rfl ?_
        refine aBound_ok (l := lo) hR (hN _ (o9.get 1 rfl)) (o9.vw 0 rfl) (by omega) fun h10 x10 => ?_
        have o10 := o9.more x10
        refine ⟨o10.ldN (cs' := [I g.n, vx, vy, va]) 2 rfl rfl rfl rfl, ?_⟩
        refine rbound16_ok (l := lo) hR ⟨o10.vw 3 rfl, o10.vw 4 rfl, o10.vw 5 rfl⟩ (o10.vw 0 rfl) (by omega) fun h11 x11 => ?_
        rw [pBin_neq, bne_self_eq_false]
        exact hJ _ _ ⟨rfl, o10.more x11⟩
      · rintro ⟨y, ⟨⟩⟩ h8 ⟨hy, o8⟩
        dsimp only at hy ⊢
        subst hy
        unfold sh_milestonelaw16_AvoidTells_C7
        rw [ifV_false, pBin_add, w64 (by omega) (by omega)]
        exact hZ (_, ()) _ (by omega) ⟨by show I _ = I _; congr 1; omega, o8⟩
    -- sizes
    have cmp : ∀ (z : Int) (w73 w77 : Value) (S : List Int) (h' : Heap) (X : List Res), S.length ≤ 12 → Vw encI 1 h' w73 S → Vw encI 1 h' w77 S → Own h h' (X ++ [slR encI 1 T_int wl lo, N, cellR g7 [I g.n, vx, vy, va] T_api_Raw, xR vx g.X, xR vy g.Y, aR va g.arcs]) →
        pLen w73 fun t79 => pLen w77 fun t81 => pBin .neq t79 t81 fun t82 => ifV t82 (K (.bool false) h') (LoopH (σ := Vals [15]) (fun x hh ZZ => sh_milestonelaw16_AvoidTells_L5 Tryz.prog w73 w77 K (ptr g7) (ptr r) wl (I z) x.1 hh (fun a0 hz => ZZ (a0, ()) hz)) ((.int .i64 0), ()) h') := by
      intro z w73 w77 S h' X hS A B o'
      refine A.len (B.len ?_)
      rw [pBin_neq, bne_self_eq_false, ifV_false]
      refine LoopH_count S.length (fun i x h'' => x.1 = I i ∧ h'' = h') ⟨rfl, rfl⟩ ?_
      rintro i ⟨x, ⟨⟩⟩ h'' Z hi ⟨hx, rfl⟩ hZ
      dsimp only at hx hZ ⊢
      subst hx
      unfold sh_milestonelaw16_AvoidTells_L5
      refine A.len ?_
      rw [pBin_lss, ifV_dec]
      refine ⟨fun c => ?_, fun c => fin z _ X o'⟩
      have hlt : i < S.length := by omega
      refine A.atI hlt (B.atI hlt ?_)
      rw [pBin_neq, bne_self_eq_false, ifV_false, pBin_add, wI i (by omega)]
      exact hZ (_, ()) _ hlt ⟨rfl, rfl⟩
    have k4 : ∀ (q : Nat) (h' : Heap) (X : List Res), Own h h' (X ++ [slR encI 1 T_int wl lo, N, cellR g7 [I g.n, vx, vy, va] T_api_Raw, xR vx g.X, xR vy g.Y, aR va g.arcs]) → sh_milestonelaw16_AvoidTells_k4 Tryz.prog (ptr g7) (ptr r) wl K (I q) h' := by
      intro q h' X o'
      have o := (Own.comm o').left
      clear o'
      unfold sh_milestonelaw16_AvoidTells_k4
      refine o.ldN (cs' := [I g.n, vx, vy, va]) 2 rfl rfl rfl ?_
      by_cases hq : q < g.n
      · refine aSizes_ok (l := lo) hR (hN _ (o.get 1 rfl)) (by omega) hq (o.vw 0 rfl) (by omega) fun ws h8 o8' => ?_
        have o8 := o.frame o8'
        refine ⟨o8.ldN (cs' := [I g.n, vx, vy, va]) 3 rfl rfl rfl rfl, ?_⟩
        refine rsizes16_ok (l := lo) hR (by omega) hq ⟨o8.vw 4 rfl, o8.vw 5 rfl, o8.vw 6 rfl⟩ (o8.vw 1 rfl) (by omega) fun wt h9 o9' => ?_
        have o9 := o8.frame o9'
        have hszl : (growA g (mksZ g.n lo) q).sz.length = g.n := (growA_gi hR (by omega) hq mksZ_lt).sl
        rw [sz_map hszl] at o9
        exact cmp q ws wt _ h9 [_, _] (by omega) (o9.vw 1 rfl) (o9.vw 0 rfl) o9
      · refine aSizes_none (z := (q : Int)) (hN _ (o.get 1 rfl)) (by omega) ?_
        refine ⟨o.ldN (cs' := [I g.n, vx, vy, va]) 2 rfl rfl rfl rfl, ?_⟩
        refine rsizes16_none (g := g) (z := (q : Int)) (by omega) fun h9 x9 => ?_
        exact cmp q _ _ [] h9 [] (by decide) .nil .nil (o.more x9)
    refine LoopH_count 7 (fun i x h' => x.1 = I ((i : Int) - 1) ∧ Own h h' [slR encI 1 T_int wl lo, N, cellR g7 [I g.n, vx, vy, va] T_api_Raw, xR vx g.X, xR vy g.Y, aR va g.arcs]) ⟨rfl, o⟩ ?_
    clear o
    rintro i ⟨x, ⟨⟩⟩ h7 Z hi ⟨hx, o⟩ hZ
    dsimp only at hx hZ ⊢
    subst hx
    unfold sh_milestonelaw16_AvoidTells_L3
    rw [pBin_leq, ifV_dec]
    have H27 : ∀ {h' : Heap}, Ext h h' → Vw encU 1 h' w27 xs := fun x => hw27 _ (Hd0.more x)
    refine ⟨fun c => ?_, fun c => ?_⟩
    · refine o.ldN (cs' := [I g.n, vx, vy, va]) 2 rfl rfl rfl ?_
      refine dnew_ok o (H27 o.ext) (by omega) fun pd w h8 o8 => ⟨o8.ldN (cs' := [I g.n, vx, vy, va]) 4 rfl rfl rfl rfl, ?_⟩
      refine amarksD_ok (k := (i : Int) - 1) o8 1 rfl hR hN (by omega) (by omega) (by omega) hxr fun w55 vl' h9 o9 => ⟨o9.ldN (cs' := [I g.n, vx, vy, va]) 5 rfl rfl rfl rfl, ?_⟩
      refine rmarks16_ok (k := (i : Int) - 1) hR (by omega) ⟨o9.vw 6 rfl, o9.vw 7 rfl, o9.vw 8 rfl⟩ (H27 o9.ext) (by omega) hxr fun w59 h10 o10' => ?_
      have o10 := o9.frame o10'
      refine rints_ok (e := fun (x : Nat) => (x : Int)) (fun _ => rfl) (o10.vw 1 rfl) (o10.vw 0 rfl) (by rw [mksA_len]; omega) ?_
      rw [pUn_not, Bool.not_true, ifV_false, pBin_add, w64 (by omega) (by omega)]
      exact hZ (_, ()) _ (by omega) ⟨by show I _ = I _; congr 1; omega, o10.sel [4, 5, 6, 7, 8, 9] (by decide)⟩
    · refine (H27 o.ext).len ?_
      rw [pBin_gtr, ifV_dec]
      refine ⟨fun c2 => ?_, fun c2 => k4 0 h7 [] o⟩
      have hl0 : 0 < xs.length := by omega
      refine (H27 o.ext).at1 (e := fun x : Int => .int .u32 x) (fun _ => rfl) (i := 0) hl0 ?_
      have h0 := hx0 _ (List.getElem_mem hl0)
      rw [pBin_rem]
      refine ⟨by omega, ?_⟩
      have h1 := Int.tmod_nonneg (16 : Int) h0
      have h2 := Int.tmod_lt_of_pos xs[0] (show (0 : Int) < 16 by omega)
      obtain ⟨q, hq⟩ : ∃ q : Nat, xs[0].tmod 16 = (q : Int) := Int.eq_ofNat_of_zero_le h1
      rw [hq, pConv_int, w64 (by omega) (by omega)]
      exact k4 q h7 [] o
  refine LoopH_count (min ms.length 5) (fun i x h' => x.2.1 = I i ∧ Own h h' [slR encI 1 T_int x.1 ((ms.take i).map fun (x : Int) => x.tmod 16), N, cellR g7 [I g.n, vx, vy, va] T_api_Raw, xR vx g.X, xR vy g.Y, aR va g.arcs]) ⟨rfl, o.nilS⟩ ?_
  clear o
  rintro i ⟨wl, y, ⟨⟩⟩ h9 Z hi ⟨hy, o⟩ hZ
  dsimp only at hy o hZ ⊢
  subst hy
  have hln : ((ms.take i).map fun (x : Int) => x.tmod 16).length = i := by rw [List.length_map, List.length_take]; omega
  unfold sh_milestonelaw16_AvoidTells_L1
  refine (Hm.more o.ext).len ?_
  rw [pBin_lss, ifV_dec]
  refine ⟨fun c1 => ?_, fun c1 => k2 wl _ h9 (by omega) o⟩
  rw [pBin_lss, ifV_dec]
  refine ⟨fun c2 => ?_, fun c2 => k2 wl _ h9 (by omega) o⟩
  have hil : i < ms.length := by omega
  have hrx := hmr _ (List.getElem_mem hil)
  have tk : (ms.take (i + 1)).map (fun (x : Int) => x.tmod 16) = (ms.take i).map (fun (x : Int) => x.tmod 16) ++ [ms[i].tmod 16] := by rw [List.take_succ_eq_append_getElem hil, List.map_append]; rfl
  refine (Hm.more o.ext).at1 (e := fun x : Int => .int .i8 x) (fun _ => rfl) hil ?_
  rw [pConv_int, w64 (by omega) (by omega), pBin_rem]
  refine ⟨by decide, ?_⟩
  refine o.app1 0 (ms[i].tmod 16) rfl rfl (sizesOk_of rfl) encI_len encI_plain rfl (by decide) (by omega) fun w' h10 o10 => ?_
  rw [pBin_add, wI i (by omega)]
  refine hZ (_, _, ()) _ (by omega) ⟨rfl, ?_⟩
  rw [tk]
  exact o10

end
end Go.Proofs.YtoopkllfpmjnfaaGreatDoor
