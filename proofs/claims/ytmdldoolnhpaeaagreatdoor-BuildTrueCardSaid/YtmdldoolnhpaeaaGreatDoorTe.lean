/- Texts of the proofs of seat YtmdldoolnhpaeaaGreatDoor, joined: F31C. They have no conditions of their own. -/
import Derived.Test.YtmdldoolnhpaeaaGreatDoorTd
set_option linter.unusedVariables false
set_option linter.unusedSimpArgs false
set_option linter.unusedSectionVars false

namespace Go.Proofs.YtmdldoolnhpaeaaGreatDoor
open Go Go.Mh

section
variable {h0 h : Heap} {L : List Res} {K : Value -> Heap -> Prop} {g : G} {p : Pl31}

def Drawn31 (h h' : Heap) (g5 p6 : Nat) (g : G) (vx vy va : Value) (p : Pl31) (dv : Value) : Prop :=
 Own h h' [cellR g5 [I g.n, vx, vy, va] T_api_Raw, cellR p6 (plC p dv) T_api_Plan, rawR vx vy va g, slR encU 1 T_uint32 dv p.draws]

theorem true31_C4 {x r g5 p6 c b M : Nat} {tv vx vy va dv : Value} {xs : List Int} {s : Int} (hF : Few g) (hs : 0 <= s /\ s <= 255) (o : Drawn31 h0 h g5 p6 g vx vy va p dv) (hx : h[x]? = some (.cells #[ptr r, tv, ptr c, ptr b] T_image_Image (0, 0)))
  (hN : NetR h r g) (hC : CellV h c xs) (hB : BitV h b M g.arcs.length (flagsB g xs M)) (hxl : xs.length = g.n) (hM : maxL xs + 1 = (M : Int)) (hlo : ∀ z ∈ xs, 0 <= z) (hM1 : M <= 256)
  (hK : ∀ h', Ext h0 h' -> K (.bool true) h') : sh_milestonelaw31_BuildTrue_C4 Tryz.prog K (.int .u8 s) (ptr g5) (ptr x) (.bool false) h := by
 have hR := hF.toRight
 have hpos := hR.pos
 have hfew := hF.few
 have hshort := hF.short
 unfold sh_milestonelaw31_BuildTrue_C4
 rw [ifV_false, pConv_int, w64 (by omega) (by omega)]
 unfold Drawn31 at o
 simp only [pField_ptr, Nat.zero_add]
 refine o.load 0 rfl rfl ?_
 rw [pBin_rem]
 refine ⟨by omega, ?_⟩
 obtain ⟨sn, rfl⟩ := Int.eq_ofNat_of_zero_le hs.1
 have ef : (sn : Int).tmod (g.n : Int) = ((sn % g.n : Nat) : Int) := rfl
 rw [ef]
 have hfr : sn % g.n < g.n := Nat.mod_lt _ (by omega)
 generalize sn % g.n = fr at hfr
 refine LoopH_count g.n (fun t y h' => y.1 = I t /\ Ext h h') ⟨rfl, .refl _ _⟩ ?_
 rintro t ⟨y, ⟨⟩⟩ h1 Z ht ⟨hy, x1⟩ hZ
 dsimp only at hy hZ ⊢
 subst hy
 unfold sh_milestonelaw31_BuildTrue_L5
 have o1 := o.more x1
 simp only [pField_ptr, Nat.zero_add]
 refine o1.load 0 rfl rfl ?_
 rw [pBin_lss, ifV_dec]
 refine ⟨fun hlt => ?_, fun hge => hK h1 o1.ext⟩
 have hlt : t < g.n := by omega
 have ld : ∀ {h' : Heap} {k : Nat} {v : Value} {K' : Value -> Prop}, Ext h h' -> [ptr r, tv, ptr c, ptr b][k]? = some v -> K' v -> pLoad h' (.pointer (some ⟨x, k, none⟩)) K' := fun {h' k v K'} xx hk hK' => pLoad_of rfl (hcell_of (xx.get hx) (by simpa using hk)) hK'
 rw [pNil_ptr]
 simp only [pField_ptr, Nat.zero_add]
 refine ld x1 rfl ?_
 refine pBuild_ones (cs' := askC fr t sl0 sl0) (by intro p hp; simp at hp; rcases hp with rfl | rfl <;> rfl) rfl rfl ?_
 refine seekD_ok (al := []) hF (hN.more x1) Vw.nil (.inl rfl) hfr hlt fun wv ev h2 x2 hp2 => ?_
 simp only [pExt0, pExt1]
 have hall : seekD g (mkOf []) fr t = dAt (g.from fr).dist t := seek_all hR hfr
 rw [hall] at hp2 ⊢
 generalize hD : (if fr = t then (0 : Int) else dAt (g.from fr).dist t) = D at hp2 ⊢
 have z2 := ((Own.start h).more x1).ext2 x2
 refine (Own.start h2).box fun a11 h3 o3 => ?_
 refine o3.st (l := [I D, wv, ev]) (cs' := [I D, wv, ev]) 0 rfl rfl rfl rfl rfl hp2 fun h4 o => ?_
 have z4 := ((Own.start h).more z2).ext2 o.ext
 have hcl : 0 <= dAt xs t := by rw [<- dAt_get (by omega)]; exact hlo _ (List.getElem_mem _)
 obtain ⟨k, hk⟩ := Int.eq_ofNat_of_zero_le hcl
 have hkM : k < M := by
  have := maxL_le (l := xs) (x := dAt xs t) (by rw [<- dAt_get (d := xs) (v := t) (by omega)]; exact List.getElem_mem _)
  omega
 have hlb : longB g.arcs.length <= 12 := by unfold longB; omega
 have hmm : M * longB g.arcs.length < 2 ^ 40 := Nat.lt_of_le_of_lt (Nat.mul_le_mul hM1 hlb) (by decide)
 let al := allowL g.arcs.length fun i => getB (flagsB g xs M) (longB g.arcs.length) k i
 have hal : g.arcs.length = al.length := by show _ = (allowL _ _).length; simp [allowL]
 have hmk : ∀ i, i < g.arcs.length -> mkOf al i = flagd g (dAt xs) (dAt xs t) i := fun i hi => by
  have hgi : al.getD i false = getB (flagsB g xs M) (longB g.arcs.length) k i := by
   show (allowL _ _).getD i false = _
   unfold allowL
   rw [List.getD_eq_getElem?_getD, List.getElem?_map, List.getElem?_range hi]; rfl
  have hne : al.isEmpty = false := by
   cases hz : al with
   | nil => rw [hz, List.length_nil] at hal; omega
   | cons _ _ => rfl
  unfold mkOf
  rw [hne, Bool.false_or, hgi]
  show getB (flagsK g xs M M) _ _ _ = _
  rw [get_flagsK hi (Nat.le_refl _), decide_eq_true hkM, Bool.true_and, hk]
 have hfl : seekD g (mkOf al) fr t = dAt (g.from fr).dist t := seek_flags hR hfr hlt hmk
 have goK : ∀ {K' : Value -> Heap -> Prop} {w : Value} {h' : Heap}, Ext h h' -> Vw encT 1 h' w al -> (∀ wv ev h'', Ext h' h'' -> (∀ u ∈ [I D, wv, ev], Mh.plainCell u = true) -> K' (.tuple #[.agg #[I D, wv, ev], I 0]) h'') -> callS Tryz.prog F_seek_Run [ptr r, .agg (askC fr t w sl0).toArray] h' K' := fun {K' w h'} xx hv hk' => by
  refine seekD_ok (al := al) hF (hN.more xx) hv (.inr hal) hfr hlt fun wv ev h'' x'' hp => ?_
  rw [hfl, hD] at hp ⊢
  exact hk' wv ev h'' x'' hp
 have cofK : ∀ {K' : Value -> Heap -> Prop} {h' : Heap}, Ext h h' -> K' (I k) h' -> callS Tryz.prog F_cell_Cells_Of [ptr c, I t] h' K' := fun xx hk' => cof_ok (hC.more xx) (by omega) (by rw [hk]; exact hk')
 have alK : ∀ {K' : Value -> Heap -> Prop} {h' : Heap} {L' : List Res}, Ext h h' -> Own h2 h' L' -> (∀ w h'', Own h2 h'' (slR encT 1 T_bool w al :: L') -> K' w h'') -> callS Tryz.prog F_flag_Allow [ptr b, I k] h' K' := fun xx oo hk' =>
  allow_ok oo (hB.more xx) hkM hmm (by omega) (flagsK_len (k := M)) hk'
 have bldK : ∀ {w : Value} {K' : Value -> Prop}, w.cells = #[w] -> K' (.agg (askC fr t w sl0).toArray) -> pBuild [(.int .i64 0), (.int .i64 0), (.slice none 0 0), (.slice none 0 0)] [(0, 1, I fr), (1, 1, I t), (2, 1, w)] K' := fun {w K'} h1 hk' => by
  refine pBuild_ones (cs' := askC fr t w sl0) ?_ rfl rfl hk'
  intro p hp
  simp at hp
  rcases hp with rfl | rfl | rfl
  ·rfl
  ·rfl
  ·exact h1
 clear_value al
 have o : Own h2 h4 [cellR a11 [I D, wv, ev] T_api_Found] := o
 have ex : ∀ {h' : Heap} {L' : List Res}, Own h2 h' L' -> Ext h h' := fun oo => ((Own.start h).more z2).ext2 oo.ext
 refine cutP_of (fun y h' => ∃ b13 wv' ev' A, y = (ptr b13, ()) /\ Own h2 h' (cellR b13 [I D, wv', ev'] T_api_Found :: cellR a11 [I D, wv, ev] T_api_Found :: A)) (fun J hJ => ?_) ?_
 ·rw [pNil_ptr]
  simp only [pField_ptr, Nat.zero_add]
  refine ld (ex o) rfl (ld (ex o) rfl (ld (ex o) rfl ⟨?_, ?_⟩))
  ·refine cofK (ex o) ⟨ld (ex o) rfl rfl, ld (ex o) rfl rfl, ?_, ?_⟩
   ·refine alK (ex o) o fun w h5 o5 => ⟨ld (ex o5) rfl rfl, bldK (o5.vw 0 rfl).one ⟨?_, ?_⟩⟩
    ·refine goK (ex o5) (o5.vw 0 rfl) fun wv' ev' h6 x6 hp6 => ?_
     simp only [pExt0, pExt1]
     refine (o5.more x6).box fun b13 h7 o7 => ?_
     refine o7.st (l := [I D, wv', ev']) (cs' := [I D, wv', ev']) 0 rfl rfl rfl rfl rfl hp6 fun h8 o8 => hJ _ _ ⟨b13, wv', ev', _, rfl, o8.sel [0, 2, 1] (by decide)⟩
    ·refine o5.box fun b13 h6 o6 => ?_
     refine goK (ex o6) (o6.vw 1 rfl) fun wv' ev' h7 x7 hp7 => ?_
     simp only [pExt0, pExt1]
     refine (o6.more x7).st (l := [I D, wv', ev']) (cs' := [I D, wv', ev']) 0 rfl rfl rfl rfl rfl hp7 fun h8 o8 => hJ _ _ ⟨b13, wv', ev', _, rfl, o8.sel [0, 2, 1] (by decide)⟩
   ·refine o.box fun b13 h5 o5 => ?_
    refine alK (ex o5) o5 fun w h6 o6 => ⟨ld (ex o6) rfl rfl, bldK (o6.vw 0 rfl).one ?_⟩
    refine goK (ex o6) (o6.vw 0 rfl) fun wv' ev' h7 x7 hp7 => ?_
    simp only [pExt0, pExt1]
    refine (o6.more x7).st (l := [I D, wv', ev']) (cs' := [I D, wv', ev']) 1 rfl rfl rfl rfl rfl hp7 fun h8 o8 => hJ _ _ ⟨b13, wv', ev', _, rfl, o8.sel [1, 2, 0] (by decide)⟩
  ·refine o.box fun b13 h5 o5 => ?_
   refine cofK (ex o5) ⟨ld (ex o5) rfl rfl, ld (ex o5) rfl rfl, ?_⟩
   refine alK (ex o5) o5 fun w h6 o6 => ⟨ld (ex o6) rfl rfl, bldK (o6.vw 0 rfl).one ?_⟩
   refine goK (ex o6) (o6.vw 0 rfl) fun wv' ev' h7 x7 hp7 => ?_
   simp only [pExt0, pExt1]
   refine (o6.more x7).st (l := [I D, wv', ev']) (cs' := [I D, wv', ev']) 1 rfl rfl rfl rfl rfl hp7 fun h8 o8 => hJ _ _ ⟨b13, wv', ev', _, rfl, o8.sel [1, 2, 0] (by decide)⟩
 ·rintro ⟨y, ⟨⟩⟩ h9 ⟨b13, wv', ev', A, e, o9⟩
  injection e with e _
  dsimp only
  subst e
  unfold sh_milestonelaw31_BuildTrue_C6
  simp only [pField_ptr, Nat.zero_add]
  refine o9.load 1 rfl rfl (o9.load 0 rfl rfl ?_)
  rw [pBin_neq, bne_self_eq_false, ifV_false, pBin_add, wI t (by omega)]
  exact hZ (I (t + 1 : Nat), ()) h9 hlt ⟨rfl, ex o9⟩

theorem true31_C3 {x r g5 p6 : Nat} {tv cv fv vx vy va dv : Value} {s : Int} (hF : Few g) (hP : PlanOk p) (hs : 0 <= s /\ s <= 255) (o : Drawn31 h0 h g5 p6 g vx vy va p dv) (hx : h[x]? = some (.cells #[ptr r, tv, cv, fv] T_image_Image (0, 0)))
  (hN : NetR h r g) (hCe : CelP h g p cv fv) (hK : ∀ h', Ext h0 h' -> K (.bool true) h') : sh_milestonelaw31_BuildTrue_C3 Tryz.prog K (ptr x) (ptr p6) (.int .u8 s) (ptr g5) (.bool false) h := by
 have hR := hF.toRight
 have hpos := hR.pos
 have hshort := hF.short
 unfold sh_milestonelaw31_BuildTrue_C3
 have ld : ∀ {h' : Heap} {k : Nat} {v : Value} {K' : Value -> Prop}, Ext h h' -> [ptr r, tv, cv, fv][k]? = some v -> K' v -> pLoad h' (.pointer (some ⟨x, k, none⟩)) K' := fun {h' k v K'} xx hk hK' => pLoad_of rfl (hcell_of (xx.get hx) (by simpa using hk)) hK'
 rw [ifV_false, pNil_ptr]
 simp only [pField_ptr, Nat.zero_add]
 have oo := o
 unfold Drawn31 at o
 refine ld (.refl _ _) rfl ?_
 rcases hCe with ⟨hk, rfl, rfl⟩ | ⟨hk, c, b, xs, M, rfl, rfl, hxs, hM, hC, hB⟩
 ·simp only [pEq_ptr_nil, Option.isNone_none, ifV_true]
  refine o.load 1 rfl rfl ?_
  rw [pBin_eql, hk]
  exact hK h o.ext
 ·have hck := (@wrong_ck p).1.1 hP.w
  have hcell := (of_decide_eq_true (hck 3 (by decide))).resolve_left hk
  obtain ⟨f1, f2, f3, f4⟩ := hxs.facts hR hcell.1
  have hsmall : M * longB g.arcs.length <= 268435456 := by
   have : longB g.arcs.length <= 12 := by unfold longB; omega
   have := Nat.mul_le_mul (show M <= 256 by omega) this
   omega
  have hlo : ∀ z ∈ xs, 0 <= z := fun z hz => by
   rw [<- f2] at hz
   exact (normGo_rng (ns := []) hz).1
  simp only [pEq_ptr_nil, Option.isNone_some, ifV_false]
  refine cutP_of (fun y h' => y.1 = .bool false /\ Ext h h') (fun J hJ => ?_) ?_
  ·rw [pNil_ptr]
   simp only [pField_ptr, Nat.zero_add]
   refine ld (.refl _ _) rfl (ld (.refl _ _) rfl (ld (.refl _ _) rfl ?_))
   refine flagFits_ok hR f1 hN hC hB hM fun h1 x1 => ?_
   rw [pUn_not, Bool.not_true, ifV_false]
   refine ld x1 rfl (ld x1 rfl (ld x1 rfl ?_))
   refine bbytes_ok (hB.more x1) ⟨ld x1 rfl rfl, ld x1 rfl rfl, ?_⟩
   refine flagOf_ok ((Own.start h).more x1) hR f1 (hN.more x1) (hC.more x1) hM (by omega) hsmall fun b2 s2 h2 o2 => ?_
   have x2 := o2.ext
   refine bbytes_ok (rows := M) (wide := g.arcs.length) (bs := flagsB g xs M) ⟨s2, o2.get 0 rfl, o2.vw 1 rfl⟩ ?_
   rw [pBin_neqS, decide_eq_true rfl, Bool.not_true, ifV_false]
   refine ld x2 rfl ((o.more x2).load 1 rfl rfl ?_)
   refine cmany_ok (hC.more x2) ⟨(o.more x2).load 1 rfl rfl rfl, ?_⟩
   rw [pBin_gtr, decide_eq_false (by omega)]
   exact hJ _ _ ⟨rfl, x2⟩
  ·rintro ⟨y, ⟨⟩⟩ h' ⟨hy, x1⟩
   dsimp only at hy ⊢
   subst hy
   exact true31_C4 (c := c) (b := b) (M := M) (xs := xs) hF hs (oo.more x1) (x1.get hx) (hN.more x1) (hC.more x1) (hB.more x1) f1 hM hlo (by omega) hK

set_option maxRecDepth 100000 in
theorem buildTrue_ok {vb vd : Value} {bs ds : List Int} {mk kd cl s : Int} {rl : Bool} (Hb : Vw encU8 1 h vb bs) (Hd : Vw encU 1 h vd ds) (hr : ∀ x ∈ ds, 0 <= x /\ x <= 4294967295) (r1 : 0 <= mk /\ mk <= 255) (r2 : 0 <= kd /\ kd <= 255) (r3 : 0 <= cl /\ cl <= 255) (hs : 0 <= s /\ s <= 255) (hg : Glob h)
  (hK : ∀ h', Ext h h' -> K (.bool true) h') : CallsH Tryz.prog F_milestonelaw31_BuildTrue #[draftV vb vd mk kd cl rl, .int .u8 s] h K := by
 refine lk_milestonelaw31_BuildTrue _ _ ?_
 unfold sh_milestonelaw31_BuildTrue
 refine (Own.start h).box fun d2 h1 o1 => ?_
 have o1 : Own h h1 [cellR d2 (draftC vb vd mk kd cl rl) T_milestoneref31_Draft] := o1
 refine works31_ok (hg.more o1.ext) fun h2 x2 => ?_
 have o2 := o1.more x2
 rw [pUn_not, Bool.not_true, ifV_false]
 have y2 := o2.ext
 have ld : ∀ {h' : Heap} {K' : Value -> Prop}, Ext h2 h' -> K' (draftV vb vd mk kd cl rl) -> pLoadN 6 h' (ptr d2) K' := fun xx hk => (o2.more xx).ldN 0 rfl rfl rfl hk
 refine cutP_of (fun y h' => ∃ g5 p6 g vx vy va p dv, y = (ptr g5, (ptr p6, ())) /\ Few g /\ PlanOk p /\ Own h2 h' [cellR g5 [I g.n, vx, vy, va] T_api_Raw, cellR p6 (plC p dv) T_api_Plan, rawR vx vy va g, slR encU 1 T_uint32 dv p.draws]) (fun J hJ => ?_) ?_
 ·have o := Own.start h2
  refine ld o.ext (ld o.ext ?_)
  have Hb2 := Hb.more y2
  have Hd2 := Hd.more y2
  repeat' (first
   | refine raw31_ok o (Hb2.more o.ext) fun g vx vy va hh fg hgp o => ?_
   | refine plan31_ok o (Hd2.more o.ext) hr r1 r2 r3 fun p dv hh fp hpp o => ?_
   | refine o.box fun bx hh o => ?_
   | exact ld o.ext rfl
   | refine o.st (l := [I g.n, vx, vy, va]) (cs' := [I g.n, vx, vy, va]) 0 rfl rfl rfl rfl rfl hgp fun hh o => ?_
   | refine o.st (l := [I g.n, vx, vy, va]) (cs' := [I g.n, vx, vy, va]) 1 rfl rfl rfl rfl rfl hgp fun hh o => ?_
   | refine o.st (l := [I g.n, vx, vy, va]) (cs' := [I g.n, vx, vy, va]) 2 rfl rfl rfl rfl rfl hgp fun hh o => ?_
   | refine o.st (l := [I g.n, vx, vy, va]) (cs' := [I g.n, vx, vy, va]) 3 rfl rfl rfl rfl rfl hgp fun hh o => ?_
   | refine o.st (l := plC p dv) (cs' := plC p dv) 0 rfl rfl rfl rfl rfl hpp fun hh o => ?_
   | refine o.st (l := plC p dv) (cs' := plC p dv) 1 rfl rfl rfl rfl rfl hpp fun hh o => ?_
   | refine o.st (l := plC p dv) (cs' := plC p dv) 2 rfl rfl rfl rfl rfl hpp fun hh o => ?_
   | refine o.st (l := plC p dv) (cs' := plC p dv) 3 rfl rfl rfl rfl rfl hpp fun hh o => ?_
   | exact hJ _ _ ⟨_, _, _, _, _, _, _, _, rfl, fg, fp, o.sel [1, 0, 3, 2] (by decide)⟩
   | exact hJ _ _ ⟨_, _, _, _, _, _, _, _, rfl, fg, fp, o.sel [0, 1, 3, 2] (by decide)⟩
   | exact hJ _ _ ⟨_, _, _, _, _, _, _, _, rfl, fg, fp, o.sel [2, 0, 3, 1] (by decide)⟩
   | exact hJ _ _ ⟨_, _, _, _, _, _, _, _, rfl, fg, fp, o.sel [2, 1, 3, 0] (by decide)⟩
   | exact hJ _ _ ⟨_, _, _, _, _, _, _, _, rfl, fg, fp, o.sel [0, 2, 3, 1] (by decide)⟩
   | exact hJ _ _ ⟨_, _, _, _, _, _, _, _, rfl, fg, fp, o.sel [1, 2, 3, 0] (by decide)⟩
   | exact hJ _ _ ⟨_, _, _, _, _, _, _, _, rfl, fg, fp, o.sel [3, 0, 2, 1] (by decide)⟩
   | exact hJ _ _ ⟨_, _, _, _, _, _, _, _, rfl, fg, fp, o.sel [3, 1, 2, 0] (by decide)⟩
   | exact hJ _ _ ⟨_, _, _, _, _, _, _, _, rfl, fg, fp, o.sel [3, 2, 1, 0] (by decide)⟩
   | exact hJ _ _ ⟨_, _, _, _, _, _, _, _, rfl, fg, fp, o.sel [0, 3, 2, 1] (by decide)⟩
   | exact hJ _ _ ⟨_, _, _, _, _, _, _, _, rfl, fg, fp, o.sel [1, 3, 2, 0] (by decide)⟩
   | exact hJ _ _ ⟨_, _, _, _, _, _, _, _, rfl, fg, fp, o.sel [2, 3, 1, 0] (by decide)⟩
   | with_reducible apply And.intro)
 ·rintro ⟨y, z, ⟨⟩⟩ h3 ⟨g5, p6, g, vx, vy, va, p, dv, e, hF, hP, o3⟩
  injection e with e1 e2
  injection e2 with e2 _
  dsimp only
  subst e1 e2
  have hR := hF.toRight
  have hfew := hF.few
  have y3 := ((Own.start h).more y2).ext2 o3.ext
  unfold sh_milestonelaw31_BuildTrue_C1
  refine o3.ldN 0 rfl rfl rfl (o3.ldN 1 rfl rfl rfl ?_)
  refine build_ok (p := p) (dv := dv) hF ⟨vx, vy, va, rfl, rawR_view o3 (i := 2) rfl⟩ hP.w (o3.vw 3 rfl) (by have := hP.d1; omega) hP.d2 fun x r tv cv fv h4 x4 hx hN hT hCe => ?_
  simp only [pExt0, pExt1]
  have eN : ∀ {K : Value -> Prop}, K (.bool false) -> pEq true .iface .nilIface .nilIface K := fun hk => hk
  refine eN ?_
  rw [ifV_false]
  simp only [pEq_ptr_nil, Option.isNone_some, ifV_false]
  have o4 := o3.more x4
  have lx : ∀ {h' : Heap} {k : Nat} {v : Value} {K' : Value -> Prop}, Ext h4 h' -> [ptr r, tv, cv, fv][k]? = some v -> K' v -> pLoad h' (.pointer (some ⟨x, k, none⟩)) K' := fun {h' k v K'} xx hk hK' => pLoad_of rfl (hcell_of (xx.get hx) (by simpa using hk)) hK'
  refine cutP_of (fun y h' => y.1 = .bool false /\ Ext h4 h') (fun J hJ => ?_) ?_
  ·rw [pNil_ptr]
   simp only [pField_ptr, Nat.zero_add]
   refine lx (.refl _ _) rfl ?_
   have hck := (@wrong_ck p).1.1 hP.w
   have hmk := of_decide_eq_true (hck 0 (by decide))
   obtain ⟨f1, f2, f3⟩ := marksOf_facts hR (by omega) hmk.1 (fun x hx => (hP.d2 x hx).1) (p := p)
   rcases hT with ⟨_, rfl⟩ | ⟨_, t, rfl, HT⟩
   ·simp only [pNe_ptr_nil, Option.isSome_none, ifV_false]
    exact hJ _ _ ⟨rfl, .refl _ _⟩
   ·simp only [pNe_ptr_nil, Option.isSome_some, ifV_true]
    refine lx (.refl _ _) rfl (lx (.refl _ _) rfl ?_)
    refine tableTrue_ok HT hR hN (by omega) f1 f2 fun h5 x5 => ?_
    rw [pUn_not, Bool.not_true, ifV_false]
    have o5 := o4.more x5
    refine lx x5 rfl (o5.load 1 rfl rfl (o5.load 0 rfl rfl ?_))
    rw [pMin_int]
    refine tmarks_ok ((Own.start h4).more x5) (HT.more x5) (by omega) fun w h6 o6 => ?_
    refine ⟨(o4.more o6.ext).load 1 rfl rfl rfl, (o4.more o6.ext).load 0 rfl rfl rfl, (o6.vw 0 rfl).len ?_⟩
    rw [nI_len, pBin_neq, show (((marksOf g p).length : Int) != if (g.n : Int) < p.marks then (g.n : Int) else p.marks) = false by
     rw [f3]; simp only [bne_eq_false_iff_eq]; rw [Int.min_def]; split <;> split <;> omega]
    exact hJ _ _ ⟨rfl, o6.ext⟩
  ·rintro ⟨y, ⟨⟩⟩ h7 ⟨hy, x7⟩
   dsimp only at hy ⊢
   subst hy
   exact true31_C3 hF hP hs (o4.more x7) (x7.get hx) (hN.more x7) (hCe.more x7) fun h' x' => hK h' (((Own.start h).more y2).ext2 x')

end
end Go.Proofs.YtmdldoolnhpaeaaGreatDoor
