/- Texts of the proofs of seat YtkeoponidgpfpaaGreatDoor, joined: F14C. They have no conditions of their own. -/
import Derived.Test.YtkeoponidgpfpaaGreatDoorTc
import Derived.Test.YtkeoponidgpfpaaGreatDoorTb
import Derived.Test.YtkeoponidgpfpaaGreatDoorMd
set_option linter.unusedVariables false
set_option linter.unusedSimpArgs false

namespace Go.Proofs.YtkeoponidgpfpaaGreatDoor
open Go Go.Mh
set_option linter.unusedVariables false

section
variable {h0 h : Heap} {L M : List Res} {K : Value → Heap → Prop} {Q : Qs} {r : Nat} {v w vl : Value}

theorem bothPlain_ok {bs pis : List Int} {vb vpi : Value} {zf zt zo zl : Int} {sm mark : Bool} (Hb : Vw encU8 1 h vb bs) (Hpi : Vw encI 1 h vpi pis) (hf : 0 ≤ zf ∧ zf ≤ 255) (ht : 0 ≤ zt ∧ zt ≤ 255) (hl : 0 ≤ zl ∧ zl ≤ 255)
    (hK : ∀ h', Ext h h' → K (.bool true) h') : CallsH Tryz.prog F_milestonelaw14_BothPlain [dr14 vb vpi zf zt zo zl sm mark].toArray h K := by
  have hfar : far = 72057594037927936 := rfl
  refine lk_milestonelaw14_BothPlain _ ?_
  unfold sh_milestonelaw14_BothPlain
  refine (Own.start h).box fun d1 h1 o1 => ?_
  have o1 : Own h h1 [cellR d1 [vb, .int .u8 zf, .int .u8 zt, .bool sm, .bool mark, .int .u64 zo, vpi, .int .u8 zl] T_milestonelaw14_Draft] := o1
  refine works14_ok fun h2 x2 => ?_
  have o2 := o1.more x2
  clear o1
  rw [pUn_not, Bool.not_true, ifV_false]
  refine o2.ldN (cs' := [vb, .int .u8 zf, .int .u8 zt, .bool sm, .bool mark, .int .u64 zo, vpi, .int .u8 zl]) 0 rfl rfl rfl ?_
  have x1 := o2.ext
  refine begin14 (Hb.more x1) (Hpi.more x1) hf ht hl fun Q a4 g3 vx vy vr va vp N r h3 hg hQ hFe hN o3 => ?_
  clear o2
  simp only [pEq_ptr_nil, Option.isNone_some, ifV_false, pField_ptr]
  refine o3.load 1 rfl rfl (o3.load 1 rfl rfl ?_)
  refine pBuild_ones (cs' := [I Q.s, I Q.t, sl0, sl0]) (fun p hp => by simp at hp; rcases hp with rfl | rfl <;> rfl) rfl rfl ?_
  have hP : (Qs.plain Q.g Q.s Q.t).Ok := ⟨hQ.r, hQ.s, hQ.t, .inl rfl, .inl rfl⟩
  have ha : AskV h3 (.agg #[I Q.s, I Q.t, sl0, sl0]) (Qs.plain Q.g Q.s Q.t) :=
    ⟨sl0, sl0, rfl, ((o3.nilS (enc := encBo) (n := 1) (T := T_bool)).vw 0 rfl), ((o3.nilS (enc := encI) (n := 1) (T := T_int)).vw 0 rfl)⟩
  refine brunQ_ok hP (net14 (Q := Q) (L := []) hN o3) ha fun d arcs evl wa we h4 hr o4' => ?_
  have o4 := o3.frame o4'
  clear o3 o4' ha
  simp only [pExt0, pExt1]
  have p1 := (o4.vw 0 rfl).plain
  have p2 := (o4.vw 1 rfl).plain
  refine o4.box fun f6 h5 o5 => o5.st (cs' := [I d, wa, we]) 0 rfl rfl rfl rfl rfl (by intro u hu; simp at hu; rcases hu with rfl | rfl | rfl <;> first | rfl | assumption) fun h6 o6 => ?_
  have o6 : Own h2 h6 (cellR f6 [I d, wa, we] T_api_Found :: slR encI 1 T_int wa (nI arcs) :: slR encE 4 T_api_Event we evl :: bse14 Q a4 g3 vx vy vr va vp N) := o6
  clear o4 o5
  refine o6.load 4 rfl rfl ?_
  have T := from_tree hQ.r hQ.s
  have hfr : Q.g.fromI Q.s = Q.g.from Q.s := by unfold G.fromI; rw [if_pos ⟨by omega, by exact_mod_cast hQ.s⟩]; rfl
  refine from_ok hQ.r (net14 (L := [_, _, _]) hN o6) fun sd sa so h7 o7' => ?_
  have o7 := o6.frame o7'
  rw [hfr] at o7
  clear o6 o7'
  have q1 := (o7.vw 0 rfl).plain
  have q2 := (o7.vw 1 rfl).plain
  have q3 := (o7.vw 2 rfl).plain
  refine o7.box fun x8 h8 o8 => o8.st (cs' := [sd, sa, so]) 0 rfl rfl rfl rfl rfl (by intro u hu; simp at hu; rcases hu with rfl | rfl | rfl <;> first | rfl | assumption) fun h9 o9 => ?_
  clear o7 o8
  have o9 : Own h2 h9 (cellR x8 [sd, sa, so] T_flood_Tree :: xR sd (Q.g.from Q.s).dist :: slR encI 1 T_int sa (Q.g.from Q.s).arc :: slR encN 1 T_int so (Q.g.from Q.s).order :: cellR f6 [I d, wa, we] T_api_Found :: slR encI 1 T_int wa (nI arcs) :: slR encE 4 T_api_Event we evl :: bse14 Q a4 g3 vx vy vr va vp N) := o9
  have hdl := T.ls.len
  have hel : evl.length ≤ 2 ^ 32 := res_len hP hr
  have hmono : MonoE evl := by
    rcases res_events hP hr with h | ⟨st, S, R, _, h, _⟩
    · rw [h]; exact .nil
    · rw [h]; exact R.mono plain_feas fun x v => plain_p
  have hpop : ∀ e ∈ evl, e.kind = 0 → 0 ≤ e.label ∧ (e.side = 0 ∨ e.side = 1) ∧ (d < far → e.label ≤ d) := by
    intro e he hk
    rcases hr with ⟨_, _, _, h⟩ | ⟨c1, c2, _, c4⟩
    · rw [h] at he; cases he
    · obtain ⟨st, R, _⟩ := (Qs.plain Q.g Q.s Q.t).fin_run hP
      rw [c4] at he
      rw [c2]
      exact R.popb hP c1 plain_feas (fun x v => plain_p) he hk
  have hd : d = dAt (Q.g.from Q.s).dist Q.t := by
    rcases hr with ⟨c1, c2, _, _⟩ | ⟨c1, c2, _, _⟩
    · have c1 : Q.s = Q.t := c1
      rw [c2, ← c1]
      exact T.ls.zero.symm
    · rw [c2]; exact plain_exact hQ.r hQ.s hQ.t c1 T.ls
  refine cutP_of (fun y h'' => y.1 = .bool false ∧ h'' = h9) (fun J hJ => ?_) ?_
  · rw [pBin_neq, show ((0 : Int) != 0) = false from rfl, ifV_false]
    refine o9.load 0 rfl rfl ((o9.vw 1 rfl).len ?_)
    refine o9.load 9 rfl rfl ?_
    rw [hdl, pBin_neq, bne_self_eq_false, ifV_false]
    refine o9.load 4 rfl rfl (o9.load 0 rfl rfl (o9.load 8 rfl rfl ((o9.vw 1 rfl).atI (by rw [hdl]; exact hQ.t) ?_)))
    rw [dAt_get (by rw [hdl]; exact hQ.t), ← hd, pBin_neq, bne_self_eq_false]
    exact hJ _ _ ⟨rfl, rfl⟩
  · rintro ⟨y, ⟨⟩⟩ h'' ⟨hy, rfl⟩
    dsimp only at hy ⊢
    subst hy
    unfold sh_milestonelaw14_BothPlain_C1
    rw [ifV_false]
    refine pBuild_ones (cs' := [I 0, I 0]) (fun p hp => by simp at hp; rcases hp with rfl | rfl <;> rfl) rfl rfl ?_
    refine o9.box fun l9 h10 o10 => o10.st (cs' := [I 0, I 0]) 0 rfl rfl rfl rfl rfl (by intro u hu; simp at hu; subst hu; rfl) fun h11 o11 => ?_
    have o11 := o11.sel [0, 5, 6, 7, 8, 9, 10, 11, 12, 13, 14, 15] (by decide)
    clear o9 o10
    have o11 : Own h2 h11 (cellR l9 [I 0, I 0] T_2_int64 :: cellR f6 [I d, wa, we] T_api_Found :: slR encI 1 T_int wa (nI arcs) :: slR encE 4 T_api_Event we evl :: bse14 Q a4 g3 vx vy vr va vp N) := o11
    refine LoopH_count evl.length (fun i y h' => y.1 = I i ∧ ∃ z0 z1 : Int, (∀ e ∈ evl.drop i, e.kind = 0 → (if e.side = 0 then z0 else z1) ≤ e.label) ∧ Own h2 h' (cellR l9 [I z0, I z1] T_2_int64 :: cellR f6 [I d, wa, we] T_api_Found :: slR encI 1 T_int wa (nI arcs) :: slR encE 4 T_api_Event we evl :: bse14 Q a4 g3 vx vy vr va vp N))
      ⟨rfl, 0, 0, fun e he hk => by rw [ite_self]; exact (hpop e (List.mem_of_mem_drop he) hk).1, o11⟩ ?_
    clear o11
    rintro i ⟨y, ⟨⟩⟩ h7 Z hi ⟨hy, z0, z1, hz, o⟩ hZ
    dsimp only at hy hZ ⊢
    subst hy
    unfold sh_milestonelaw14_BothPlain_L2
    simp only [pField_ptr]
    refine o.load 1 rfl rfl ((o.vw 3 rfl).len ?_)
    rw [pBin_lss, ifV_dec]
    refine ⟨fun hlt => ?_, fun hge => hK _ (x1.trans o.ext fun _ h _ => h)⟩
    have hlt : i < evl.length := by omega
    refine o.load 1 rfl rfl ((o.vw 3 rfl).atN encE_len hlt ?_)
    have hmem : evl[i] ∈ evl := List.getElem_mem hlt
    have hdr : evl.drop i = evl[i] :: evl.drop (i + 1) := List.drop_eq_getElem_cons hlt
    rw [hdr] at hz
    have hmd := hmono.drop hlt
    have hpe := hpop _ hmem
    generalize evl[i] = e at hz hmd hpe hmem
    refine o.box fun y11 h8 o8 => o8.st (cs' := encE e) 0 rfl rfl rfl rfl rfl (by intro u hu; simp at hu; rcases hu with rfl | rfl | rfl | rfl <;> rfl) fun h9 o9 => ?_
    clear o8
    have o9 : Own h2 h9 (cellR y11 (encE e) T_api_Event :: cellR l9 [I z0, I z1] T_2_int64 :: cellR f6 [I d, wa, we] T_api_Found :: slR encI 1 T_int wa (nI arcs) :: slR encE 4 T_api_Event we evl :: bse14 Q a4 g3 vx vy vr va vp N) := o9
    have nxt : ∀ h' (z0 z1 : Int), (∀ e ∈ evl.drop (i + 1), e.kind = 0 → (if e.side = 0 then z0 else z1) ≤ e.label) → Own h2 h' (cellR l9 [I z0, I z1] T_2_int64 :: cellR f6 [I d, wa, we] T_api_Found :: slR encI 1 T_int wa (nI arcs) :: slR encE 4 T_api_Event we evl :: bse14 Q a4 g3 vx vy vr va vp N) →
        sh_milestonelaw14_BothPlain_k3 Tryz.prog (I i) (fun a0 hz => Z (a0, ()) hz) h' := fun h' z0 z1 hz o => by
      unfold sh_milestonelaw14_BothPlain_k3
      rw [pBin_add, wI i (by omega)]
      exact hZ (_, ()) h' hlt ⟨rfl, z0, z1, hz, o⟩
    refine o9.load 0 rfl rfl ?_
    rw [pBin_neq]
    by_cases hk : e.kind = 0
    · rw [hk, show ((0 : Int) != 0) = false from rfl, ifV_false]
      obtain ⟨p1, p2, p3⟩ := hpe hk
      have zle := hz e List.mem_cons_self hk
      refine cutP_of (fun y h'' => y.1 = .bool false ∧ h'' = h9) (fun J hJ => ?_) ?_
      · refine o9.load 0 rfl rfl (o9.load 0 rfl rfl ?_)
        rw [pIdxA_ptr]
        refine ⟨by omega, ?_⟩
        have ld : ∀ {K2 : Value → Prop}, K2 (I (if e.side = 0 then z0 else z1)) → pLoad h9 (.pointer (some ⟨l9, 0 + e.side.toNat * 1, none⟩)) K2 := fun hk2 => by
          rcases p2 with hs | hs
          · rw [hs] at hk2 ⊢; exact o9.load 1 rfl rfl hk2
          · rw [hs] at hk2 ⊢; exact o9.load 1 rfl rfl hk2
        refine ld ?_
        rw [pBin_lss, show decide (e.label < if e.side = 0 then z0 else z1) = false from decide_eq_false (by omega), ifV_false]
        refine o9.load 2 rfl rfl ?_
        rw [pBin_lss, ifV_dec]
        refine ⟨fun hlt => ?_, fun _ => hJ _ _ ⟨rfl, rfl⟩⟩
        refine o9.load 0 rfl rfl (o9.load 2 rfl rfl ?_)
        rw [pBin_gtr, show decide (d < e.label) = false from decide_eq_false (by have := p3 (by omega); omega)]
        exact hJ _ _ ⟨rfl, rfl⟩
      · rintro ⟨y, ⟨⟩⟩ h'' ⟨hy, rfl⟩
        dsimp only at hy ⊢
        subst hy
        unfold sh_milestonelaw14_BothPlain_C4
        rw [ifV_false]
        simp only [pField_ptr]
        refine o9.load 0 rfl rfl (o9.load 0 rfl rfl ?_)
        rw [pIdxA_ptr]
        refine ⟨by omega, ?_⟩
        rcases p2 with hs | hs
        · rw [hs]
          refine o9.st1 1 (cs' := [I e.label, I z1]) rfl rfl rfl rfl rfl fun h10 o10 => nxt h10 e.label z1 (fun b hb hkb => ?_) o10.tail
          split
          · exact hmd b hb hk hkb (by omega)
          · have := hz b (List.mem_cons_of_mem _ hb) hkb
            rwa [if_neg (by assumption)] at this
        · rw [hs]
          refine o9.st1 1 (cs' := [I z0, I e.label]) rfl rfl rfl rfl rfl fun h10 o10 => nxt h10 z0 e.label (fun b hb hkb => ?_) o10.tail
          split
          · have := hz b (List.mem_cons_of_mem _ hb) hkb
            rwa [if_pos (by assumption)] at this
          · have : b.side = 0 ∨ b.side = 1 := (hpop b (List.mem_of_mem_drop hb) hkb).2.1
            exact hmd b hb hk hkb (by omega)
    · rw [show (e.kind != 0) = true from bne_iff_ne.2 hk, ifV_true]
      exact nxt _ z0 z1 (fun b hb => hz b (List.mem_cons_of_mem _ hb)) o9.tail

end
end Go.Proofs.YtkeoponidgpfpaaGreatDoor
