/- Texts of the proofs of seat YtkeoponidgpfpaaGreatDoor, joined: GtA, F14D. They have no conditions of their own. -/
import Derived.Test.YtkeoponidgpfpaaGreatDoorTa
import Derived.Test.YtkeoponidgpfpaaGreatDoorMc
import Derived.Test.YtkeoponidgpfpaaGreatDoorTc
set_option linter.unusedVariables false
set_option linter.unusedSimpArgs false

namespace Go.Proofs.YtkeoponidgpfpaaGreatDoor
open Go Go.Mh
set_option linter.unusedVariables false

section
variable {h0 h : Heap} {L : List Res} {K : Value → Heap → Prop} {g : G} {v : Value}

theorem copied_ok (o : Own h0 h L) (hR : g.Right) (H : RawV h v g) (hK : ∀ vx vy va h', Own h0 h' (xR vx g.X :: xR vy g.Y :: aR va g.arcs :: L) → K (.agg #[I g.n, vx, vy, va]) h') : callS Tryz.prog F_graph_copied [v] h K := by
  obtain ⟨vx, vy, va, rfl, H⟩ := H
  refine callS_of (lk_graph_copied _ ?_)
  unfold sh_graph_copied
  have hx := hR.x
  have hy := hR.y
  have hm := hR.most
  have hmany := hR.many
  refine (Own.start h).box fun r h1 o1 => o1.box fun e h2 o2 => ?_
  simp only [pField_ptr]
  refine o2.load 1 rfl rfl (o2.load 1 rfl rfl (o2.load 1 rfl rfl ?_))
  refine clone_int64 o2 (H.more o2.ext).1 (by omega) fun vx1 h3 o3 => ⟨o3.load 2 rfl rfl rfl, o3.load 2 rfl rfl rfl, ?_⟩
  refine clone_int64 o3 (H.more o3.ext).2.1 (by omega) fun vy1 h4 o4 => ⟨o4.load 3 rfl rfl rfl, ?_⟩
  refine clone_arc o4 (H.more o4.ext).2.2 (by omega) fun va1 h5 o5 => ?_
  have p0 := o5.vw 0 rfl
  have p1 := o5.vw 1 rfl
  have p2 := o5.vw 2 rfl
  refine o5.st1 4 rfl rfl rfl p2.one p2.plain fun h6 o6 => ?_
  refine o6.st1 4 rfl rfl rfl p1.one p1.plain fun h7 o7 => ?_
  refine o7.st1 (cs' := [I g.n, vx1, vy1, va1]) 4 rfl rfl rfl p0.one p0.plain fun h8 o8 => ?_
  refine o8.ldN 4 rfl rfl rfl ?_
  refine o8.st 3 rfl rfl rfl rfl rfl ?_ fun h9 o9 => ?_
  · intro u hu
    simp at hu
    rcases hu with rfl | rfl | rfl | rfl
    · rfl
    · exact p2.plain
    · exact p1.plain
    · exact p0.plain
  · refine o9.ldN 3 rfl rfl rfl ?_
    exact hK vx1 vy1 va1 h9 (o.frame (o9.sel [2, 1, 0] (by decide)))

theorem turned_step {l : List A} {i : Nat} (hi : i < l.length) : (((l.take i).map A.swap ++ l.drop i).set i (l[i]).swap) = (l.take (i + 1)).map A.swap ++ l.drop (i + 1) := by
  rw [List.set_append_right _ _ (by simp; omega)]
  have e : i - ((l.take i).map A.swap).length = 0 := by simp; omega
  rw [e, List.drop_eq_getElem_cons hi, List.set_cons_zero, List.take_succ_eq_append_getElem hi, List.map_append, List.append_assoc]; rfl

theorem gturned_ok (o : Own h0 h L) (hR : g.Right) (H : RawV h v g) (hK : ∀ vx vy va h', Own h0 h' (xR vx g.X :: xR vy g.Y :: aR va g.turned.arcs :: L) → K (.agg #[I g.n, vx, vy, va]) h') : callS Tryz.prog F_graph_Turned [v] h K := by
  obtain ⟨vx, vy, va, rfl, H⟩ := H
  refine callS_of (lk_graph_Turned _ ?_)
  unfold sh_graph_Turned
  have hmany := hR.many
  refine (Own.start h).box fun r h1 o1 => o1.box fun e h2 o2 => o2.ldN 1 rfl rfl rfl ?_
  refine copied_ok o2 hR ⟨vx, vy, va, rfl, H.more o2.ext⟩ fun vx1 vy1 va1 h3 o3 => ?_
  have p0 := (o3.vw 0 rfl).plain
  have p1 := (o3.vw 1 rfl).plain
  have p2 := (o3.vw 2 rfl).plain
  have pl : ∀ u ∈ [I g.n, vx1, vy1, va1], Mh.plainCell u = true := by
    intro u hu
    simp at hu
    rcases hu with rfl | rfl | rfl | rfl
    · rfl
    · exact p0
    · exact p1
    · exact p2
  refine o3.st 4 rfl rfl rfl rfl rfl pl fun h4 o4 => ?_
  simp only [pField_ptr]
  refine o4.load 4 rfl rfl ((o4.vw 2 rfl).len ?_)
  refine LoopH_count g.arcs.length (fun i x h' => x.1 = I i ∧ Own h h' [xR vx1 g.X, xR vy1 g.Y, aR va1 ((g.arcs.take i).map A.swap ++ g.arcs.drop i), cellR e [I 0, sl0, sl0, sl0] T_api_Raw, cellR r [I g.n, vx1, vy1, va1] T_api_Raw]) ⟨rfl, o4⟩ ?_
  clear o4 o3 o2 o1
  rintro i ⟨x, ⟨⟩⟩ h' Z hi ⟨hx, o'⟩ hZ
  dsimp only at hx hZ ⊢
  subst hx
  unfold sh_graph_Turned_L1
  simp only [pBin_lss, ifV_dec]
  refine ⟨fun hlt => ?_, fun hge => ?_⟩
  · have hlt : i < g.arcs.length := by omega
    have hll : i < ((g.arcs.take i).map A.swap ++ g.arcs.drop i).length := by simp; omega
    have hget : ((g.arcs.take i).map A.swap ++ g.arcs.drop i)[i] = g.arcs[i] := by
      rw [List.getElem_append_right (by simp; omega)]
      simp only [List.getElem_drop]
      congr 1; simp; omega
    refine (o'.vw 2 rfl).atN encA_len hll ?_
    rw [hget]
    refine o'.box fun a4 h1 o1 => o1.st 0 rfl rfl rfl rfl rfl (encA_plain _) fun h2 o2 => ?_
    simp only [pField_ptr]
    refine o2.load 5 rfl rfl (o2.load 5 rfl rfl (o2.load 0 rfl rfl (o2.load 0 rfl rfl ?_)))
    refine o2.setF (a := ⟨g.arcs[i].t, g.arcs[i].t, g.arcs[i].w⟩) 3 rfl encA_len hll (f := 0) (by decide) rfl rfl (by rw [hget]; rfl) fun h3 o3 => ⟨o3.load 5 rfl rfl rfl, o3.load 0 rfl rfl rfl, ?_⟩
    refine o3.setF (a := (g.arcs[i]).swap) 3 rfl encA_len (by simpa using hll) (f := 1) (by decide) rfl rfl (by simp [encA, A.swap]) fun h4 o4 => ?_
    rw [pBin_add, wI i (by omega)]
    refine hZ (I (i + 1 : Nat), ()) h4 hlt ⟨rfl, ?_⟩
    have o5 := o4.tail
    simp only [List.set_set] at o5
    rw [← turned_step hlt]
    exact o5
  · have : i = g.arcs.length := by omega
    subst this
    rw [List.take_length, List.drop_length, List.append_nil] at o'
    refine o'.ldN 4 rfl rfl rfl (o'.st 3 rfl rfl rfl rfl rfl pl fun h2 o2 => o2.ldN 3 rfl rfl rfl ?_)
    exact hK vx1 vy1 va1 h2 (o.frame (o2.sel [0, 1, 2] (by decide)))

end
end Go.Proofs.YtkeoponidgpfpaaGreatDoor

namespace Go.Proofs.YtkeoponidgpfpaaGreatDoor
open Go Go.Mh
set_option linter.unusedVariables false

section
variable {h0 h : Heap} {L M : List Res} {K : Value → Heap → Prop} {Q : Qs} {r : Nat} {v w vl : Value}

theorem res_turn {d d' : Int} {arcs arcs' : List Nat} {evl evl' : List Ev} (hQ : Q.Ok) (hF : Q.Feas) (h1 : ResB Q d arcs evl) (h2 : ResB Q.turn d' arcs' evl') : d = d' := by
  rcases h1 with ⟨a1, a2, _⟩ | ⟨a1, a2, _⟩ <;> rcases h2 with ⟨b1, b2, _⟩ | ⟨b1, b2, _⟩
  · rw [a2, b2]
  · exact absurd a1.symm b1
  · exact absurd b1.symm a1
  · rw [a2, b2]; exact fin_turn hQ a1 hF

theorem bothTurned_ok {bs pis : List Int} {vb vpi : Value} {zf zt zo zl : Int} {sm mark : Bool} (Hb : Vw encU8 1 h vb bs) (Hpi : Vw encI 1 h vpi pis) (hf : 0 ≤ zf ∧ zf ≤ 255) (ht : 0 ≤ zt ∧ zt ≤ 255) (hl : 0 ≤ zl ∧ zl ≤ 255)
    (hK : ∀ h', Ext h h' → K (.bool true) h') : CallsH Tryz.prog F_milestonelaw14_BothTurned [dr14 vb vpi zf zt zo zl sm mark].toArray h K := by
  have hfar : far = 72057594037927936 := rfl
  refine lk_milestonelaw14_BothTurned _ ?_
  unfold sh_milestonelaw14_BothTurned
  refine (Own.start h).box fun d1 h1 o1 => ?_
  have o1 : Own h h1 [cellR d1 [vb, .int .u8 zf, .int .u8 zt, .bool sm, .bool mark, .int .u64 zo, vpi, .int .u8 zl] T_milestonelaw14_Draft] := o1
  refine works14_ok fun h2 x2 => ?_
  have o2 := o1.more x2
  clear o1
  rw [pUn_not, Bool.not_true, ifV_false]
  simp only [pField_ptr]
  refine o2.st1 0 (cs' := [vb, .int .u8 zf, .int .u8 zt, .bool sm, .bool true, .int .u64 zo, vpi, .int .u8 zl]) rfl rfl rfl rfl rfl fun h3 o3 => ?_
  have o3 : Own h h3 [cellR d1 [vb, .int .u8 zf, .int .u8 zt, .bool sm, .bool true, .int .u64 zo, vpi, .int .u8 zl] T_milestonelaw14_Draft] := o3
  refine o3.ldN (cs' := [vb, .int .u8 zf, .int .u8 zt, .bool sm, .bool true, .int .u64 zo, vpi, .int .u8 zl]) 0 rfl rfl rfl ?_
  have x3 := o3.ext
  refine ask14_ok (Hb.more x3) (Hpi.more x3) hf ht hl fun Q vx vy vr va vp h4 hg hQ hFe o4 => ?_
  clear o2 o3
  obtain ⟨hF, hpb⟩ := hFe rfl
  have p0 := (o4.vw 0 rfl).plain
  have p1 := (o4.vw 1 rfl).plain
  have p2 := (o4.vw 2 rfl).plain
  have p3 := (o4.vw 3 rfl).plain
  have p4 := (o4.vw 4 rfl).plain
  simp only [pExt0, pExt1]
  refine o4.box fun g3 h5 o5 => o5.box fun a4 h6 o6 => ?_
  refine o6.st (cs' := [I Q.g.n, vx, vy, vr]) 1 rfl rfl rfl rfl rfl (by intro u hu; simp at hu; rcases hu with rfl | rfl | rfl | rfl <;> first | rfl | assumption) fun h7 o7 => ?_
  refine o7.st (cs' := [I Q.s, I Q.t, va, vp]) 0 rfl rfl rfl rfl rfl (by intro u hu; simp at hu; rcases hu with rfl | rfl | rfl | rfl <;> first | rfl | assumption) fun h8 o8 => ?_
  clear o4 o5 o6 o7
  refine o8.ldN (cs' := [I Q.g.n, vx, vy, vr]) 1 rfl rfl rfl (o8.ldN (cs' := [I Q.g.n, vx, vy, vr]) 1 rfl rfl rfl ?_)
  refine made14_ok o8 hQ.r ⟨vx, vy, vr, rfl, o8.vw 2 rfl, o8.vw 3 rfl, o8.vw 4 rfl⟩ fun r N h9 hN o9 => ?_
  have o9 : Own h3 h9 (bse14 Q a4 g3 vx vy vr va vp N) := o9
  clear o8
  refine ⟨o9.ldN (cs' := [I Q.g.n, vx, vy, vr]) 2 rfl rfl rfl rfl, ?_⟩
  refine gturned_ok o9 hQ.r (raw14 (L := []) o9) fun wx wy wa h10 o10 => ?_
  clear o9
  refine made14_ok o10 hQ.r.turned ⟨wx, wy, wa, rfl, o10.vw 0 rfl, o10.vw 1 rfl, o10.vw 2 rfl⟩ fun r2 N2 h11 hN2 o11 => ?_
  have o12 : Own h3 h11 (N2 :: bse14 Q a4 g3 vx vy vr va vp N) := o11.sel [0, 4, 5, 6, 7, 8, 9, 10, 11] (by decide)
  clear o10 o11
  simp only [pEq_ptr_nil, Option.isNone_some, ifV_false]
  refine o12.load 2 rfl rfl (o12.load 2 rfl rfl (o12.load 2 rfl rfl ?_))
  refine pBuild_ones (cs' := [I Q.t, I Q.s, va, sl0]) (fun p hp => by simp at hp; rcases hp with rfl | rfl | rfl <;> first | rfl | exact (o12.vw 7 rfl).one) rfl rfl ?_
  have o13 := o12.nilS (enc := encI) (n := 1) (T := T_int64)
  clear o12
  refine o13.box fun b7 h13 o14 => o14.st (cs' := [I Q.t, I Q.s, va, sl0]) 0 rfl rfl rfl rfl rfl (by intro u hu; simp at hu; rcases hu with rfl | rfl | rfl | rfl <;> first | rfl | assumption) fun h14 o15 => ?_
  have o15 : Own h3 h14 (cellR b7 [I Q.t, I Q.s, va, sl0] T_api_Ask :: xR sl0 [] :: N2 :: bse14 Q a4 g3 vx vy vr va vp N) := o15
  clear o13 o14
  have hpl : Q.pi.length ≤ 2 ^ 32 := by
    have := hQ.r.most
    rcases hQ.pi with h | h
    · rw [h]; exact Nat.zero_le _
    · omega
  refine LoopH_count Q.pi.length (fun i y h' => y.1 = I i ∧ ∃ vp', Own h3 h' (cellR b7 [I Q.t, I Q.s, va, vp'] T_api_Ask :: xR vp' ((Q.pi.take i).map fun z => -z) :: N2 :: bse14 Q a4 g3 vx vy vr va vp N)) ⟨rfl, sl0, o15⟩ ?_
  clear o15
  rintro i ⟨y, ⟨⟩⟩ h15 Z hi ⟨hy, vp', o⟩ hZ
  dsimp only at hy hZ ⊢
  subst hy
  unfold sh_milestonelaw14_BothTurned_L2
  simp only [pField_ptr]
  refine o.load 4 rfl rfl ((o.vw 10 rfl).len ?_)
  rw [pBin_lss, ifV_dec]
  refine ⟨fun hlt => ?_, fun hge => ?_⟩
  · have hlt : i < Q.pi.length := by omega
    refine o.load 0 rfl rfl (o.load 4 rfl rfl ((o.vw 10 rfl).atI hlt ?_))
    have hb := hpb _ (List.getElem_mem hlt)
    rw [pUn_neg, w64 (by omega) (by omega), Int.zero_sub]
    refine o.app1 1 (-Q.pi[i]) rfl rfl (sizesOk_of rfl) encI_len encI_plain rfl (by decide) (by rw [List.length_map, List.length_take]; omega) fun vp2 h16 o16 => ?_
    refine o16.st1 0 (cs' := [I Q.t, I Q.s, va, vp2]) rfl rfl rfl (o16.vw 1 rfl).one (o16.vw 1 rfl).plain fun h17 o17 => ?_
    rw [pBin_add, wI i (by omega)]
    refine hZ (_, ()) h17 hlt ⟨rfl, vp2, ?_⟩
    rw [List.take_succ_eq_append_getElem hlt, List.map_append]
    exact o17
  · have : i = Q.pi.length := by omega
    subst this
    rw [List.take_length] at o
    refine o.ldN (cs' := [I Q.s, I Q.t, va, vp]) 4 rfl rfl rfl ?_
    refine brunQ_ok hQ (net14 (L := [_, _, _]) hN o) (asv14 (L := [_, _, _]) o) fun d arcs evl wa we h16 hr o16' => ?_
    have o16 := o.frame o16'
    clear o o16'
    simp only [pExt0, pExt1]
    have p1 := (o16.vw 0 rfl).plain
    have p2 := (o16.vw 1 rfl).plain
    refine o16.box fun f9 h17 o17 => o17.st (cs' := [I d, wa, we]) 0 rfl rfl rfl rfl rfl (by intro u hu; simp at hu; rcases hu with rfl | rfl | rfl <;> first | rfl | assumption) fun h18 o18 => ?_
    have o18 : Own h3 h18 (cellR f9 [I d, wa, we] T_api_Found :: slR encI 1 T_int wa (nI arcs) :: slR encE 4 T_api_Event we evl :: cellR b7 [I Q.t, I Q.s, va, vp'] T_api_Ask :: xR vp' (Q.pi.map fun z => -z) :: N2 :: bse14 Q a4 g3 vx vy vr va vp N) := o18
    clear o16 o17
    refine o18.ldN (cs' := [I Q.t, I Q.s, va, vp']) 3 rfl rfl rfl ?_
    refine brunQ_ok (turn_Ok hQ) (hN2 _ (o18.get 5 rfl)) ⟨va, vp', rfl, o18.vw 12 rfl, o18.vw 4 rfl⟩ fun d' arcs' evl' wa' we' h19 hr' o19' => ?_
    have o19 := o18.frame o19'
    clear o18 o19'
    simp only [pExt0, pExt1]
    have q1 := (o19.vw 0 rfl).plain
    have q2 := (o19.vw 1 rfl).plain
    refine o19.box fun h11 h20 o20 => o20.st (cs' := [I d', wa', we']) 0 rfl rfl rfl rfl rfl (by intro u hu; simp at hu; rcases hu with rfl | rfl | rfl <;> first | rfl | assumption) fun h21 o21 => ?_
    rw [pBin_eql, beq_self_eq_true, ifV_true, pBin_eql, beq_self_eq_true, ifV_true]
    refine o21.load 3 rfl rfl (o21.load 0 rfl rfl ?_)
    rw [res_turn hQ hF hr hr', pBin_eql, beq_self_eq_true]
    exact hK _ (x3.trans o21.ext fun _ h _ => h)

end
end Go.Proofs.YtkeoponidgpfpaaGreatDoor
