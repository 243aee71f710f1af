/- Texts of the proofs of seat YtjamcgoebnafkaaGreatDoor, joined: F11C, F11D. They have no conditions of their own. -/
import Derived.Test.YtjamcgoebnafkaaGreatDoorTb
set_option linter.unusedVariables false
set_option linter.unusedSimpArgs false

namespace Go.Proofs.YtjamcgoebnafkaaGreatDoor
open Go Go.Mh
set_option linter.unusedVariables false

section
variable {h0 h : Heap} {L : List Res} {K : Value → Heap → Prop} {vb : Value} {bs : List Int}

theorem pe11 {c d : Bool} {K : Value → Prop} (e : c = d) (hk : K (.bool false)) : pEq true .bool (.bool c) (.bool d) K := by subst e; simpa [pEq] using hk

theorem pExt4_2 {a b c d : Value} {K : Value → Prop} (hk : K c) : pExt (.tuple #[a, b, c, d]) 2 K := hk
theorem pExt4_3 {a b c d : Value} {K : Value → Prop} (hk : K d) : pExt (.tuple #[a, b, c, d]) 3 K := hk
theorem tsum_rev {l : List A} {r : List Nat} : tsum l r.reverse = tsum l r := by
  induction r with
  | nil => rfl
  | cons i r ih => rw [List.reverse_cons, tsum_append, tsum_cons, tsum_cons, ih, tsum_nil]; omega

theorem bareSame {l : List A} {v : Nat} : (nds l v []).Nodup := by simp [vis]

theorem fwdNodup {l : List A} {n t v : Nat} {T : Tr} {r : List Nat} (F : FolTree l A.t A.f n t T v r) : (nds l v r).Nodup := F.nodup
theorem bwdNodup {l : List A} {n s v : Nat} {T : Tr} {r : List Nat} (F : FolTree l A.f A.t n s T v r) : (nds l s r.reverse).Nodup := by
  rw [F.rt.nds]; exact List.pairwise_reverse.2 (List.Pairwise.imp (fun h e => h e.symm) F.nodup)

theorem pathLeast_ok {e0 e1 : Int} (H : Vw encU8 1 h vb bs) (r0 : 0 ≤ e0 ∧ e0 ≤ 255) (r1 : 0 ≤ e1 ∧ e1 ≤ 255) (hK : ∀ h', Ext h h' → K (.bool true) h') :
    CallsH Tryz.prog F_milestonelaw11_PathLeast [.agg #[vb, .int .u8 e0, .int .u8 e1]].toArray h K := by
  refine lk_milestonelaw11_PathLeast _ ?_
  unfold sh_milestonelaw11_PathLeast
  have hvb := H.one
  refine (Own.start h).box fun d1 h1 o1 => ?_
  have ec : (Value.cells (.agg #[vb, .int .u8 e0, .int .u8 e1])).toList = [vb, .int .u8 e0, .int .u8 e1] := rfl
  rw [ec] at o1
  refine works11_ok fun h2 x2 => ?_
  rw [pUn_not, Bool.not_true, ifV_false]
  have o2 := o1.more x2
  refine o2.ldN (cs' := [vb, .int .u8 e0, .int .u8 e1]) 0 rfl rfl rfl (graph11_ok (H.more o2.ext) r0 r1 fun g vx vy va r N s t h3 hg hN hs ht o3 => ?_)
  simp only [pExt0, pExt1]
  refine pExt4_2 (pExt4_3 ?_)
  have hR := hg.toRight
  have hmost := hR.most
  have hpos := hR.pos
  have hmany := hR.many
  replace o3 := o2.frame o3
  refine o3.box fun g3 h4 o4 => o4.st (cs' := [I g.n, vx, vy, va]) 0 rfl rfl rfl rfl rfl ?_ fun h5 o5 => ?_
  · intro u hu
    simp at hu
    rcases hu with rfl | rfl | rfl | rfl
    · rfl
    · exact (o3.vw 1 rfl).plain
    · exact (o3.vw 2 rfl).plain
    · exact (o3.vw 3 rfl).plain
  simp only [pEq_ptr_nil, Option.isNone_some, ifV_false]
  have ef : g.fromI (s : Int) = g.from s := by rw [G.fromI, if_pos (by omega)]; rfl
  have et : g.toI (t : Int) = g.to t := by rw [G.toI, if_pos (by omega)]; rfl
  have TF := from_tree hR hs
  have TT := to_tree hR ht
  refine from_ok hR (hN _ (o5.get 1 rfl)) fun sd sa so h6 o6 => ?_
  rw [ef] at o6
  replace o6 := o5.frame o6
  refine to_ok hR (hN _ (o6.get 4 rfl)) fun td ta to h7 o7 => ?_
  rw [et] at o7
  replace o7 := o6.frame o7
  have pso : Mh.plainCell so = true := (o7.vw 5 rfl).plain
  have pto : Mh.plainCell to = true := (o7.vw 2 rfl).plain
  refine o7.box fun from7 h8 o8 => o8.box fun to8 h9 o9 => o9.st (cs' := [sd, sa, so]) 1 rfl rfl rfl rfl rfl ?_ fun h10 o10 => o10.st (cs' := [td, ta, to]) 0 rfl rfl rfl rfl rfl ?_ fun h11 o11 => ?_
  · intro u hu
    simp at hu
    rcases hu with rfl | rfl | rfl
    · exact (o7.vw 3 rfl).plain
    · exact (o7.vw 4 rfl).plain
    · exact pso
  · intro u hu
    simp at hu
    rcases hu with rfl | rfl | rfl
    · exact (o7.vw 0 rfl).plain
    · exact (o7.vw 1 rfl).plain
    · exact pto
  have o12 : Own h h11 [cellR to8 [td, ta, to] T_flood_Tree, cellR from7 [sd, sa, so] T_flood_Tree, xR td (g.to t).dist, slR encI 1 T_int ta (g.to t).arc, xR sd (g.from s).dist, slR encI 1 T_int sa (g.from s).arc, cellR g3 [I g.n, vx, vy, va] T_api_Raw, N, xR vx g.X, xR vy g.Y, aR va g.arcs] := o11.sel [0, 1, 2, 3, 5, 6, 8, 9, 10, 11, 12] (by decide)
  clear o11 o10 o9 o8 o7 o6 o5 o4 o3
  refine o12.ldN (cs' := [I g.n, vx, vy, va]) 6 rfl rfl rfl (o12.ldN (cs' := [I g.n, vx, vy, va]) 6 rfl rfl rfl ?_)
  refine bell_ok o12 hR (rawOf11 o12 8 9 10 rfl rfl rfl) hs fun d1' vd1 h12 hl1 o13 => ⟨o13.ldN (cs' := [I g.n, vx, vy, va]) 7 rfl rfl rfl rfl, ?_⟩
  have e1 : d1' = (g.from s).dist := hl1.uniq TF.ls
  subst e1
  refine rturned_ok o13 hR (rawOf11 o13 9 10 11 rfl rfl rfl) fun vx' vy' va' h13 o14 => ?_
  refine bell_ok (g := g.turned) o14 hR.turned ⟨vx', vy', va', rfl, o14.vw 0 rfl, o14.vw 1 rfl, o14.vw 2 rfl⟩ ht fun d2' vd2 h14 hl2 o15 => ?_
  have e2 : d2' = (g.to t).dist := hl2.swap.uniq TT.ls
  subst e2
  have o16 : Own h h14 [xR vd2 (g.to t).dist, xR vd1 (g.from s).dist, cellR to8 [td, ta, to] T_flood_Tree, cellR from7 [sd, sa, so] T_flood_Tree, xR td (g.to t).dist, slR encI 1 T_int ta (g.to t).arc, xR sd (g.from s).dist, slR encI 1 T_int sa (g.from s).arc, cellR g3 [I g.n, vx, vy, va] T_api_Raw, N] := o15.sel [0, 4, 5, 6, 7, 8, 9, 10, 11, 12] (by decide)
  clear o15 o14 o13 o12
  have la1 : (g.from s).arc.length < 2 ^ 62 := by rw [TF.al]; omega
  have la2 : (g.to t).arc.length < 2 ^ 62 := by rw [TT.al]; omega
  have ld1 := TF.ls.len
  have ld2 := TT.ls.len
  refine LoopH_count g.n (fun i x h' => x.1 = I i ∧ ∃ h9, Own h h' [xR vd2 (g.to t).dist, xR vd1 (g.from s).dist, cellR to8 [td, ta, to] T_flood_Tree, cellR from7 [sd, sa, so] T_flood_Tree, xR td (g.to t).dist, slR encI 1 T_int ta (g.to t).arc, xR sd (g.from s).dist, slR encI 1 T_int sa (g.from s).arc, cellR g3 [I g.n, vx, vy, va] T_api_Raw, N] ∧ h9 = h') ⟨rfl, _, o16, rfl⟩ ?_
  clear o16
  rintro v ⟨x, ⟨⟩⟩ h2 Z hi ⟨hx, _, o, _⟩ hZ
  dsimp only at hx hZ ⊢
  subst hx
  unfold sh_milestonelaw11_PathLeast_L1
  simp only [pField_ptr]
  refine o.load 8 rfl rfl ?_
  simp only [pBin_lss (b := (g.n : Int)), ifV_dec]
  refine ⟨fun hlt => ?_, fun hge => hK _ o.ext⟩
  have hlt : v < g.n := by omega
  obtain ⟨f1, f2⟩ := folI_tree TF hlt
  obtain ⟨b1, b2⟩ := folI_tree TT hlt
  -- what is known of both
  have goal : ∀ (ca cb : Bool) (la lb : List Nat) (wa wb : Value) (h3 : Heap), Own h2 h3 [quR encI 1 T_int wb (nI lb), quR encI 1 T_int wa (nI la)] → ca = decide (dAt (g.from s).dist v < far) → cb = decide (dAt (g.to t).dist v < far) →
      (Trail g.arcs s la (if ca then v else s) ∧ (ca = true → dAt (g.from s).dist v = tsum g.arcs la) ∧ (nds g.arcs s la).Nodup ∧ la.length < 16777216) → (Trail g.arcs v lb (if cb then t else v) ∧ (cb = true → dAt (g.to t).dist v = tsum g.arcs lb) ∧ (nds g.arcs v lb).Nodup ∧ lb.length < 16777216) →
      callS Tryz.prog F_walk_Check [ptr r, I s, I v, wa] h3 fun t73 h_18 => pExt t73 0 fun t74 => pExt t73 1 fun t75 => callS Tryz.prog F_walk_Check [ptr r, I v, I t, wb] h_18 fun t81 h_19 => pExt t81 0 fun t82 => pExt t81 1 fun t83 =>
        pIdx 1 vd1 (I v) fun t87 => pLoad h_19 t87 fun t88 => pBin .lss t88 (.int .i64 72057594037927936) fun t89 => pEq true .bool (.bool ca) t89 fun t90 => ifV t90 (sh_milestonelaw11_PathLeast_k2 Tryz.prog K h_19)
        (pIdx 1 vd2 (I v) fun t95 => pLoad h_19 t95 fun t96 => pBin .lss t96 (.int .i64 72057594037927936) fun t97 => pEq true .bool (.bool cb) t97 fun t98 => ifV t98 (sh_milestonelaw11_PathLeast_k2 Tryz.prog K h_19)
        (ifV (.bool ca) (pUn .not t75 fun t104 => ifV t104 (sh_milestonelaw11_PathLeast_k2 Tryz.prog K h_19) (pIdx 1 vd1 (I v) fun t109 => pLoad h_19 t109 fun t110 => pBin .neq t74 t110 fun t111 => ifV t111 (sh_milestonelaw11_PathLeast_k2 Tryz.prog K h_19)
          (ifV (.bool cb) (pUn .not t83 fun t119 => ifV t119 (sh_milestonelaw11_PathLeast_k2 Tryz.prog K h_19) (pIdx 1 vd2 (I v) fun t124 => pLoad h_19 t124 fun t125 => pBin .neq t82 t125 fun t126 =>
            sh_milestonelaw11_PathLeast_k3 Tryz.prog K (ptr r) (I s) wa (I v) wb (.bool ca) (.bool cb) (fun a0 hz => Z (a0, ()) hz) t126 h_19))
            (sh_milestonelaw11_PathLeast_k4 Tryz.prog (ptr r) (I s) wa (I v) wb (.bool ca) K (.bool cb) (fun a0 hz => Z (a0, ()) hz) h_19))))
          (ifV (.bool cb) (pUn .not t83 fun t119_1 => ifV t119_1 (sh_milestonelaw11_PathLeast_k2 Tryz.prog K h_19) (pIdx 1 vd2 (I v) fun t124_1 => pLoad h_19 t124_1 fun t125_1 => pBin .neq t82 t125_1 fun t126_1 =>
            sh_milestonelaw11_PathLeast_k3 Tryz.prog K (ptr r) (I s) wa (I v) wb (.bool ca) (.bool cb) (fun a0 hz => Z (a0, ()) hz) t126_1 h_19))
            (sh_milestonelaw11_PathLeast_k4 Tryz.prog (ptr r) (I s) wa (I v) wb (.bool ca) K (.bool cb) (fun a0 hz => Z (a0, ()) hz) h_19)))) := by
    intro ca cb la lb wa wb h3 ow hca hcb ⟨tra, sua, nda, lla⟩ ⟨trb, sub', ndb, llb⟩
    have oo := o.more ow.ext
    replace ow := (o.frame ow).sel [0, 1] (by decide)
    -- what is left at the end
    have k4 : ∀ h4, Ext h3 h4 → sh_milestonelaw11_PathLeast_k4 Tryz.prog (ptr r) (I s) wa (I v) wb (.bool ca) K (.bool cb) (fun a0 hz => Z (a0, ()) hz) h4 := by
      intro h4 x4
      unfold sh_milestonelaw11_PathLeast_k4
      have o4 := oo.more x4
      have w4 := ow.more x4
      refine wbare_ok hR (hN _ (o4.get 9 rfl)) (w4.qvw 1 rfl) (by omega) hs tra nda fun w1 h5 o5 => ?_
      simp only [pExt0, pExt1]
      have o5' := o4.more o5.ext
      have w5 := w4.more o5.ext
      refine wbare_ok hR (hN _ (o5'.get 9 rfl)) (w5.qvw 0 rfl) (by omega) hlt trb ndb fun w2 h6 o6 => ?_
      simp only [pExt0, pExt1]
      have w6 := w5.more o6.ext
      have v1 := (o5.vw 0 rfl).more o6.ext
      have next : sh_milestonelaw11_PathLeast_k7 Tryz.prog (I v) (fun a0 hz => Z (a0, ()) hz) h6 := by
        unfold sh_milestonelaw11_PathLeast_k7
        rw [pBin_add, wI v (by omega)]
        exact hZ (I (v + 1 : Nat), ()) _ hlt ⟨rfl, _, o5'.more o6.ext, rfl⟩
      have bsame : ifV (.bool cb) (callS Tryz.prog F_milestoneref07_Ints [w2, wb] h6 fun t156 h_27 => pUn .not t156 fun t157 => sh_milestonelaw11_PathLeast_k6 Tryz.prog K (I v) (fun a0 hz => Z (a0, ()) hz) t157 h_27) (sh_milestonelaw11_PathLeast_k7 Tryz.prog (I v) (fun a0 hz => Z (a0, ()) hz) h6) := by
        cases cb with
        | false => rw [ifV_false]; exact next
        | true =>
          rw [ifV_true]
          refine rints_ok (e := fun x => x) (fun _ => rfl) (o6.vw 0 rfl) (w6.qvw 0 rfl) (by rw [nI_len]; omega) ?_
          rw [pUn_not, Bool.not_true]
          unfold sh_milestonelaw11_PathLeast_k6
          rw [ifV_false]
          exact next
      cases ca with
      | false => rw [ifV_false]; exact bsame
      | true =>
        rw [ifV_true]
        refine rints_ok (e := fun x => x) (fun _ => rfl) v1 (w6.qvw 1 rfl) (by rw [nI_len]; omega) ?_
        rw [pUn_not, Bool.not_true, ifV_false]
        exact bsame
    have ck1 : ∀ {K' : Value → Heap → Prop} {h3' : Heap}, Ext h3 h3' → (∀ (c : Bool) (w : Int) h4, Ext h3' h4 → (ca = true → c = true ∧ w = dAt (g.from s).dist v) → K' (.tuple #[I w, .bool c]) h4) → callS Tryz.prog F_walk_Check [ptr r, I s, I v, wa] h3' K' := by
      intro K' h3' x3 hk
      have key : ca = true → wchk g.arcs s 0 (nI la) = some ((v : Int), dAt (g.from s).dist v) := fun h => by
        rw [h, if_pos rfl] at tra
        have := wchk_trail (w := 0) tra
        rw [Int.zero_add, ← sua h] at this
        exact this
      refine wcheck_ok hR (hN _ ((oo.more x3).get 9 rfl)) ((ow.more x3).qvw 1 rfl) (by rw [nI_len]; omega) (fun w h4 _ _ hw x4 => hk true w h4 x4 fun h => ⟨rfl, ?_⟩) fun h4 hno x4 => hk false 0 h4 x4 fun h => absurd ⟨by omega, by omega, _, key h⟩ hno
      rw [key h] at hw
      exact (congrArg Prod.snd (Option.some.inj hw)).symm
    have ck2 : ∀ {K' : Value → Heap → Prop} {h3' : Heap}, Ext h3 h3' → (∀ (c : Bool) (w : Int) h4, Ext h3' h4 → (cb = true → c = true ∧ w = dAt (g.to t).dist v) → K' (.tuple #[I w, .bool c]) h4) → callS Tryz.prog F_walk_Check [ptr r, I v, I t, wb] h3' K' := by
      intro K' h3' x3 hk
      have key : cb = true → wchk g.arcs v 0 (nI lb) = some ((t : Int), dAt (g.to t).dist v) := fun h => by
        rw [h, if_pos rfl] at trb
        have := wchk_trail (w := 0) trb
        rw [Int.zero_add, ← sub' h] at this
        exact this
      refine wcheck_ok hR (hN _ ((oo.more x3).get 9 rfl)) ((ow.more x3).qvw 0 rfl) (by rw [nI_len]; omega) (fun w h4 _ _ hw x4 => hk true w h4 x4 fun h => ⟨rfl, ?_⟩) fun h4 hno x4 => hk false 0 h4 x4 fun h => absurd ⟨by omega, by omega, _, key h⟩ hno
      rw [key h] at hw
      exact (congrArg Prod.snd (Option.some.inj hw)).symm
    refine ck1 (.refl _ _) fun c1 w1 h4 x4 q1 => ?_
    simp only [pExt0, pExt1]
    refine ck2 x4 fun c2 w2 h5 x5 q2 => ?_
    simp only [pExt0, pExt1]
    have x35 := x4.trans x5 fun _ hf _ => hf
    have o5 := oo.more x35
    have rd1 : ∀ {K' : Value → Prop}, K' (I (dAt (g.from s).dist v)) → pIdx 1 vd1 (I v) fun t87 => pLoad h5 t87 K' := fun hk => (o5.vw 1 rfl).atI (by omega) (by rw [dAt_get (by omega)]; exact hk)
    have rd2 : ∀ {K' : Value → Prop}, K' (I (dAt (g.to t).dist v)) → pIdx 1 vd2 (I v) fun t87 => pLoad h5 t87 K' := fun hk => (o5.vw 0 rfl).atI (by omega) (by rw [dAt_get (by omega)]; exact hk)
    refine rd1 ?_
    rw [pBin_lss]
    refine pe11 hca ?_
    rw [ifV_false]
    refine rd2 ?_
    rw [pBin_lss]
    refine pe11 hcb ?_
    rw [ifV_false]
    have second : ifV (.bool cb) (pUn .not (.bool c2) fun t119 => ifV t119 (sh_milestonelaw11_PathLeast_k2 Tryz.prog K h5) (pIdx 1 vd2 (I v) fun t124 => pLoad h5 t124 fun t125 => pBin .neq (I w2) t125 fun t126 =>
            sh_milestonelaw11_PathLeast_k3 Tryz.prog K (ptr r) (I s) wa (I v) wb (.bool ca) (.bool cb) (fun a0 hz => Z (a0, ()) hz) t126 h5))
            (sh_milestonelaw11_PathLeast_k4 Tryz.prog (ptr r) (I s) wa (I v) wb (.bool ca) K (.bool cb) (fun a0 hz => Z (a0, ()) hz) h5) := by
      cases hcbv : cb with
      | false => rw [ifV_false]; rw [← hcbv]; exact k4 h5 x35
      | true =>
        obtain ⟨rfl, rfl⟩ := q2 hcbv
        rw [ifV_true, pUn_not, Bool.not_true, ifV_false]
        refine rd2 ?_
        rw [pBin_neq, bne_self_eq_false]
        unfold sh_milestonelaw11_PathLeast_k3
        rw [ifV_false, ← hcbv]
        exact k4 h5 x35
    cases hcav : ca with
    | false => rw [ifV_false]; rw [← hcav]; exact second
    | true =>
      obtain ⟨rfl, rfl⟩ := q1 hcav
      rw [ifV_true, pUn_not, Bool.not_true, ifV_false]
      refine rd1 ?_
      rw [pBin_neq, bne_self_eq_false, ifV_false, ← hcav]
      exact second
  have A1 : ∀ {r}, FolTree g.arcs A.f A.t g.n s (g.from s) v r → r.length < 16777216 → Trail g.arcs s r.reverse (if true then v else s) ∧ (true = true → dAt (g.from s).dist v = tsum g.arcs r.reverse) ∧ (nds g.arcs s r.reverse).Nodup ∧ r.reverse.length < 16777216 := fun F hl =>
    ⟨F.rt.bwd, fun _ => by rw [F.sum, tsum_rev], bwdNodup F, by rw [List.length_reverse]; exact hl⟩
  have A0 : Trail g.arcs s [] (if false then v else s) ∧ (false = true → dAt (g.from s).dist v = tsum g.arcs []) ∧ (nds g.arcs s []).Nodup ∧ ([] : List Nat).length < 16777216 := ⟨rfl, fun h => by (cases h), bareSame, by decide⟩
  have B1 : ∀ {r}, FolTree g.arcs A.t A.f g.n t (g.to t) v r → r.length < 16777216 → Trail g.arcs v r (if true then t else v) ∧ (true = true → dAt (g.to t).dist v = tsum g.arcs r) ∧ (nds g.arcs v r).Nodup ∧ r.length < 16777216 := fun F hl =>
    ⟨F.rt.fwd, fun _ => F.sum, fwdNodup F, hl⟩
  have B0 : Trail g.arcs v [] (if false then t else v) ∧ (false = true → dAt (g.to t).dist v = tsum g.arcs []) ∧ (nds g.arcs v []).Nodup ∧ ([] : List Nat).length < 16777216 := ⟨rfl, fun h => by (cases h), bareSame, by decide⟩
  have dc : ∀ {d : Int} {l : Option (List Nat)} {P : List Nat → Prop}, (d < far → ∃ r, l = some r ∧ P r) → (¬ d < far → l = none) → (∀ x, l = some x → decide (d < far) = true ∧ P x) ∧ (l = none → decide (d < far) = false) := by
    intro d l P h1 h2
    refine ⟨fun x hx => ?_, fun hn => ?_⟩
    · by_cases h : d < far
      · obtain ⟨r, hr, hp⟩ := h1 h
        rw [hr] at hx
        obtain rfl := Option.some.inj hx
        exact ⟨decide_eq_true h, hp⟩
      · rw [h2 h] at hx; cases hx
    · refine decide_eq_false fun h => ?_
      obtain ⟨r, hr, _⟩ := h1 h
      rw [hr] at hn; cases hn
  have D1 := dc f1 f2
  have D2 := dc b1 b2
  refine o.ldN (cs' := [sd, sa, so]) 3 rfl rfl rfl (pahead_ok hR (hN _ (o.get 9 rfl)) (o.vw 6 rfl) (o.vw 7 rfl) pso la1 (fun la wa h3 hla hlen oa => ?_) fun h3 hno xa => ?_)
  · obtain ⟨ca, FA⟩ := D1.1 la hla
    simp only [pExt0, pExt1]
    have oo := o.more oa.ext
    refine oo.ldN (cs' := [td, ta, to]) 2 rfl rfl rfl (pbehind_ok hR (hN _ (oo.get 9 rfl)) (oo.vw 4 rfl) (oo.vw 5 rfl) pto la2 (fun lb wb h4 hlb hlenb ob => ?_) fun h4 hno xb => ?_)
    · obtain ⟨cb, FB⟩ := D2.1 lb hlb
      simp only [pExt0, pExt1]
      exact goal true true _ _ _ _ _ (oa.frame ob) ca.symm cb.symm (A1 FA hlen) (B1 FB hlenb)
    · simp only [pExt0, pExt1]
      exact goal true false _ [] _ _ _ (((oa.more xb).nilS (enc := encI) (n := 1) (T := T_int)).que 0 rfl) ca.symm (D2.2 hno).symm (A1 FA hlen) B0
  · simp only [pExt0, pExt1]
    have oo := o.more xa
    have oa := (((Own.start h2).more xa).nilS (enc := encI) (n := 1) (T := T_int)).que 0 rfl
    refine oo.ldN (cs' := [td, ta, to]) 2 rfl rfl rfl (pbehind_ok hR (hN _ (oo.get 9 rfl)) (oo.vw 4 rfl) (oo.vw 5 rfl) pto la2 (fun lb wb h4 hlb hlenb ob => ?_) fun h4 hno' xb => ?_)
    · obtain ⟨cb, FB⟩ := D2.1 lb hlb
      simp only [pExt0, pExt1]
      exact goal false true [] _ _ _ _ (oa.frame ob) (D1.2 hno).symm cb.symm A0 (B1 FB hlenb)
    · simp only [pExt0, pExt1]
      exact goal false false [] [] _ _ _ (((oa.more xb).nilS (enc := encI) (n := 1) (T := T_int)).que 0 rfl) (D1.2 hno).symm (D2.2 hno').symm A0 B0

end
end Go.Proofs.YtjamcgoebnafkaaGreatDoor

namespace Go.Proofs.YtjamcgoebnafkaaGreatDoor
open Go Go.Mh
set_option linter.unusedVariables false

section
variable {h0 h : Heap} {L : List Res} {K : Value → Heap → Prop} {vb : Value} {bs : List Int}

theorem pathPrefix_ok {e0 e1 : Int} (H : Vw encU8 1 h vb bs) (r0 : 0 ≤ e0 ∧ e0 ≤ 255) (r1 : 0 ≤ e1 ∧ e1 ≤ 255) (hK : ∀ h', Ext h h' → K (.bool true) h') :
    CallsH Tryz.prog F_milestonelaw11_PathPrefix [.agg #[vb, .int .u8 e0, .int .u8 e1]].toArray h K := by
  refine lk_milestonelaw11_PathPrefix _ ?_
  unfold sh_milestonelaw11_PathPrefix
  have hvb := H.one
  refine (Own.start h).box fun d1 h1 o1 => ?_
  have ec : (Value.cells (.agg #[vb, .int .u8 e0, .int .u8 e1])).toList = [vb, .int .u8 e0, .int .u8 e1] := rfl
  rw [ec] at o1
  refine works11_ok fun h2 x2 => ?_
  rw [pUn_not, Bool.not_true, ifV_false]
  have o2 := o1.more x2
  refine o2.ldN (cs' := [vb, .int .u8 e0, .int .u8 e1]) 0 rfl rfl rfl (graph11_ok (H.more o2.ext) r0 r1 fun g vx vy va r N s t h3 hg hN hs ht o3 => ?_)
  simp only [pExt0, pExt1]
  refine pExt4_2 (pExt4_3 ?_)
  have hR := hg.toRight
  have hmost := hR.most
  have hpos := hR.pos
  have hmany := hR.many
  replace o3 := o2.frame o3
  refine o3.box fun g3 h4 o4 => o4.st (cs' := [I g.n, vx, vy, va]) 0 rfl rfl rfl rfl rfl ?_ fun h5 o5 => ?_
  · intro u hu
    simp at hu
    rcases hu with rfl | rfl | rfl | rfl
    · rfl
    · exact (o3.vw 1 rfl).plain
    · exact (o3.vw 2 rfl).plain
    · exact (o3.vw 3 rfl).plain
  simp only [pEq_ptr_nil, Option.isNone_some, ifV_false]
  have ef : g.fromI (s : Int) = g.from s := by rw [G.fromI, if_pos (by omega)]; rfl
  have TF := from_tree hR hs
  refine from_ok hR (hN _ (o5.get 1 rfl)) fun sd sa so h6 o6 => ?_
  rw [ef] at o6
  replace o6 := o5.frame o6
  have pso : Mh.plainCell so = true := (o6.vw 2 rfl).plain
  refine o6.box fun from7 h8 o8 => o8.st (cs' := [sd, sa, so]) 0 rfl rfl rfl rfl rfl ?_ fun h10 o10 => ?_
  · intro u hu
    simp at hu
    rcases hu with rfl | rfl | rfl
    · exact (o6.vw 0 rfl).plain
    · exact (o6.vw 1 rfl).plain
    · exact pso
  have o12 : Own h h10 [cellR from7 [sd, sa, so] T_flood_Tree, xR sd (g.from s).dist, slR encI 1 T_int sa (g.from s).arc, cellR g3 [I g.n, vx, vy, va] T_api_Raw, N] := o10.sel [0, 1, 2, 4, 5] (by decide)
  clear o10 o8 o6 o5 o4 o3
  have la1 : (g.from s).arc.length < 2 ^ 62 := by rw [TF.al]; omega
  have ld1 := TF.ls.len
  refine LoopH_count g.n (fun i x h' => x.1 = I i ∧ ∃ h9, Own h h' [cellR from7 [sd, sa, so] T_flood_Tree, xR sd (g.from s).dist, slR encI 1 T_int sa (g.from s).arc, cellR g3 [I g.n, vx, vy, va] T_api_Raw, N] ∧ h9 = h') ⟨rfl, _, o12, rfl⟩ ?_
  clear o12
  rintro v ⟨x, ⟨⟩⟩ h2 Z hi ⟨hx, _, o, _⟩ hZ
  dsimp only at hx hZ ⊢
  subst hx
  unfold sh_milestonelaw11_PathPrefix_L1
  simp only [pField_ptr]
  refine o.load 3 rfl rfl ?_
  simp only [pBin_lss (b := (g.n : Int)), ifV_dec]
  refine ⟨fun hlt => ?_, fun hge => hK _ o.ext⟩
  have hlt : v < g.n := by omega
  obtain ⟨f1, f2⟩ := folI_tree TF hlt
  have next : ∀ {h'}, Own h h' [cellR from7 [sd, sa, so] T_flood_Tree, xR sd (g.from s).dist, slR encI 1 T_int sa (g.from s).arc, cellR g3 [I g.n, vx, vy, va] T_api_Raw, N] → sh_milestonelaw11_PathPrefix_k2 Tryz.prog (I v) (fun a0 hz => Z (a0, ()) hz) h' := by
    intro h' o
    unfold sh_milestonelaw11_PathPrefix_k2
    rw [pBin_add, wI v (by omega)]
    exact hZ (I (v + 1 : Nat), ()) _ hlt ⟨rfl, _, o, rfl⟩
  refine o.ldN (cs' := [sd, sa, so]) 0 rfl rfl rfl (pahead_ok hR (hN _ (o.get 4 rfl)) (o.vw 1 rfl) (o.vw 2 rfl) pso la1 (fun la wa h3 hla hlen oa => ?_) fun h3 hno xa => ?_)
  · have hd : dAt (g.from s).dist v < far := by
      by_cases h : dAt (g.from s).dist v < far
      · exact h
      · rw [f2 h] at hla; cases hla
    obtain ⟨r', hr', F⟩ := f1 hd
    rw [hr'] at hla
    obtain rfl := Option.some.inj hla
    simp only [pExt0, pExt1]
    have oo := o.more oa.ext
    replace oa := (o.frame oa).sel [0] (by decide)
    have tr := F.rt.bwd
    have hrl : r'.reverse.length = r'.length := List.length_reverse
    refine wnodes_ok hR (hN _ (oo.get 4 rfl)) (oa.qvw 0 rfl) (by omega) hs tr fun wn h4 on => ?_
    simp only [pExt0, pExt1]
    rw [pUn_not, Bool.not_true, ifV_false, pUn_not, Bool.not_true, ifV_false]
    have o4 := oo.more on.ext
    have a4 := oa.more on.ext
    have n4 := (oa.frame on).sel [0] (by decide)
    have hnl : (nds g.arcs s r'.reverse).length = r'.length + 1 := by simp [vis]
    have hnl2 : (nI (nds g.arcs s r'.reverse)).length = r'.length + 1 := by rw [nI_len, hnl]
    have hlast : (nds g.arcs s r'.reverse)[r'.length]? = some v := by
      rw [F.rt.nds]
      have : (vis g.arcs A.f v r').length = r'.length + 1 := by simp [vis]
      rw [List.getElem?_reverse (by omega), this]
      simp [vis]
    refine (n4.vw 0 rfl).len ?_
    rw [hnl2, pBin_sub, w64 (by omega) (by omega), show ((r'.length + 1 : Nat) : Int) - 1 = (r'.length : Int) by omega]
    refine (n4.vw 0 rfl).atQ (z := (v : Int)) (by simp only [nI, List.getElem?_map, hlast, Option.map_some]) ?_
    rw [pBin_neq, bne_self_eq_false, ifV_false]
    have hvl : (vis g.arcs A.f v r').length = r'.length + 1 := by simp [vis]
    have nat : ∀ k, k ≤ r'.length → ∃ u, (nds g.arcs s r'.reverse)[k]? = some u ∧ (vis g.arcs A.f v r')[r'.length - k]? = some u := by
      intro k hk
      have hg : (vis g.arcs A.f v r')[r'.length - k]? = some ((vis g.arcs A.f v r')[r'.length - k]'(by omega)) := List.getElem?_eq_getElem (by omega)
      generalize (vis g.arcs A.f v r')[r'.length - k]'(by omega) = u at hg
      refine ⟨u, ?_, hg⟩
      rw [F.rt.nds, List.getElem?_reverse (by omega), hvl, show r'.length + 1 - 1 - k = r'.length - k by omega]
      exact hg
    refine LoopH_count (r'.length + 1) (fun i x h' => x.1 = I i ∧ ∃ h9, Own h h' [cellR from7 [sd, sa, so] T_flood_Tree, xR sd (g.from s).dist, slR encI 1 T_int sa (g.from s).arc, cellR g3 [I g.n, vx, vy, va] T_api_Raw, N] ∧ Own h h' [slR encI 1 T_int wn (nI (nds g.arcs s r'.reverse)), quR encI 1 T_int wa (nI r'.reverse)] ∧ h9 = h') ⟨rfl, _, o4, (oa.frame on).sel [0, 1] (by decide), rfl⟩ ?_
    clear n4 a4 o4 oa oo on o
    rintro k ⟨x, ⟨⟩⟩ h5 Z2 hk ⟨hx, _, o, n5, _⟩ hZ2
    dsimp only at hx hZ2 ⊢
    subst hx
    unfold sh_milestonelaw11_PathPrefix_L4
    refine (n5.vw 0 rfl).len ?_
    rw [hnl2]
    simp only [pBin_lss (b := ((r'.length + 1 : Nat) : Int)), ifV_dec]
    refine ⟨fun hlt2 => ?_, fun hge => next o⟩
    have hk : k ≤ r'.length := by omega
    obtain ⟨u, hu, hvu⟩ := nat k hk
    obtain ⟨un, ud, uf, us⟩ := F.at TF hvu
    have huI : (nI (nds g.arcs s r'.reverse))[k]? = some (u : Int) := by simp only [nI, List.getElem?_map, hu, Option.map_some]
    refine o.ldN (cs' := [sd, sa, so]) 0 rfl rfl rfl ((n5.vw 0 rfl).atQ huI ?_)
    refine pahead_ok hR (hN _ (o.get 4 rfl)) (o.vw 1 rfl) (o.vw 2 rfl) pso la1 (fun lu wu h6 hlu hlenu ou => ?_) fun _ hno => by rw [uf] at hno; cases hno
    rw [uf] at hlu
    obtain rfl := Option.some.inj hlu
    simp only [pExt0, pExt1]
    have o6 := o.more ou.ext
    have n6 := n5.more ou.ext
    refine cutP_of (fun y h' => y.1 = .bool false ∧ h' = h6) (fun J hJ => ?_) ?_
    · rw [pUn_not, Bool.not_true, ifV_false]
      refine (n6.qvw 1 rfl).sub (a := 0) (j := k) encI_len rfl rfl (by omega) (by rw [nI_len, hrl]; exact hk) fun w7 hw7 => ?_
      have e7 : ((nI r'.reverse).drop 0).take (k - 0) = nI (r'.drop (r'.length - k)).reverse := by
        rw [List.drop_zero, Nat.sub_zero]
        simp only [nI, ← List.map_take]
        rw [List.take_reverse]
      rw [e7] at hw7
      refine rints_ok (e := fun x => x) (fun _ => rfl) (ou.qvw 0 rfl) hw7 (by rw [nI_len, List.length_reverse, List.length_drop]; omega) ?_
      rw [pUn_not, Bool.not_true, ifV_false]
      simp only [pBin_gtr, ifV_dec]
      refine ⟨fun hpos => ?_, fun _ => hJ _ _ ⟨rfl, rfl⟩⟩
      obtain ⟨u', hu', hvu'⟩ := nat (k - 1) (by omega)
      obtain ⟨un', ud', uf', us'⟩ := F.at TF hvu'
      have huI' : (nI (nds g.arcs s r'.reverse))[k - 1]? = some (u' : Int) := by simp only [nI, List.getElem?_map, hu', Option.map_some]
      refine o6.load 0 rfl rfl ((n6.vw 0 rfl).atQ huI ((o6.vw 1 rfl).atI (by omega) (o6.load 0 rfl rfl ?_)))
      rw [pBin_sub, w64 (by omega) (by omega), show (k : Int) - 1 = ((k - 1 : Nat) : Int) by omega]
      refine (n6.vw 0 rfl).atQ huI' ((o6.vw 1 rfl).atI (by omega) ?_)
      rw [dAt_get (by omega), dAt_get (by omega), pBin_lss, us, us']
      have : tsum g.arcs (r'.drop (r'.length - (k - 1))) ≤ tsum g.arcs (r'.drop (r'.length - k)) := by
        have hlt3 : r'.length - k < r'.length := by omega
        rw [List.drop_eq_getElem_cons hlt3, tsum_cons, show r'.length - (k - 1) = r'.length - k + 1 by omega]
        omega
      rw [decide_eq_false (by omega)]
      exact hJ _ _ ⟨rfl, rfl⟩
    · rintro ⟨y, ⟨⟩⟩ h7 ⟨hy, rfl⟩
      dsimp only at hy ⊢
      subst hy
      unfold sh_milestonelaw11_PathPrefix_C5
      rw [ifV_false, pBin_add, wI k (by omega)]
      exact hZ2 (I (k + 1 : Nat), ()) _ (by omega) ⟨rfl, _, o6, n6, rfl⟩
  · simp only [pExt0, pExt1]
    have oo := o.more xa
    have oa := (((Own.start h2).more xa).nilS (enc := encI) (n := 1) (T := T_int)).que 0 rfl
    refine wnodes_ok (arcs := []) hR (hN _ (oo.get 4 rfl)) (oa.qvw 0 rfl) (by decide) hs (t := s) rfl fun wn h4 on => ?_
    simp only [pExt0, pExt1]
    rw [pUn_not, Bool.not_false, ifV_true]
    exact next (oo.more on.ext)

end
end Go.Proofs.YtjamcgoebnafkaaGreatDoor
