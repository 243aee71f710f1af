/- Texts of the proofs of seat YtjamcgoebnafkaaGreatDoor, joined: F11C, F11F. They have no conditions of their own. -/
import Derived.Test.YtjamcgoebnafkaaGreatDoorTb
set_option linter.unusedVariables false
set_option linter.unusedSimpArgs false

namespace Go.Proofs.YtjamcgoebnafkaaGreatDoor
open Go Go.Mh
set_option linter.unusedVariables false

section
variable {h0 h : Heap} {L : List Res} {K : Value → Heap → Prop} {vb : Value} {bs : List Int}

theorem pe11 {c d : Bool} {K : Value → Prop} (e : c = d) (hk : K (.bool false)) : pEq true .bool (.bool c) (.bool d) K := by subst e; simpa [pEq] using hk

theorem pExt4_2 {a b c d : Value} {K : Value → Prop} (hk : K c) : pExt (.tuple #[a, b, c, d]) 2 K := hk
theorem pExt4_3 {a b c d : Value} {K : Value → Prop} (hk : K d) : pExt (.tuple #[a, b, c, d]) 3 K := hk
theorem tsum_rev {l : List A} {r : List Nat} : tsum l r.reverse = tsum l r := by
  induction r with
  | nil => rfl
  | cons i r ih => rw [List.reverse_cons, tsum_append, tsum_cons, tsum_cons, ih, tsum_nil]; omega

theorem bareSame {l : List A} {v : Nat} : (nds l v []).Nodup := by simp [vis]

theorem fwdNodup {l : List A} {n t v : Nat} {T : Tr} {r : List Nat} (F : FolTree l A.t A.f n t T v r) : (nds l v r).Nodup := F.nodup
theorem bwdNodup {l : List A} {n s v : Nat} {T : Tr} {r : List Nat} (F : FolTree l A.f A.t n s T v r) : (nds l s r.reverse).Nodup := by
  rw [F.rt.nds]; exact List.pairwise_reverse.2 (List.Pairwise.imp (fun h e => h e.symm) F.nodup)

theorem pathLeast_ok {e0 e1 : Int} (H : Vw encU8 1 h vb bs) (r0 : 0 ≤ e0 ∧ e0 ≤ 255) (r1 : 0 ≤ e1 ∧ e1 ≤ 255) (hK : ∀ h', Ext h h' → K (.bool true) h') :
    CallsH Tryz.prog F_milestonelaw11_PathLeast [.agg #[vb, .int .u8 e0, .int .u8 e1]].toArray h K := by
  refine lk_milestonelaw11_PathLeast _ ?_
  unfold sh_milestonelaw11_PathLeast
  have hvb := H.one
  refine (Own.start h).box fun d1 h1 o1 => ?_
  have ec : (Value.cells (.agg #[vb, .int .u8 e0, .int .u8 e1])).toList = [vb, .int .u8 e0, .int .u8 e1] := rfl
  rw [ec] at o1
  refine works11_ok fun h2 x2 => ?_
  rw [pUn_not, Bool.not_true, ifV_false]
  have o2 := o1.more x2
  refine o2.ldN (cs' := [vb, .int .u8 e0, .int .u8 e1]) 0 rfl rfl rfl (graph11_ok (H.more o2.ext) r0 r1 fun g vx vy va r N s t h3 hg hN hs ht o3 => ?_)
  simp only [pExt0, pExt1]
  refine pExt4_2 (pExt4_3 ?_)
  have hR := hg.toRight
  have hmost := hR.most
  have hpos := hR.pos
  have hmany := hR.many
  replace o3 := o2.frame o3
  refine o3.box fun g3 h4 o4 => o4.st (cs' := [I g.n, vx, vy, va]) 0 rfl rfl rfl rfl rfl ?_ fun h5 o5 => ?_
  · intro u hu
    simp at hu
    rcases hu with rfl | rfl | rfl | rfl
    · rfl
    · exact (o3.vw 1 rfl).plain
    · exact (o3.vw 2 rfl).plain
    · exact (o3.vw 3 rfl).plain
  simp only [pEq_ptr_nil, Option.isNone_some, ifV_false]
  have ef : g.fromI (s : Int) = g.from s := by rw [G.fromI, if_pos (by omega)]; rfl
  have et : g.toI (t : Int) = g.to t := by rw [G.toI, if_pos (by omega)]; rfl
  have TF := from_tree hR hs
  have TT := to_tree hR ht
  refine from_ok hR (hN _ (o5.get 1 rfl)) fun sd sa so h6 o6 => ?_
  rw [ef] at o6
  replace o6 := o5.frame o6
  refine to_ok hR (hN _ (o6.get 4 rfl)) fun td ta to h7 o7 => ?_
  rw [et] at o7
  replace o7 := o6.frame o7
  have pso : Mh.plainCell so = true := (o7.vw 5 rfl).plain
  have pto : Mh.plainCell to = true := (o7.vw 2 rfl).plain
  refine o7.box fun from7 h8 o8 => o8.box fun to8 h9 o9 => o9.st (cs' := [sd, sa, so]) 1 rfl rfl rfl rfl rfl ?_ fun h10 o10 => o10.st (cs' := [td, ta, to]) 0 rfl rfl rfl rfl rfl ?_ fun h11 o11 => ?_
  · intro u hu
    simp at hu
    rcases hu with rfl | rfl | rfl
    · exact (o7.vw 3 rfl).plain
    · exact (o7.vw 4 rfl).plain
    · exact pso
  · intro u hu
    simp at hu
    rcases hu with rfl | rfl | rfl
    · exact (o7.vw 0 rfl).plain
    · exact (o7.vw 1 rfl).plain
    · exact pto
  have o12 : Own h h11 [cellR to8 [td, ta, to] T_flood_Tree, cellR from7 [sd, sa, so] T_flood_Tree, xR td (g.to t).dist, slR encI 1 T_int ta (g.to t).arc, xR sd (g.from s).dist, slR encI 1 T_int sa (g.from s).arc, cellR g3 [I g.n, vx, vy, va] T_api_Raw, N, xR vx g.X, xR vy g.Y, aR va g.arcs] := o11.sel [0, 1, 2, 3, 5, 6, 8, 9, 10, 11, 12] (by decide)
  clear o11 o10 o9 o8 o7 o6 o5 o4 o3
  refine o12.ldN (cs' := [I g.n, vx, vy, va]) 6 rfl rfl rfl (o12.ldN (cs' := [I g.n, vx, vy, va]) 6 rfl rfl rfl ?_)
  refine bell_ok o12 hR (rawOf11 o12 8 9 10 rfl rfl rfl) hs fun d1' vd1 h12 hl1 o13 => ⟨o13.ldN (cs' := [I g.n, vx, vy, va]) 7 rfl rfl rfl rfl, ?_⟩
  have e1 : d1' = (g.from s).dist := hl1.uniq TF.ls
  subst e1
  refine rturned_ok o13 hR (rawOf11 o13 9 10 11 rfl rfl rfl) fun vx' vy' va' h13 o14 => ?_
  refine bell_ok (g := g.turned) o14 hR.turned ⟨vx', vy', va', rfl, o14.vw 0 rfl, o14.vw 1 rfl, o14.vw 2 rfl⟩ ht fun d2' vd2 h14 hl2 o15 => ?_
  have e2 : d2' = (g.to t).dist := hl2.swap.uniq TT.ls
  subst e2
  have o16 : Own h h14 [xR vd2 (g.to t).dist, xR vd1 (g.from s).dist, cellR to8 [td, ta, to] T_flood_Tree, cellR from7 [sd, sa, so] T_flood_Tree, xR td (g.to t).dist, slR encI 1 T_int ta (g.to t).arc, xR sd (g.from s).dist, slR encI 1 T_int sa (g.from s).arc, cellR g3 [I g.n, vx, vy, va] T_api_Raw, N] := o15.sel [0, 4, 5, 6, 7, 8, 9, 10, 11, 12] (by decide)
  clear o15 o14 o13 o12
  have la1 : (g.from s).arc.length < 2 ^ 62 := by rw [TF.al]; omega
  have la2 : (g.to t).arc.length < 2 ^ 62 := by rw [TT.al]; omega
  have ld1 := TF.ls.len
  have ld2 := TT.ls.len
  refine LoopH_count g.n (fun i x h' => x.1 = I i ∧ ∃ h9, Own h h' [xR vd2 (g.to t).dist, xR vd1 (g.from s).dist, cellR to8 [td, ta, to] T_flood_Tree, cellR from7 [sd, sa, so] T_flood_Tree, xR td (g.to t).dist, slR encI 1 T_int ta (g.to t).arc, xR sd (g.from s).dist, slR encI 1 T_int sa (g.from s).arc, cellR g3 [I g.n, vx, vy, va] T_api_Raw, N] ∧ h9 = h') ⟨rfl, _, o16, rfl⟩ ?_
  clear o16
  rintro v ⟨x, ⟨⟩⟩ h2 Z hi ⟨hx, _, o, _⟩ hZ
  dsimp only at hx hZ ⊢
  subst hx
  unfold sh_milestonelaw11_PathLeast_L1
  simp only [pField_ptr]
  refine o.load 8 rfl rfl ?_
  simp only [pBin_lss (b := (g.n : Int)), ifV_dec]
  refine ⟨fun hlt => ?_, fun hge => hK _ o.ext⟩
  have hlt : v < g.n := by omega
  obtain ⟨f1, f2⟩ := folI_tree TF hlt
  obtain ⟨b1, b2⟩ := folI_tree TT hlt
  -- what is known of both
  have goal : ∀ (ca cb : Bool) (la lb : List Nat) (wa wb : Value) (h3 : Heap), Own h2 h3 [quR encI 1 T_int wb (nI lb), quR encI 1 T_int wa (nI la)] → ca = decide (dAt (g.from s).dist v < far) → cb = decide (dAt (g.to t).dist v < far) →
      (Trail g.arcs s la (if ca then v else s) ∧ (ca = true → dAt (g.from s).dist v = tsum g.arcs la) ∧ (nds g.arcs s la).Nodup ∧ la.length < 16777216) → (Trail g.arcs v lb (if cb then t else v) ∧ (cb = true → dAt (g.to t).dist v = tsum g.arcs lb) ∧ (nds g.arcs v lb).Nodup ∧ lb.length < 16777216) →
      callS Tryz.prog F_walk_Check [ptr r, I s, I v, wa] h3 fun t73 h_18 => pExt t73 0 fun t74 => pExt t73 1 fun t75 => callS Tryz.prog F_walk_Check [ptr r, I v, I t, wb] h_18 fun t81 h_19 => pExt t81 0 fun t82 => pExt t81 1 fun t83 =>
        pIdx 1 vd1 (I v) fun t87 => pLoad h_19 t87 fun t88 => pBin .lss t88 (.int .i64 72057594037927936) fun t89 => pEq true .bool (.bool ca) t89 fun t90 => ifV t90 (sh_milestonelaw11_PathLeast_k2 Tryz.prog K h_19)
        (pIdx 1 vd2 (I v) fun t95 => pLoad h_19 t95 fun t96 => pBin .lss t96 (.int .i64 72057594037927936) fun t97 => pEq true .bool (.bool cb) t97 fun t98 => ifV t98 (sh_milestonelaw11_PathLeast_k2 Tryz.prog K h_19)
        (ifV (.bool ca) (pUn .not t75 fun t104 => ifV t104 (sh_milestonelaw11_PathLeast_k2 Tryz.prog K h_19) (pIdx 1 vd1 (I v) fun t109 => pLoad h_19 t109 fun t110 => pBin .neq t74 t110 fun t111 => ifV t111 (sh_milestonelaw11_PathLeast_k2 Tryz.prog K h_19)
          (ifV (.bool cb) (pUn .not t83 fun t119 => ifV t119 (sh_milestonelaw11_PathLeast_k2 Tryz.prog K h_19) (pIdx 1 vd2 (I v) fun t124 => pLoad h_19 t124 fun t125 => pBin .neq t82 t125 fun t126 =>
            sh_milestonelaw11_PathLeast_k3 Tryz.prog K (ptr r) (I s) wa (I v) wb (.bool ca) (.bool cb) (fun a0 hz => Z (a0, ()) hz) t126 h_19))
            (sh_milestonelaw11_PathLeast_k4 Tryz.prog (ptr r) (I s) wa (I v) wb (.bool ca) K (.bool cb) (fun a0 hz => Z (a0, ()) hz) h_19))))
          (ifV (.bool cb) (pUn .not t83 fun t119_1 => ifV t119_1 (sh_milestonelaw11_PathLeast_k2 Tryz.prog K h_19) (pIdx 1 vd2 (I v) fun t124_1 => pLoad h_19 t124_1 fun t125_1 => pBin .neq t82 t125_1 fun t126_1 =>
            sh_milestonelaw11_PathLeast_k3 Tryz.prog K (ptr r) (I s) wa (I v) wb (.bool ca) (.bool cb) (fun a0 hz => Z (a0, ()) hz) t126_1 h_19))
            (sh_milestonelaw11_PathLeast_k4 Tryz.prog (ptr r) (I s) wa (I v) wb (.bool ca) K (.bool cb) (fun a0 hz => Z (a0, ()) hz) h_19)))) := by
    intro ca cb la lb wa wb h3 ow hca hcb ⟨tra, sua, nda, lla⟩ ⟨trb, sub', ndb, llb⟩
    have oo := o.more ow.ext
    replace ow := (o.frame ow).sel [0, 1] (by decide)
    -- what is left at the end
    have k4 : ∀ h4, Ext h3 h4 → sh_milestonelaw11_PathLeast_k4 Tryz.prog (ptr r) (I s) wa (I v) wb (.bool ca) K (.bool cb) (fun a0 hz => Z (a0, ()) hz) h4 := by
      intro h4 x4
      unfold sh_milestonelaw11_PathLeast_k4
      have o4 := oo.more x4
      have w4 := ow.more x4
      refine wbare_ok hR (hN _ (o4.get 9 rfl)) (w4.qvw 1 rfl) (by omega) hs tra nda fun w1 h5 o5 => ?_
      simp only [pExt0, pExt1]
      have o5' := o4.more o5.ext
      have w5 := w4.more o5.ext
      refine wbare_ok hR (hN _ (o5'.get 9 rfl)) (w5.qvw 0 rfl) (by omega) hlt trb ndb fun w2 h6 o6 => ?_
      simp only [pExt0, pExt1]
      have w6 := w5.more o6.ext
      have v1 := (o5.vw 0 rfl).more o6.ext
      have next : sh_milestonelaw11_PathLeast_k7 Tryz.prog (I v) (fun a0 hz => Z (a0, ()) hz) h6 := by
        unfold sh_milestonelaw11_PathLeast_k7
        rw [pBin_add, wI v (by omega)]
        exact hZ (I (v + 1 : Nat), ()) _ hlt ⟨rfl, _, o5'.more o6.ext, rfl⟩
      have bsame : ifV (.bool cb) (callS Tryz.prog F_milestoneref07_Ints [w2, wb] h6 fun t156 h_27 => pUn .not t156 fun t157 => sh_milestonelaw11_PathLeast_k6 Tryz.prog K (I v) (fun a0 hz => Z (a0, ()) hz) t157 h_27) (sh_milestonelaw11_PathLeast_k7 Tryz.prog (I v) (fun a0 hz => Z (a0, ()) hz) h6) := by
        cases cb with
        | false => rw [ifV_false]; exact next
        | true =>
          rw [ifV_true]
          refine rints_ok (e := fun x => x) (fun _ => rfl) (o6.vw 0 rfl) (w6.qvw 0 rfl) (by rw [nI_len]; omega) ?_
          rw [pUn_not, Bool.not_true]
          unfold sh_milestonelaw11_PathLeast_k6
          rw [ifV_false]
          exact next
      cases ca with
      | false => rw [ifV_false]; exact bsame
      | true =>
        rw [ifV_true]
        refine rints_ok (e := fun x => x) (fun _ => rfl) v1 (w6.qvw 1 rfl) (by rw [nI_len]; omega) ?_
        rw [pUn_not, Bool.not_true, ifV_false]
        exact bsame
    have ck1 : ∀ {K' : Value → Heap → Prop} {h3' : Heap}, Ext h3 h3' → (∀ (c : Bool) (w : Int) h4, Ext h3' h4 → (ca = true → c = true ∧ w = dAt (g.from s).dist v) → K' (.tuple #[I w, .bool c]) h4) → callS Tryz.prog F_walk_Check [ptr r, I s, I v, wa] h3' K' := by
      intro K' h3' x3 hk
      have key : ca = true → wchk g.arcs s 0 (nI la) = some ((v : Int), dAt (g.from s).dist v) := fun h => by
        rw [h, if_pos rfl] at tra
        have := wchk_trail (w := 0) tra
        rw [Int.zero_add, ← sua h] at this
        exact this
      refine wcheck_ok hR (hN _ ((oo.more x3).get 9 rfl)) ((ow.more x3).qvw 1 rfl) (by rw [nI_len]; omega) (fun w h4 _ _ hw x4 => hk true w h4 x4 fun h => ⟨rfl, ?_⟩) fun h4 hno x4 => hk false 0 h4 x4 fun h => absurd ⟨by omega, by omega, _, key h⟩ hno
      rw [key h] at hw
      exact (congrArg Prod.snd (Option.some.inj hw)).symm
    have ck2 : ∀ {K' : Value → Heap → Prop} {h3' : Heap}, Ext h3 h3' → (∀ (c : Bool) (w : Int) h4, Ext h3' h4 → (cb = true → c = true ∧ w = dAt (g.to t).dist v) → K' (.tuple #[I w, .bool c]) h4) → callS Tryz.prog F_walk_Check [ptr r, I v, I t, wb] h3' K' := by
      intro K' h3' x3 hk
      have key : cb = true → wchk g.arcs v 0 (nI lb) = some ((t : Int), dAt (g.to t).dist v) := fun h => by
        rw [h, if_pos rfl] at trb
        have := wchk_trail (w := 0) trb
        rw [Int.zero_add, ← sub' h] at this
        exact this
      refine wcheck_ok hR (hN _ ((oo.more x3).get 9 rfl)) ((ow.more x3).qvw 0 rfl) (by rw [nI_len]; omega) (fun w h4 _ _ hw x4 => hk true w h4 x4 fun h => ⟨rfl, ?_⟩) fun h4 hno x4 => hk false 0 h4 x4 fun h => absurd ⟨by omega, by omega, _, key h⟩ hno
      rw [key h] at hw
      exact (congrArg Prod.snd (Option.some.inj hw)).symm
    refine ck1 (.refl _ _) fun c1 w1 h4 x4 q1 => ?_
    simp only [pExt0, pExt1]
    refine ck2 x4 fun c2 w2 h5 x5 q2 => ?_
    simp only [pExt0, pExt1]
    have x35 := x4.trans x5 fun _ hf _ => hf
    have o5 := oo.more x35
    have rd1 : ∀ {K' : Value → Prop}, K' (I (dAt (g.from s).dist v)) → pIdx 1 vd1 (I v) fun t87 => pLoad h5 t87 K' := fun hk => (o5.vw 1 rfl).atI (by omega) (by rw [dAt_get (by omega)]; exact hk)
    have rd2 : ∀ {K' : Value → Prop}, K' (I (dAt (g.to t).dist v)) → pIdx 1 vd2 (I v) fun t87 => pLoad h5 t87 K' := fun hk => (o5.vw 0 rfl).atI (by omega) (by rw [dAt_get (by omega)]; exact hk)
    refine rd1 ?_
    rw [pBin_lss]
    refine pe11 hca ?_
    rw [ifV_false]
    refine rd2 ?_
    rw [pBin_lss]
    refine pe11 hcb ?_
    rw [ifV_false]
    have second : ifV (.bool cb) (pUn .not (.bool c2) fun t119 => ifV t119 (sh_milestonelaw11_PathLeast_k2 Tryz.prog K h5) (pIdx 1 vd2 (I v) fun t124 => pLoad h5 t124 fun t125 => pBin .neq (I w2) t125 fun t126 =>
            sh_milestonelaw11_PathLeast_k3 Tryz.prog K (ptr r) (I s) wa (I v) wb (.bool ca) (.bool cb) (fun a0 hz => Z (a0, ()) hz) t126 h5))
            (sh_milestonelaw11_PathLeast_k4 Tryz.prog (ptr r) (I s) wa (I v) wb (.bool ca) K (.bool cb) (fun a0 hz => Z (a0, ()) hz) h5) := by
      cases hcbv : cb with
      | false => rw [ifV_false]; rw [← hcbv]; exact k4 h5 x35
      | true =>
        obtain ⟨rfl, rfl⟩ := q2 hcbv
        rw [ifV_true, pUn_not, Bool.not_true, ifV_false]
        refine rd2 ?_
        rw [pBin_neq, bne_self_eq_false]
        unfold sh_milestonelaw11_PathLeast_k3
        rw [ifV_false, ← hcbv]
        exact k4 h5 x35
    cases hcav : ca with
    | false => rw [ifV_false]; rw [← hcav]; exact second
    | true =>
      obtain ⟨rfl, rfl⟩ := q1 hcav
      rw [ifV_true, pUn_not, Bool.not_true, ifV_false]
      refine rd1 ?_
      rw [pBin_neq, bne_self_eq_false, ifV_false, ← hcav]
      exact second
  have A1 : ∀ {r}, FolTree g.arcs A.f A.t g.n s (g.from s) v r → r.length < 16777216 → Trail g.arcs s r.reverse (if true then v else s) ∧ (true = true → dAt (g.from s).dist v = tsum g.arcs r.reverse) ∧ (nds g.arcs s r.reverse).Nodup ∧ r.reverse.length < 16777216 := fun F hl =>
    ⟨F.rt.bwd, fun _ => by rw [F.sum, tsum_rev], bwdNodup F, by rw [List.length_reverse]; exact hl⟩
  have A0 : Trail g.arcs s [] (if false then v else s) ∧ (false = true → dAt (g.from s).dist v = tsum g.arcs []) ∧ (nds g.arcs s []).Nodup ∧ ([] : List Nat).length < 16777216 := ⟨rfl, fun h => by (cases h), bareSame, by decide⟩
  have B1 : ∀ {r}, FolTree g.arcs A.t A.f g.n t (g.to t) v r → r.length < 16777216 → Trail g.arcs v r (if true then t else v) ∧ (true = true → dAt (g.to t).dist v = tsum g.arcs r) ∧ (nds g.arcs v r).Nodup ∧ r.length < 16777216 := fun F hl =>
    ⟨F.rt.fwd, fun _ => F.sum, fwdNodup F, hl⟩
  have B0 : Trail g.arcs v [] (if false then t else v) ∧ (false = true → dAt (g.to t).dist v = tsum g.arcs []) ∧ (nds g.arcs v []).Nodup ∧ ([] : List Nat).length < 16777216 := ⟨rfl, fun h => by (cases h), bareSame, by decide⟩
  have dc : ∀ {d : Int} {l : Option (List Nat)} {P : List Nat → Prop}, (d < far → ∃ r, l = some r ∧ P r) → (¬ d < far → l = none) → (∀ x, l = some x → decide (d < far) = true ∧ P x) ∧ (l = none → decide (d < far) = false) := by
    intro d l P h1 h2
    refine ⟨fun x hx => ?_, fun hn => ?_⟩
    · by_cases h : d < far
      · obtain ⟨r, hr, hp⟩ := h1 h
        rw [hr] at hx
        obtain rfl := Option.some.inj hx
        exact ⟨decide_eq_true h, hp⟩
      · rw [h2 h] at hx; cases hx
    · refine decide_eq_false fun h => ?_
      obtain ⟨r, hr, _⟩ := h1 h
      rw [hr] at hn; cases hn
  have D1 := dc f1 f2
  have D2 := dc b1 b2
  refine o.ldN (cs' := [sd, sa, so]) 3 rfl rfl rfl (pahead_ok hR (hN _ (o.get 9 rfl)) (o.vw 6 rfl) (o.vw 7 rfl) pso la1 (fun la wa h3 hla hlen oa => ?_) fun h3 hno xa => ?_)
  · obtain ⟨ca, FA⟩ := D1.1 la hla
    simp only [pExt0, pExt1]
    have oo := o.more oa.ext
    refine oo.ldN (cs' := [td, ta, to]) 2 rfl rfl rfl (pbehind_ok hR (hN _ (oo.get 9 rfl)) (oo.vw 4 rfl) (oo.vw 5 rfl) pto la2 (fun lb wb h4 hlb hlenb ob => ?_) fun h4 hno xb => ?_)
    · obtain ⟨cb, FB⟩ := D2.1 lb hlb
      simp only [pExt0, pExt1]
      exact goal true true _ _ _ _ _ (oa.frame ob) ca.symm cb.symm (A1 FA hlen) (B1 FB hlenb)
    · simp only [pExt0, pExt1]
      exact goal true false _ [] _ _ _ (((oa.more xb).nilS (enc := encI) (n := 1) (T := T_int)).que 0 rfl) ca.symm (D2.2 hno).symm (A1 FA hlen) B0
  · simp only [pExt0, pExt1]
    have oo := o.more xa
    have oa := (((Own.start h2).more xa).nilS (enc := encI) (n := 1) (T := T_int)).que 0 rfl
    refine oo.ldN (cs' := [td, ta, to]) 2 rfl rfl rfl (pbehind_ok hR (hN _ (oo.get 9 rfl)) (oo.vw 4 rfl) (oo.vw 5 rfl) pto la2 (fun lb wb h4 hlb hlenb ob => ?_) fun h4 hno' xb => ?_)
    · obtain ⟨cb, FB⟩ := D2.1 lb hlb
      simp only [pExt0, pExt1]
      exact goal false true [] _ _ _ _ (oa.frame ob) (D1.2 hno).symm cb.symm A0 (B1 FB hlenb)
    · simp only [pExt0, pExt1]
      exact goal false false [] [] _ _ _ (((oa.more xb).nilS (enc := encI) (n := 1) (T := T_int)).que 0 rfl) (D1.2 hno).symm (D2.2 hno').symm A0 B0

end
end Go.Proofs.YtjamcgoebnafkaaGreatDoor

namespace Go.Proofs.YtjamcgoebnafkaaGreatDoor
open Go Go.Mh
set_option linter.unusedVariables false

section
variable {h0 h : Heap} {L : List Res} {K : Value → Heap → Prop} {g : G} {r : Nat} {N : Res} {v sd sa so sd' sa' so' : Value} {d d' : List Int}

def gP2 : G := ⟨2, [0, 0], [0, 0], [⟨0, 1, 1⟩, ⟨1, 0, 1⟩, ⟨1, 1, 0⟩]⟩
theorem gP2_right : gP2.Right := by
  refine ⟨by decide, by decide, rfl, rfl, by decide, by decide, by decide, by decide⟩

/-- No net: nothing is followed. -/
theorem pallN_ok {ev : Value} {z : Int} (Hd : Vw encI 1 h sd d) (hK : ∀ h', Ext h h' → K (.tuple #[.slice none 0 0, .bool false]) h') : callS Tryz.prog F_path_all [.pointer none, .agg #[sd, sa, so], I z, ev] h K := by
  refine callS_of (lk_path_all _ _ _ _ ?_)
  unfold sh_path_all
  refine (Own.start h).box fun t5 h1 o1 => o1.box fun t8 h2 o2 => o2.box fun t9 h3 o3 => ?_
  refine o3.ldN (cs' := [sd, sa, so]) 2 rfl rfl rfl (preached_ok (Hd.more o3.ext) fun h4 x4 => ?_)
  have o4 := o3.more x4
  have k1 : sh_path_all_k1 Tryz.prog (ptr t8) (ptr t9) K h4 := by
    unfold sh_path_all_k1
    refine o4.st1 1 (cs' := [.slice none 0 0]) rfl rfl rfl rfl rfl fun h5 o5 => o5.st1 0 (cs' := [.bool false]) rfl rfl rfl rfl rfl fun h6 o6 => ?_
    exact o6.load 1 rfl rfl (o6.load 0 rfl rfl (hK h6 o6.ext))
  rw [pUn_not]
  cases hrc : rchd d z with
  | false => rw [Bool.not_false, ifV_true]; exact k1
  | true =>
    rw [Bool.not_true, ifV_false]
    refine nodes_nil ?_
    have hz0 : 0 ≤ z := by
      unfold rchd at hrc
      rw [Bool.and_eq_true, decide_eq_true_eq] at hrc
      exact hrc.1
    rw [pBin_geq, decide_eq_true hz0, ifV_true]
    exact k1

theorem paheadN_ok {z : Int} (Hd : Vw encI 1 h sd d) (hK : ∀ h', Ext h h' → K (.tuple #[.slice none 0 0, .bool false]) h') : callS Tryz.prog F_path_Ahead [.pointer none, .agg #[sd, sa, so], I z] h K := by
  refine callS_of (lk_path_Ahead _ _ _ ?_)
  unfold sh_path_Ahead
  refine (Own.start h).box fun t4 h1 o1 => o1.ldN (cs' := [sd, sa, so]) 0 rfl rfl rfl ?_
  refine pallN_ok (Hd.more o1.ext) fun h2 x2 => ?_
  simp only [pExt0, pExt1]
  have o3 := ((o1.more x2).nilS (enc := encI) (n := 1) (T := T_int)).que 0 rfl
  refine reverseQ_ok o3 0 rfl (by simp) fun h3 o4 => hK h3 o4.ext

theorem pjoinedN_ok {z : Int} (Hd : Vw encI 1 h sd d) (Hd' : Vw encI 1 h sd' d') (hK : ∀ h', Ext h h' → K (.tuple #[.slice none 0 0, .bool false]) h') : callS Tryz.prog F_path_Joined [.pointer none, .agg #[sd, sa, so], .agg #[sd', sa', so'], I z] h K := by
  refine callS_of (lk_path_Joined _ _ _ _ ?_)
  unfold sh_path_Joined
  refine (Own.start h).box fun a5 h1 o1 => o1.box fun b6 h2 o2 => o2.ldN (cs' := [sd, sa, so]) 1 rfl rfl rfl ?_
  refine paheadN_ok (Hd.more o2.ext) fun h3 x3 => ?_
  simp only [pExt0, pExt1]
  have o3 := o2.more x3
  refine o3.ldN (cs' := [sd', sa', so']) 0 rfl rfl rfl ?_
  refine callS_of (lk_path_Behind _ _ _ ?_)
  unfold sh_path_Behind
  refine o3.box fun t4 h4 o4 => o4.ldN (cs' := [sd', sa', so']) 0 rfl rfl rfl (pallN_ok (Hd'.more o4.ext) fun h5 x5 => ?_)
  simp only [pExt0, pExt1]
  rw [pUn_not, Bool.not_false, ifV_true]
  unfold sh_path_Joined_k1
  exact hK h5 (o4.more x5).ext

theorem k1f : folI gP2.n gP2.arcs [3, 3] [1, 0] A.t A.f 0 = none := by kernel_rfl
theorem k2f : folI gP2.n gP2.arcs [3, 3] [1, 0] A.f A.t 1 = none := by kernel_rfl
theorem k3f : folI gP2.n gP2.arcs [0, 0] [-1, 2] A.t A.f 1 = none := by kernel_rfl
theorem k4f : folI gP2.n gP2.arcs [0, 7] [-1, 0] A.t A.f 1 = some [0] := by kernel_rfl
theorem k5f : folI gP2.n gP2.arcs [0, 7] [] A.t A.f 1 = some [] := by kernel_rfl
theorem k6f : folI gP2.n gP2.arcs [0] [-1, 0] A.t A.f 1 = none := by kernel_rfl
theorem k7m : meet [] [3, 3] = (-1, 72057594037927936) := by kernel_rfl
theorem k8m : meet [3, 3] [5, 5, 0] = (0, 8) := by kernel_rfl

/-- A tree built of rows. -/
theorem tree1 {w : Value} {K : Value → Prop} {l : List Int} (Hw : Vw encI 1 h w l) (hK : K (.agg #[w, .slice none 0 0, .slice none 0 0])) : pBuild [(.slice none 0 0), (.slice none 0 0), (.slice none 0 0)] [(0, 1, w)] K :=
  pBuild_ones (cs' := [w, .slice none 0 0, .slice none 0 0]) (fun p hp => by simp at hp; subst hp; exact Hw.one) rfl rfl hK
theorem tree2 {w w2 : Value} {K : Value → Prop} {l l2 : List Int} (Hw : Vw encI 1 h w l) (Hw2 : Vw encI 1 h w2 l2) (hK : K (.agg #[w, w2, .slice none 0 0])) : pBuild [(.slice none 0 0), (.slice none 0 0), (.slice none 0 0)] [(0, 1, w), (1, 1, w2)] K :=
  pBuild_ones (cs' := [w, w2, .slice none 0 0]) (fun p hp => by
    simp at hp
    rcases hp with rfl | rfl
    · exact Hw.one
    · exact Hw2.one) rfl rfl hK

set_option maxHeartbeats 1000000 in
set_option maxRecDepth 100000 in
theorem pathKnown_ok (hK : ∀ h', Ext h h' → K (.bool true) h') : CallsH Tryz.prog F_milestonelaw11_PathKnown #[] h K := by
  refine lk_milestonelaw11_PathKnown ?_
  unfold sh_milestonelaw11_PathKnown
  refine cutP_of (fun y h' => y.2.1 = .nilIface ∧ ∃ r N, y.1 = ptr r ∧ netR N r gP2 ∧ Own h h' [N]) (fun J hJ => ?_) ?_
  · refine ⟨sizesOk_of rfl, sizesOk_of rfl, sizesOk_of rfl, ?_⟩
    have fin : ∀ {hh : Heap} {vx vy va : Value} {L : List Res}, Own h hh L → RawV hh (.agg #[I gP2.n, vx, vy, va]) gP2 →
        pBuild [(.int .i64 0), (.slice none 0 0), (.slice none 0 0), (.slice none 0 0)] [(0, 1, (.int .i64 2)), (1, 1, vx), (2, 1, vy), (3, 1, va)] fun t26 => callS Tryz.prog F_net_New [t26] hh fun t27 h_4 => pExt t27 0 fun t28 => pExt t27 1 fun t29 => J (t28, (t29, ())) h_4 := by
      intro hh vx vy va L o hr
      obtain ⟨vx', vy', va', e, H1, H2, H3⟩ := hr
      injection e with e
      have e : [I gP2.n, vx, vy, va] = [I gP2.n, vx', vy', va'] := by injection e
      injection e with _ e
      injection e with e1 e
      injection e with e2 e
      injection e with e3 _
      subst e1 e2 e3
      refine pBuild_ones (cs' := [I gP2.n, vx, vy, va]) ?_ rfl rfl ?_
      · intro p hp
        simp at hp
        rcases hp with rfl | rfl | rfl | rfl
        · rfl
        · exact H1.one
        · exact H2.one
        · exact H3.one
      refine new_net_ok o gP2_right ⟨vx, vy, va, rfl, H1, H2, H3⟩ fun r N h4 hN o4 => ?_
      simp only [pExt0, pExt1]
      exact hJ _ _ ⟨rfl, r, N, rfl, hN, o4.sel [0] (by decide)⟩
    have o := Own.start h
    have mk : ∀ {hh : Heap} {L : List Res} {KH : Value → Heap → Prop}, Own h hh L → (∀ w h', Own h h' (xR w gP2.X :: L) → KH w h') → pMakeSlice T_int64 8 [(.int .i64 0)] (.int .i64 2) (.int .i64 2) hh KH := fun o hk =>
      o.make (enc := encI) (n := 1) (a := 0) (m := 2) rfl (by decide) (by decide) hk
    refine ⟨mk o fun w1 h1 o1 => ⟨mk o1 fun w2 h2 o2 => o2.build (enc := encA) (n := 3) gP2.arcs (by kernel_rfl) (sizesOk_of rfl) rfl fun w3 h3 o3 => fin o3 ⟨_, _, _, rfl, o3.vw 2 rfl, o3.vw 1 rfl, o3.vw 0 rfl⟩,
        o1.build (enc := encA) (n := 3) gP2.arcs (by kernel_rfl) (sizesOk_of rfl) rfl fun w2 h2 o2 => mk o2 fun w3 h3 o3 => fin o3 ⟨_, _, _, rfl, o3.vw 2 rfl, o3.vw 0 rfl, o3.vw 1 rfl⟩⟩,
      mk o fun w1 h1 o1 => ⟨mk o1 fun w2 h2 o2 => o2.build (enc := encA) (n := 3) gP2.arcs (by kernel_rfl) (sizesOk_of rfl) rfl fun w3 h3 o3 => fin o3 ⟨_, _, _, rfl, o3.vw 1 rfl, o3.vw 2 rfl, o3.vw 0 rfl⟩,
        o1.build (enc := encA) (n := 3) gP2.arcs (by kernel_rfl) (sizesOk_of rfl) rfl fun w2 h2 o2 => mk o2 fun w3 h3 o3 => fin o3 ⟨_, _, _, rfl, o3.vw 0 rfl, o3.vw 2 rfl, o3.vw 1 rfl⟩⟩,
      o.build (enc := encA) (n := 3) gP2.arcs (by kernel_rfl) (sizesOk_of rfl) rfl fun w1 h1 o1 => ⟨mk o1 fun w2 h2 o2 => mk o2 fun w3 h3 o3 => fin o3 ⟨_, _, _, rfl, o3.vw 1 rfl, o3.vw 0 rfl, o3.vw 2 rfl⟩,
        mk o1 fun w2 h2 o2 => mk o2 fun w3 h3 o3 => fin o3 ⟨_, _, _, rfl, o3.vw 0 rfl, o3.vw 1 rfl, o3.vw 2 rfl⟩⟩⟩
  · rintro ⟨y1, y2, ⟨⟩⟩ h1 ⟨e2, r, N, e1, hN, o⟩
    dsimp only at e1 e2 ⊢
    subst e1 e2
    unfold sh_milestonelaw11_PathKnown_C1
    simp only [pNe_iface_nil, ifV_false]
    refine o.build (enc := encI) (n := 1) [3, 3] rfl (sizesOk_of rfl) rfl fun rd h2 o => ?_
    refine o.build (enc := encI) (n := 1) [1, 0] rfl (sizesOk_of rfl) rfl fun ra h3 o => ?_
    refine tree2 (o.vw 1 rfl) (o.vw 0 rfl) ?_
    refine o.box fun ring h4 o4 => o4.st (cs' := [rd, ra, .slice none 0 0]) 0 rfl rfl rfl rfl rfl ?_ fun h5 o => ?_
    · intro u hu
      simp at hu
      rcases hu with rfl | rfl | rfl
      · exact (o.vw 1 rfl).plain
      · exact (o.vw 0 rfl).plain
      · rfl
    clear o4
    replace o := o.sel [0, 1, 2, 3] (by decide)
    -- [ring, ra, rd, N]
    refine o.ldN (cs' := [rd, ra, .slice none 0 0]) 0 rfl rfl rfl (pahead_ok gP2_right (hN _ (o.get 3 rfl)) (o.vw 2 rfl) (o.vw 1 rfl) rfl (by decide) (fun l w h6 hl _ _ => by rw [k1f] at hl; cases hl) fun h6 _ x6 => ?_)
    simp only [pExt0, pExt1]
    replace o := o.more x6
    refine o.ldN (cs' := [rd, ra, .slice none 0 0]) 0 rfl rfl rfl (pbehind_ok gP2_right (hN _ (o.get 3 rfl)) (o.vw 2 rfl) (o.vw 1 rfl) rfl (by decide) (fun l w h6 hl _ _ => by rw [k2f] at hl; cases hl) fun h6 _ x6 => ?_)
    simp only [pExt0, pExt1]
    replace o := o.more x6
    refine o.build (enc := encI) (n := 1) [0, 0] rfl (sizesOk_of rfl) rfl fun w1 h7 o => ?_
    refine o.build (enc := encI) (n := 1) [-1, 2] rfl (sizesOk_of rfl) rfl fun w2 h8 o => ?_
    refine tree2 (o.vw 1 rfl) (o.vw 0 rfl) (pahead_ok gP2_right (hN _ (o.get 5 rfl)) (o.vw 1 rfl) (o.vw 0 rfl) rfl (by decide) (fun l w h6 hl _ _ => by rw [k3f] at hl; cases hl) fun h6 _ x6 => ?_)
    simp only [pExt0, pExt1]
    replace o := (o.more x6).sel [2, 3, 4, 5] (by decide)
    refine o.build (enc := encI) (n := 1) [0, 7] rfl (sizesOk_of rfl) rfl fun w1 h7 o => ?_
    refine o.build (enc := encI) (n := 1) [-1, 0] rfl (sizesOk_of rfl) rfl fun w2 h8 o => ?_
    refine tree2 (o.vw 1 rfl) (o.vw 0 rfl) (pahead_ok gP2_right (hN _ (o.get 5 rfl)) (o.vw 1 rfl) (o.vw 0 rfl) rfl (by decide) (fun l w68 h6 hl _ o1 => ?_) fun h6 hno _ => by rw [k4f] at hno; cases hno)
    rw [k4f] at hl
    obtain rfl := Option.some.inj hl
    simp only [pExt0, pExt1]
    replace o := (o.frame o1).sel [0, 3, 4, 5, 6] (by decide)
    -- [w68, ring, ra, rd, N]
    refine o.build (enc := encI) (n := 1) [0, 7] rfl (sizesOk_of rfl) rfl fun w1 h7 o => ?_
    refine tree1 (o.vw 0 rfl) (pahead_ok (ar := []) gP2_right (hN _ (o.get 5 rfl)) (o.vw 0 rfl) .nil rfl (by decide) (fun l w75 h6 hl _ o1 => ?_) fun h6 hno _ => by rw [k5f] at hno; cases hno)
    rw [k5f] at hl
    obtain rfl := Option.some.inj hl
    simp only [pExt0, pExt1]
    replace o := (o.frame o1).sel [0, 2, 3, 4, 5, 6] (by decide)
    -- [w75, w68, ring, ra, rd, N]
    refine o.build (enc := encI) (n := 1) [0] rfl (sizesOk_of rfl) rfl fun w1 h7 o => ?_
    refine o.build (enc := encI) (n := 1) [-1, 0] rfl (sizesOk_of rfl) rfl fun w2 h8 o => ?_
    refine tree2 (o.vw 1 rfl) (o.vw 0 rfl) (pahead_ok gP2_right (hN _ (o.get 7 rfl)) (o.vw 1 rfl) (o.vw 0 rfl) rfl (by decide) (fun l w h6 hl _ _ => by rw [k6f] at hl; cases hl) fun h6 _ x6 => ?_)
    simp only [pExt0, pExt1]
    replace o := (o.more x6).sel [2, 3, 4, 5, 6, 7] (by decide)
    refine o.build (enc := encI) (n := 1) [0] rfl (sizesOk_of rfl) rfl fun w1 h7 o => ?_
    refine tree1 (o.vw 0 rfl) (paheadN_ok (o.vw 0 rfl) fun h8 x8 => ?_)
    simp only [pExt0, pExt1]
    replace o := (o.more x8).sel [1, 2, 3, 4, 5, 6] (by decide)
    refine ⟨trivial, o.ldN (cs' := [rd, ra, .slice none 0 0]) 2 rfl rfl rfl (pmeet_ok (d := []) .nil (o.vw 4 rfl) (by decide) fun h9 x9 => ?_)⟩
    rw [k7m]
    simp only [pExt0, pExt1]
    refine pExt2 ?_
    replace o := o.more x9
    refine o.ldN (cs' := [rd, ra, .slice none 0 0]) 2 rfl rfl rfl ?_
    refine o.build (enc := encI) (n := 1) [5, 5, 0] rfl (sizesOk_of rfl) rfl fun w1 h7 o => ?_
    refine tree1 (o.vw 0 rfl) (pmeet_ok (o.vw 5 rfl) (o.vw 0 rfl) (by decide) fun h9 x9 => ?_)
    rw [k8m]
    simp only [pExt0, pExt1]
    refine pExt2 ?_
    replace o := (o.more x9).sel [1, 2, 3, 4, 5, 6] (by decide)
    refine o.ldN (cs' := [rd, ra, .slice none 0 0]) 2 rfl rfl rfl (o.ldN (cs' := [rd, ra, .slice none 0 0]) 2 rfl rfl rfl (pjoinedN_ok (o.vw 4 rfl) (o.vw 4 rfl) fun h8 x8 => ?_))
    simp only [pExt0, pExt1]
    replace o := o.more x8
    refine works11_ok fun h9 x9 => ?_
    replace o := o.more x9
    rw [ifV_true, pUn_not, Bool.not_false, ifV_true, pUn_not, Bool.not_false, ifV_true, pUn_not, Bool.not_false, ifV_true, ifV_true]
    refine o.build (enc := encI) (n := 1) [0] rfl (sizesOk_of rfl) rfl fun wb h10 o => ?_
    refine rints_ok (e := fun x => x) (fun _ => rfl) (o.qvw 2 rfl) (o.vw 0 rfl) (by decide) ?_
    rw [ifV_true, ifV_true]
    refine (o.qvw 1 rfl).len ?_
    rw [show (nI ([] : List Nat).reverse).length = 0 from rfl]
    refine eqT ?_
    rw [pUn_not, Bool.not_false, ifV_true, pUn_not, Bool.not_false, ifV_true]
    refine eqT (eqT ?_)
    rw [show decide ((0 : Int) ≤ -1) = false from rfl, pUn_not, Bool.not_false, ifV_true]
    refine eqT (eqT ?_)
    rw [show decide ((0 : Int) ≤ 0) = true from rfl, ifV_true, pUn_not, Bool.not_false]
    exact hK _ o.ext

end
end Go.Proofs.YtjamcgoebnafkaaGreatDoor
