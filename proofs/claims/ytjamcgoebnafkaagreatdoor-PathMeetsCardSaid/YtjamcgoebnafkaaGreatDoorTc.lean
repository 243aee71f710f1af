/- Texts of the proofs of seat YtjamcgoebnafkaaGreatDoor, joined: F11C, F11E. They have no conditions of their own. -/
import Derived.Test.YtjamcgoebnafkaaGreatDoorTb
import Derived.Test.YtjamcgoebnafkaaGreatDoorMd
set_option linter.unusedVariables false
set_option linter.unusedSimpArgs false

namespace Go.Proofs.YtjamcgoebnafkaaGreatDoor
open Go Go.Mh
set_option linter.unusedVariables false

section
variable {h0 h : Heap} {L : List Res} {K : Value → Heap → Prop} {vb : Value} {bs : List Int}

theorem pe11 {c d : Bool} {K : Value → Prop} (e : c = d) (hk : K (.bool false)) : pEq true .bool (.bool c) (.bool d) K := by subst e; simpa [pEq] using hk

theorem pExt4_2 {a b c d : Value} {K : Value → Prop} (hk : K c) : pExt (.tuple #[a, b, c, d]) 2 K := hk
theorem pExt4_3 {a b c d : Value} {K : Value → Prop} (hk : K d) : pExt (.tuple #[a, b, c, d]) 3 K := hk
theorem tsum_rev {l : List A} {r : List Nat} : tsum l r.reverse = tsum l r := by
  induction r with
  | nil => rfl
  | cons i r ih => rw [List.reverse_cons, tsum_append, tsum_cons, tsum_cons, ih, tsum_nil]; omega

theorem bareSame {l : List A} {v : Nat} : (nds l v []).Nodup := by simp [vis]

theorem fwdNodup {l : List A} {n t v : Nat} {T : Tr} {r : List Nat} (F : FolTree l A.t A.f n t T v r) : (nds l v r).Nodup := F.nodup
theorem bwdNodup {l : List A} {n s v : Nat} {T : Tr} {r : List Nat} (F : FolTree l A.f A.t n s T v r) : (nds l s r.reverse).Nodup := by
  rw [F.rt.nds]; exact List.pairwise_reverse.2 (List.Pairwise.imp (fun h e => h e.symm) F.nodup)

theorem pathLeast_ok {e0 e1 : Int} (H : Vw encU8 1 h vb bs) (r0 : 0 ≤ e0 ∧ e0 ≤ 255) (r1 : 0 ≤ e1 ∧ e1 ≤ 255) (hK : ∀ h', Ext h h' → K (.bool true) h') :
    CallsH Tryz.prog F_milestonelaw11_PathLeast [.agg #[vb, .int .u8 e0, .int .u8 e1]].toArray h K := by
  refine lk_milestonelaw11_PathLeast _ ?_
  unfold sh_milestonelaw11_PathLeast
  have hvb := H.one
  refine (Own.start h).box fun d1 h1 o1 => ?_
  have ec : (Value.cells (.agg #[vb, .int .u8 e0, .int .u8 e1])).toList = [vb, .int .u8 e0, .int .u8 e1] := rfl
  rw [ec] at o1
  refine works11_ok fun h2 x2 => ?_
  rw [pUn_not, Bool.not_true, ifV_false]
  have o2 := o1.more x2
  refine o2.ldN (cs' := [vb, .int .u8 e0, .int .u8 e1]) 0 rfl rfl rfl (graph11_ok (H.more o2.ext) r0 r1 fun g vx vy va r N s t h3 hg hN hs ht o3 => ?_)
  simp only [pExt0, pExt1]
  refine pExt4_2 (pExt4_3 ?_)
  have hR := hg.toRight
  have hmost := hR.most
  have hpos := hR.pos
  have hmany := hR.many
  replace o3 := o2.frame o3
  refine o3.box fun g3 h4 o4 => o4.st (cs' := [I g.n, vx, vy, va]) 0 rfl rfl rfl rfl rfl ?_ fun h5 o5 => ?_
  · intro u hu
    simp at hu
    rcases hu with rfl | rfl | rfl | rfl
    · rfl
    · exact (o3.vw 1 rfl).plain
    · exact (o3.vw 2 rfl).plain
    · exact (o3.vw 3 rfl).plain
  simp only [pEq_ptr_nil, Option.isNone_some, ifV_false]
  have ef : g.fromI (s : Int) = g.from s := by rw [G.fromI, if_pos (by omega)]; rfl
  have et : g.toI (t : Int) = g.to t := by rw [G.toI, if_pos (by omega)]; rfl
  have TF := from_tree hR hs
  have TT := to_tree hR ht
  refine from_ok hR (hN _ (o5.get 1 rfl)) fun sd sa so h6 o6 => ?_
  rw [ef] at o6
  replace o6 := o5.frame o6
  refine to_ok hR (hN _ (o6.get 4 rfl)) fun td ta to h7 o7 => ?_
  rw [et] at o7
  replace o7 := o6.frame o7
  have pso : Mh.plainCell so = true := (o7.vw 5 rfl).plain
  have pto : Mh.plainCell to = true := (o7.vw 2 rfl).plain
  refine o7.box fun from7 h8 o8 => o8.box fun to8 h9 o9 => o9.st (cs' := [sd, sa, so]) 1 rfl rfl rfl rfl rfl ?_ fun h10 o10 => o10.st (cs' := [td, ta, to]) 0 rfl rfl rfl rfl rfl ?_ fun h11 o11 => ?_
  · intro u hu
    simp at hu
    rcases hu with rfl | rfl | rfl
    · exact (o7.vw 3 rfl).plain
    · exact (o7.vw 4 rfl).plain
    · exact pso
  · intro u hu
    simp at hu
    rcases hu with rfl | rfl | rfl
    · exact (o7.vw 0 rfl).plain
    · exact (o7.vw 1 rfl).plain
    · exact pto
  have o12 : Own h h11 [cellR to8 [td, ta, to] T_flood_Tree, cellR from7 [sd, sa, so] T_flood_Tree, xR td (g.to t).dist, slR encI 1 T_int ta (g.to t).arc, xR sd (g.from s).dist, slR encI 1 T_int sa (g.from s).arc, cellR g3 [I g.n, vx, vy, va] T_api_Raw, N, xR vx g.X, xR vy g.Y, aR va g.arcs] := o11.sel [0, 1, 2, 3, 5, 6, 8, 9, 10, 11, 12] (by decide)
  clear o11 o10 o9 o8 o7 o6 o5 o4 o3
  refine o12.ldN (cs' := [I g.n, vx, vy, va]) 6 rfl rfl rfl (o12.ldN (cs' := [I g.n, vx, vy, va]) 6 rfl rfl rfl ?_)
  refine bell_ok o12 hR (rawOf11 o12 8 9 10 rfl rfl rfl) hs fun d1' vd1 h12 hl1 o13 => ⟨o13.ldN (cs' := [I g.n, vx, vy, va]) 7 rfl rfl rfl rfl, ?_⟩
  have e1 : d1' = (g.from s).dist := hl1.uniq TF.ls
  subst e1
  refine rturned_ok o13 hR (rawOf11 o13 9 10 11 rfl rfl rfl) fun vx' vy' va' h13 o14 => ?_
  refine bell_ok (g := g.turned) o14 hR.turned ⟨vx', vy', va', rfl, o14.vw 0 rfl, o14.vw 1 rfl, o14.vw 2 rfl⟩ ht fun d2' vd2 h14 hl2 o15 => ?_
  have e2 : d2' = (g.to t).dist := hl2.swap.uniq TT.ls
  subst e2
  have o16 : Own h h14 [xR vd2 (g.to t).dist, xR vd1 (g.from s).dist, cellR to8 [td, ta, to] T_flood_Tree, cellR from7 [sd, sa, so] T_flood_Tree, xR td (g.to t).dist, slR encI 1 T_int ta (g.to t).arc, xR sd (g.from s).dist, slR encI 1 T_int sa (g.from s).arc, cellR g3 [I g.n, vx, vy, va] T_api_Raw, N] := o15.sel [0, 4, 5, 6, 7, 8, 9, 10, 11, 12] (by decide)
  clear o15 o14 o13 o12
  have la1 : (g.from s).arc.length < 2 ^ 62 := by rw [TF.al]; omega
  have la2 : (g.to t).arc.length < 2 ^ 62 := by rw [TT.al]; omega
  have ld1 := TF.ls.len
  have ld2 := TT.ls.len
  refine LoopH_count g.n (fun i x h' => x.1 = I i ∧ ∃ h9, Own h h' [xR vd2 (g.to t).dist, xR vd1 (g.from s).dist, cellR to8 [td, ta, to] T_flood_Tree, cellR from7 [sd, sa, so] T_flood_Tree, xR td (g.to t).dist, slR encI 1 T_int ta (g.to t).arc, xR sd (g.from s).dist, slR encI 1 T_int sa (g.from s).arc, cellR g3 [I g.n, vx, vy, va] T_api_Raw, N] ∧ h9 = h') ⟨rfl, _, o16, rfl⟩ ?_
  clear o16
  rintro v ⟨x, ⟨⟩⟩ h2 Z hi ⟨hx, _, o, _⟩ hZ
  dsimp only at hx hZ ⊢
  subst hx
  unfold sh_milestonelaw11_PathLeast_L1
  simp only [pField_ptr]
  refine o.load 8 rfl rfl ?_
  simp only [pBin_lss (b := (g.n : Int)), ifV_dec]
  refine ⟨fun hlt => ?_, fun hge => hK _ o.ext⟩
  have hlt : v < g.n := by omega
  obtain ⟨f1, f2⟩ := folI_tree TF hlt
  obtain ⟨b1, b2⟩ := folI_tree TT hlt
  -- what is known of both
  have goal : ∀ (ca cb : Bool) (la lb : List Nat) (wa wb : Value) (h3 : Heap), Own h2 h3 [quR encI 1 T_int wb (nI lb), quR encI 1 T_int wa (nI la)] → ca = decide (dAt (g.from s).dist v < far) → cb = decide (dAt (g.to t).dist v < far) →
      (Trail g.arcs s la (if ca then v else s) ∧ (ca = true → dAt (g.from s).dist v = tsum g.arcs la) ∧ (nds g.arcs s la).Nodup ∧ la.length < 16777216) → (Trail g.arcs v lb (if cb then t else v) ∧ (cb = true → dAt (g.to t).dist v = tsum g.arcs lb) ∧ (nds g.arcs v lb).Nodup ∧ lb.length < 16777216) →
      callS Tryz.prog F_walk_Check [ptr r, I s, I v, wa] h3 fun t73 h_18 => pExt t73 0 fun t74 => pExt t73 1 fun t75 => callS Tryz.prog F_walk_Check [ptr r, I v, I t, wb] h_18 fun t81 h_19 => pExt t81 0 fun t82 => pExt t81 1 fun t83 =>
        pIdx 1 vd1 (I v) fun t87 => pLoad h_19 t87 fun t88 => pBin .lss t88 (.int .i64 72057594037927936) fun t89 => pEq true .bool (.bool ca) t89 fun t90 => ifV t90 (sh_milestonelaw11_PathLeast_k2 Tryz.prog K h_19)
        (pIdx 1 vd2 (I v) fun t95 => pLoad h_19 t95 fun t96 => pBin .lss t96 (.int .i64 72057594037927936) fun t97 => pEq true .bool (.bool cb) t97 fun t98 => ifV t98 (sh_milestonelaw11_PathLeast_k2 Tryz.prog K h_19)
        (ifV (.bool ca) (pUn .not t75 fun t104 => ifV t104 (sh_milestonelaw11_PathLeast_k2 Tryz.prog K h_19) (pIdx 1 vd1 (I v) fun t109 => pLoad h_19 t109 fun t110 => pBin .neq t74 t110 fun t111 => ifV t111 (sh_milestonelaw11_PathLeast_k2 Tryz.prog K h_19)
          (ifV (.bool cb) (pUn .not t83 fun t119 => ifV t119 (sh_milestonelaw11_PathLeast_k2 Tryz.prog K h_19) (pIdx 1 vd2 (I v) fun t124 => pLoad h_19 t124 fun t125 => pBin .neq t82 t125 fun t126 =>
            sh_milestonelaw11_PathLeast_k3 Tryz.prog K (ptr r) (I s) wa (I v) wb (.bool ca) (.bool cb) (fun a0 hz => Z (a0, ()) hz) t126 h_19))
            (sh_milestonelaw11_PathLeast_k4 Tryz.prog (ptr r) (I s) wa (I v) wb (.bool ca) K (.bool cb) (fun a0 hz => Z (a0, ()) hz) h_19))))
          (ifV (.bool cb) (pUn .not t83 fun t119_1 => ifV t119_1 (sh_milestonelaw11_PathLeast_k2 Tryz.prog K h_19) (pIdx 1 vd2 (I v) fun t124_1 => pLoad h_19 t124_1 fun t125_1 => pBin .neq t82 t125_1 fun t126_1 =>
            sh_milestonelaw11_PathLeast_k3 Tryz.prog K (ptr r) (I s) wa (I v) wb (.bool ca) (.bool cb) (fun a0 hz => Z (a0, ()) hz) t126_1 h_19))
            (sh_milestonelaw11_PathLeast_k4 Tryz.prog (ptr r) (I s) wa (I v) wb (.bool ca) K (.bool cb) (fun a0 hz => Z (a0, ()) hz) h_19)))) := by
    intro ca cb la lb wa wb h3 ow hca hcb ⟨tra, sua, nda, lla⟩ ⟨trb, sub', ndb, llb⟩
    have oo := o.more ow.ext
    replace ow := (o.frame ow).sel [0, 1] (by decide)
    -- what is left at the end
    have k4 : ∀ h4, Ext h3 h4 → sh_milestonelaw11_PathLeast_k4 Tryz.prog (ptr r) (I s) wa (I v) wb (.bool ca) K (.bool cb) (fun a0 hz => Z (a0, ()) hz) h4 := by
      intro h4 x4
      unfold sh_milestonelaw11_PathLeast_k4
      have o4 := oo.more x4
      have w4 := ow.more x4
      refine wbare_ok hR (hN _ (o4.get 9 rfl)) (w4.qvw 1 rfl) (by omega) hs tra nda fun w1 h5 o5 => ?_
      simp only [pExt0, pExt1]
      have o5' := o4.more o5.ext
      have w5 := w4.more o5.ext
      refine wbare_ok hR (hN _ (o5'.get 9 rfl)) (w5.qvw 0 rfl) (by omega) hlt trb ndb fun w2 h6 o6 => ?_
      simp only [pExt0, pExt1]
      have w6 := w5.more o6.ext
      have v1 := (o5.vw 0 rfl).more o6.ext
      have next : sh_milestonelaw11_PathLeast_k7 Tryz.prog (I v) (fun a0 hz => Z (a0, ()) hz) h6 := by
        unfold sh_milestonelaw11_PathLeast_k7
        rw [pBin_add, wI v (by omega)]
        exact hZ (I (v + 1 : Nat), ()) _ hlt ⟨rfl, _, o5'.more o6.ext, rfl⟩
      have bsame : ifV (.bool cb) (callS Tryz.prog F_milestoneref07_Ints [w2, wb] h6 fun t156 h_27 => pUn .not t156 fun t157 => sh_milestonelaw11_PathLeast_k6 Tryz.prog K (I v) (fun a0 hz => Z (a0, ()) hz) t157 h_27) (sh_milestonelaw11_PathLeast_k7 Tryz.prog (I v) (fun a0 hz => Z (a0, ()) hz) h6) := by
        cases cb with
        | false => rw [ifV_false]; exact next
        | true =>
          rw [ifV_true]
          refine rints_ok (e := fun x => x) (fun _ => rfl) (o6.vw 0 rfl) (w6.qvw 0 rfl) (by rw [nI_len]; omega) ?_
          rw [pUn_not, Bool.not_true]
          unfold sh_milestonelaw11_PathLeast_k6
          rw [ifV_false]
          exact next
      cases ca with
      | false => rw [ifV_false]; exact bsame
      | true =>
        rw [ifV_true]
        refine rints_ok (e := fun x => x) (fun _ => rfl) v1 (w6.qvw 1 rfl) (by rw [nI_len]; omega) ?_
        rw [pUn_not, Bool.not_true, ifV_false]
        exact bsame
    have ck1 : ∀ {K' : Value → Heap → Prop} {h3' : Heap}, Ext h3 h3' → (∀ (c : Bool) (w : Int) h4, Ext h3' h4 → (ca = true → c = true ∧ w = dAt (g.from s).dist v) → K' (.tuple #[I w, .bool c]) h4) → callS Tryz.prog F_walk_Check [ptr r, I s, I v, wa] h3' K' := by
      intro K' h3' x3 hk
      have key : ca = true → wchk g.arcs s 0 (nI la) = some ((v : Int), dAt (g.from s).dist v) := fun h => by
        rw [h, if_pos rfl] at tra
        have := wchk_trail (w := 0) tra
        rw [Int.zero_add, ← sua h] at this
        exact this
      refine wcheck_ok hR (hN _ ((oo.more x3).get 9 rfl)) ((ow.more x3).qvw 1 rfl) (by rw [nI_len]; omega) (fun w h4 _ _ hw x4 => hk true w h4 x4 fun h => ⟨rfl, ?_⟩) fun h4 hno x4 => hk false 0 h4 x4 fun h => absurd ⟨by omega, by omega, _, key h⟩ hno
      rw [key h] at hw
      exact (congrArg Prod.snd (Option.some.inj hw)).symm
    have ck2 : ∀ {K' : Value → Heap → Prop} {h3' : Heap}, Ext h3 h3' → (∀ (c : Bool) (w : Int) h4, Ext h3' h4 → (cb = true → c = true ∧ w = dAt (g.to t).dist v) → K' (.tuple #[I w, .bool c]) h4) → callS Tryz.prog F_walk_Check [ptr r, I v, I t, wb] h3' K' := by
      intro K' h3' x3 hk
      have key : cb = true → wchk g.arcs v 0 (nI lb) = some ((t : Int), dAt (g.to t).dist v) := fun h => by
        rw [h, if_pos rfl] at trb
        have := wchk_trail (w := 0) trb
        rw [Int.zero_add, ← sub' h] at this
        exact this
      refine wcheck_ok hR (hN _ ((oo.more x3).get 9 rfl)) ((ow.more x3).qvw 0 rfl) (by rw [nI_len]; omega) (fun w h4 _ _ hw x4 => hk true w h4 x4 fun h => ⟨rfl, ?_⟩) fun h4 hno x4 => hk false 0 h4 x4 fun h => absurd ⟨by omega, by omega, _, key h⟩ hno
      rw [key h] at hw
      exact (congrArg Prod.snd (Option.some.inj hw)).symm
    refine ck1 (.refl _ _) fun c1 w1 h4 x4 q1 => ?_
    simp only [pExt0, pExt1]
    refine ck2 x4 fun c2 w2 h5 x5 q2 => ?_
    simp only [pExt0, pExt1]
    have x35 := x4.trans x5 fun _ hf _ => hf
    have o5 := oo.more x35
    have rd1 : ∀ {K' : Value → Prop}, K' (I (dAt (g.from s).dist v)) → pIdx 1 vd1 (I v) fun t87 => pLoad h5 t87 K' := fun hk => (o5.vw 1 rfl).atI (by omega) (by rw [dAt_get (by omega)]; exact hk)
    have rd2 : ∀ {K' : Value → Prop}, K' (I (dAt (g.to t).dist v)) → pIdx 1 vd2 (I v) fun t87 => pLoad h5 t87 K' := fun hk => (o5.vw 0 rfl).atI (by omega) (by rw [dAt_get (by omega)]; exact hk)
    refine rd1 ?_
    rw [pBin_lss]
    refine pe11 hca ?_
    rw [ifV_false]
    refine rd2 ?_
    rw [pBin_lss]
    refine pe11 hcb ?_
    rw [ifV_false]
    have second : ifV (.bool cb) (pUn .not (.bool c2) fun t119 => ifV t119 (sh_milestonelaw11_PathLeast_k2 Tryz.prog K h5) (pIdx 1 vd2 (I v) fun t124 => pLoad h5 t124 fun t125 => pBin .neq (I w2) t125 fun t126 =>
            sh_milestonelaw11_PathLeast_k3 Tryz.prog K (ptr r) (I s) wa (I v) wb (.bool ca) (.bool cb) (fun a0 hz => Z (a0, ()) hz) t126 h5))
            (sh_milestonelaw11_PathLeast_k4 Tryz.prog (ptr r) (I s) wa (I v) wb (.bool ca) K (.bool cb) (fun a0 hz => Z (a0, ()) hz) h5) := by
      cases hcbv : cb with
      | false => rw [ifV_false]; rw [← hcbv]; exact k4 h5 x35
      | true =>
        obtain ⟨rfl, rfl⟩ := q2 hcbv
        rw [ifV_true, pUn_not, Bool.not_true, ifV_false]
        refine rd2 ?_
        rw [pBin_neq, bne_self_eq_false]
        unfold sh_milestonelaw11_PathLeast_k3
        rw [ifV_false, ← hcbv]
        exact k4 h5 x35
    cases hcav : ca with
    | false => rw [ifV_false]; rw [← hcav]; exact second
    | true =>
      obtain ⟨rfl, rfl⟩ := q1 hcav
      rw [ifV_true, pUn_not, Bool.not_true, ifV_false]
      refine rd1 ?_
      rw [pBin_neq, bne_self_eq_false, ifV_false, ← hcav]
      exact second
  have A1 : ∀ {r}, FolTree g.arcs A.f A.t g.n s (g.from s) v r → r.length < 16777216 → Trail g.arcs s r.reverse (if true then v else s) ∧ (true = true → dAt (g.from s).dist v = tsum g.arcs r.reverse) ∧ (nds g.arcs s r.reverse).Nodup ∧ r.reverse.length < 16777216 := fun F hl =>
    ⟨F.rt.bwd, fun _ => by rw [F.sum, tsum_rev], bwdNodup F, by rw [List.length_reverse]; exact hl⟩
  have A0 : Trail g.arcs s [] (if false then v else s) ∧ (false = true → dAt (g.from s).dist v = tsum g.arcs []) ∧ (nds g.arcs s []).Nodup ∧ ([] : List Nat).length < 16777216 := ⟨rfl, fun h => by (cases h), bareSame, by decide⟩
  have B1 : ∀ {r}, FolTree g.arcs A.t A.f g.n t (g.to t) v r → r.length < 16777216 → Trail g.arcs v r (if true then t else v) ∧ (true = true → dAt (g.to t).dist v = tsum g.arcs r) ∧ (nds g.arcs v r).Nodup ∧ r.length < 16777216 := fun F hl =>
    ⟨F.rt.fwd, fun _ => F.sum, fwdNodup F, hl⟩
  have B0 : Trail g.arcs v [] (if false then t else v) ∧ (false = true → dAt (g.to t).dist v = tsum g.arcs []) ∧ (nds g.arcs v []).Nodup ∧ ([] : List Nat).length < 16777216 := ⟨rfl, fun h => by (cases h), bareSame, by decide⟩
  have dc : ∀ {d : Int} {l : Option (List Nat)} {P : List Nat → Prop}, (d < far → ∃ r, l = some r ∧ P r) → (¬ d < far → l = none) → (∀ x, l = some x → decide (d < far) = true ∧ P x) ∧ (l = none → decide (d < far) = false) := by
    intro d l P h1 h2
    refine ⟨fun x hx => ?_, fun hn => ?_⟩
    · by_cases h : d < far
      · obtain ⟨r, hr, hp⟩ := h1 h
        rw [hr] at hx
        obtain rfl := Option.some.inj hx
        exact ⟨decide_eq_true h, hp⟩
      · rw [h2 h] at hx; cases hx
    · refine decide_eq_false fun h => ?_
      obtain ⟨r, hr, _⟩ := h1 h
      rw [hr] at hn; cases hn
  have D1 := dc f1 f2
  have D2 := dc b1 b2
  refine o.ldN (cs' := [sd, sa, so]) 3 rfl rfl rfl (pahead_ok hR (hN _ (o.get 9 rfl)) (o.vw 6 rfl) (o.vw 7 rfl) pso la1 (fun la wa h3 hla hlen oa => ?_) fun h3 hno xa => ?_)
  · obtain ⟨ca, FA⟩ := D1.1 la hla
    simp only [pExt0, pExt1]
    have oo := o.more oa.ext
    refine oo.ldN (cs' := [td, ta, to]) 2 rfl rfl rfl (pbehind_ok hR (hN _ (oo.get 9 rfl)) (oo.vw 4 rfl) (oo.vw 5 rfl) pto la2 (fun lb wb h4 hlb hlenb ob => ?_) fun h4 hno xb => ?_)
    · obtain ⟨cb, FB⟩ := D2.1 lb hlb
      simp only [pExt0, pExt1]
      exact goal true true _ _ _ _ _ (oa.frame ob) ca.symm cb.symm (A1 FA hlen) (B1 FB hlenb)
    · simp only [pExt0, pExt1]
      exact goal true false _ [] _ _ _ (((oa.more xb).nilS (enc := encI) (n := 1) (T := T_int)).que 0 rfl) ca.symm (D2.2 hno).symm (A1 FA hlen) B0
  · simp only [pExt0, pExt1]
    have oo := o.more xa
    have oa := (((Own.start h2).more xa).nilS (enc := encI) (n := 1) (T := T_int)).que 0 rfl
    refine oo.ldN (cs' := [td, ta, to]) 2 rfl rfl rfl (pbehind_ok hR (hN _ (oo.get 9 rfl)) (oo.vw 4 rfl) (oo.vw 5 rfl) pto la2 (fun lb wb h4 hlb hlenb ob => ?_) fun h4 hno' xb => ?_)
    · obtain ⟨cb, FB⟩ := D2.1 lb hlb
      simp only [pExt0, pExt1]
      exact goal false true [] _ _ _ _ (oa.frame ob) (D1.2 hno).symm cb.symm A0 (B1 FB hlenb)
    · simp only [pExt0, pExt1]
      exact goal false false [] [] _ _ _ (((oa.more xb).nilS (enc := encI) (n := 1) (T := T_int)).que 0 rfl) (D1.2 hno).symm (D2.2 hno').symm A0 B0

end
end Go.Proofs.YtjamcgoebnafkaaGreatDoor

namespace Go.Proofs.YtjamcgoebnafkaaGreatDoor
open Go Go.Mh
set_option linter.unusedVariables false

section
variable {h0 h : Heap} {L : List Res} {K : Value → Heap → Prop} {vb : Value} {bs : List Int}

theorem pathMeets_ok {e0 e1 : Int} (H : Vw encU8 1 h vb bs) (r0 : 0 ≤ e0 ∧ e0 ≤ 255) (r1 : 0 ≤ e1 ∧ e1 ≤ 255) (hK : ∀ h', Ext h h' → K (.bool true) h') :
    CallsH Tryz.prog F_milestonelaw11_PathMeets [.agg #[vb, .int .u8 e0, .int .u8 e1]].toArray h K := by
  refine lk_milestonelaw11_PathMeets _ ?_
  unfold sh_milestonelaw11_PathMeets
  have hvb := H.one
  refine (Own.start h).box fun d1 h1 o1 => ?_
  have ec : (Value.cells (.agg #[vb, .int .u8 e0, .int .u8 e1])).toList = [vb, .int .u8 e0, .int .u8 e1] := rfl
  rw [ec] at o1
  refine works11_ok fun h2 x2 => ?_
  rw [pUn_not, Bool.not_true, ifV_false]
  have o2 := o1.more x2
  refine o2.ldN (cs' := [vb, .int .u8 e0, .int .u8 e1]) 0 rfl rfl rfl (graph11_ok (H.more o2.ext) r0 r1 fun g vx vy va r N s t h3 hg hN hs ht o3 => ?_)
  simp only [pExt0, pExt1]
  refine pExt4_2 (pExt4_3 ?_)
  have hR := hg.toRight
  have hmost := hR.most
  have hpos := hR.pos
  have hmany := hR.many
  replace o3 := o2.frame o3
  refine o3.box fun g3 h4 o4 => o4.st (cs' := [I g.n, vx, vy, va]) 0 rfl rfl rfl rfl rfl ?_ fun h5 o5 => ?_
  · intro u hu
    simp at hu
    rcases hu with rfl | rfl | rfl | rfl
    · rfl
    · exact (o3.vw 1 rfl).plain
    · exact (o3.vw 2 rfl).plain
    · exact (o3.vw 3 rfl).plain
  simp only [pEq_ptr_nil, Option.isNone_some, ifV_false]
  have ef : g.fromI (s : Int) = g.from s := by rw [G.fromI, if_pos (by omega)]; rfl
  have et : g.toI (t : Int) = g.to t := by rw [G.toI, if_pos (by omega)]; rfl
  have TF := from_tree hR hs
  have TT := to_tree hR ht
  refine from_ok hR (hN _ (o5.get 1 rfl)) fun sd sa so h6 o6 => ?_
  rw [ef] at o6
  replace o6 := o5.frame o6
  refine to_ok hR (hN _ (o6.get 4 rfl)) fun td ta to h7 o7 => ?_
  rw [et] at o7
  replace o7 := o6.frame o7
  have pso : Mh.plainCell so = true := (o7.vw 5 rfl).plain
  have pto : Mh.plainCell to = true := (o7.vw 2 rfl).plain
  refine o7.box fun from7 h8 o8 => o8.box fun to8 h9 o9 => o9.st (cs' := [sd, sa, so]) 1 rfl rfl rfl rfl rfl ?_ fun h10 o10 => o10.st (cs' := [td, ta, to]) 0 rfl rfl rfl rfl rfl ?_ fun h11 o11 => ?_
  · intro u hu
    simp at hu
    rcases hu with rfl | rfl | rfl
    · exact (o7.vw 3 rfl).plain
    · exact (o7.vw 4 rfl).plain
    · exact pso
  · intro u hu
    simp at hu
    rcases hu with rfl | rfl | rfl
    · exact (o7.vw 0 rfl).plain
    · exact (o7.vw 1 rfl).plain
    · exact pto
  have o12 : Own h h11 [cellR to8 [td, ta, to] T_flood_Tree, cellR from7 [sd, sa, so] T_flood_Tree, xR td (g.to t).dist, slR encI 1 T_int ta (g.to t).arc, xR sd (g.from s).dist, slR encI 1 T_int sa (g.from s).arc, cellR g3 [I g.n, vx, vy, va] T_api_Raw, N, xR vx g.X, xR vy g.Y, aR va g.arcs] := o11.sel [0, 1, 2, 3, 5, 6, 8, 9, 10, 11, 12] (by decide)
  clear o11 o10 o9 o8 o7 o6 o5 o4 o3
  have la1 : (g.from s).arc.length < 2 ^ 62 := by rw [TF.al]; omega
  have la2 : (g.to t).arc.length < 2 ^ 62 := by rw [TT.al]; omega
  have ld1 := TF.ls.len
  have ld2 := TT.ls.len
  refine o12.ldN (cs' := [sd, sa, so]) 1 rfl rfl rfl (o12.ldN (cs' := [td, ta, to]) 0 rfl rfl rfl ?_)
  refine pmeet_ok (o12.vw 4 rfl) (o12.vw 2 rfl) (by omega) fun h12 x12 => ?_
  replace o12 := o12.more x12
  simp only [pExt0, pExt1]
  refine pExt2 (o12.ldN (cs' := [I g.n, vx, vy, va]) 6 rfl rfl rfl ?_)
  refine bell_ok o12 hR (rawOf11 o12 8 9 10 rfl rfl rfl) hs fun d1' vd1 h13 hl1 o13 => ?_
  have e1 : d1' = (g.from s).dist := hl1.uniq TF.ls
  subst e1
  refine (o13.vw 0 rfl).atI (by omega) ?_
  rw [dAt_get (by omega), pBin_lss]
  have MT := meet_tree hR hs ht
  have hfar : far = 72057594037927936 := rfl
  have q0 := TF.ls.nonneg ht
  have hm1 : decide (0 ≤ (meet (g.from s).dist (g.to t).dist).1) = decide (dAt (g.from s).dist t < 72057594037927936) := by
    rcases MT with ⟨h1, v, _, h2, _⟩ | ⟨h1, h2, _⟩
    · rw [h2, decide_eq_true (show (0 : Int) ≤ (v : Int) by omega), decide_eq_true (show dAt (g.from s).dist t < 72057594037927936 from h1)]
    · rw [h2, decide_eq_false (show ¬ (0 : Int) ≤ -1 by omega), decide_eq_false (show ¬ dAt (g.from s).dist t < 72057594037927936 from h1)]
  refine pe11 hm1 ?_
  rw [ifV_false]
  have o14 : Own h h13 [cellR to8 [td, ta, to] T_flood_Tree, cellR from7 [sd, sa, so] T_flood_Tree, xR td (g.to t).dist, slR encI 1 T_int ta (g.to t).arc, xR sd (g.from s).dist, slR encI 1 T_int sa (g.from s).arc, cellR g3 [I g.n, vx, vy, va] T_api_Raw, N] := o13.sel [1, 2, 3, 4, 5, 6, 7, 8] (by decide)
  clear o13 o12
  have k2 : sh_milestonelaw11_PathMeets_k2 Tryz.prog (ptr g3) (ptr from7) (ptr to8) (ptr r) (I s) (I t) (I (dAt (g.from s).dist t)) (I (meet (g.from s).dist (g.to t).dist).1) K h13 := by
    unfold sh_milestonelaw11_PathMeets_k2
    refine LoopH_count g.n (fun i x h' => x.1 = I i ∧ ∃ h9, Own h h' [cellR to8 [td, ta, to] T_flood_Tree, cellR from7 [sd, sa, so] T_flood_Tree, xR td (g.to t).dist, slR encI 1 T_int ta (g.to t).arc, xR sd (g.from s).dist, slR encI 1 T_int sa (g.from s).arc, cellR g3 [I g.n, vx, vy, va] T_api_Raw, N] ∧ h9 = h') ⟨rfl, _, o14, rfl⟩ ?_
    clear o14
    rintro u ⟨x, ⟨⟩⟩ h2 Z hi ⟨hx, _, o, _⟩ hZ
    dsimp only at hx hZ ⊢
    subst hx
    unfold sh_milestonelaw11_PathMeets_L3
    simp only [pField_ptr]
    refine o.load 6 rfl rfl ?_
    simp only [pBin_lss (b := (g.n : Int)), ifV_dec]
    refine ⟨fun hlt => ?_, fun hge => hK _ o.ext⟩
    have hlt : u < g.n := by omega
    have fin : ∀ {h' : Heap}, Own h h' [cellR to8 [td, ta, to] T_flood_Tree, cellR from7 [sd, sa, so] T_flood_Tree, xR td (g.to t).dist, slR encI 1 T_int ta (g.to t).arc, xR sd (g.from s).dist, slR encI 1 T_int sa (g.from s).arc, cellR g3 [I g.n, vx, vy, va] T_api_Raw, N] →
        sh_milestonelaw11_PathMeets_C4 Tryz.prog K (I u) (fun a0 hz => Z (a0, ()) hz) (.bool false) h' := by
      intro h' o'
      unfold sh_milestonelaw11_PathMeets_C4
      rw [ifV_false, pBin_add, wI u (by omega)]
      exact hZ (I (u + 1 : Nat), ()) _ hlt ⟨rfl, _, o', rfl⟩
    refine o.ldN (cs' := [sd, sa, so]) 1 rfl rfl rfl (o.ldN (cs' := [td, ta, to]) 0 rfl rfl rfl ?_)
    refine pjoined_ok hR (hN _ (o.get 7 rfl)) (o.vw 4 rfl) (o.vw 5 rfl) pso la1 (o.vw 2 rfl) (o.vw 3 rfl) pto la2 (fun la lb w h3 hla hlb l1 l2 ow => ?_) fun h3 hno x3 => ?_
    · have hd1 : dAt (g.from s).dist u < far := by
        by_cases h : dAt (g.from s).dist u < far
        · exact h
        · rw [(folI_tree TF hlt).2 h] at hla; cases hla
      have hd2 : dAt (g.to t).dist u < far := by
        by_cases h : dAt (g.to t).dist u < far
        · exact h
        · rw [(folI_tree TT hlt).2 h] at hlb; cases hlb
      obtain ⟨la', lb', ha', hb', tr, es, le, lt⟩ := meet_node hR hs ht hlt hd1 hd2
      rw [hla] at ha'
      rw [hlb] at hb'
      obtain rfl := Option.some.inj ha'
      obtain rfl := Option.some.inj hb'
      simp only [pExt0, pExt1]
      have o3 := o.more ow.ext
      have chk := wchk_trail (w := 0) tr
      rw [Int.zero_add, es] at chk
      have hlen : (la.reverse ++ lb).length < 2147483648 := by rw [List.length_append, List.length_reverse]; omega
      refine wcheck_ok hR (hN _ (o3.get 7 rfl)) (ow.vw 0 rfl) (by rw [nI_len]; exact hlen) (fun w2 h4 _ _ hw x4 => ?_) fun h4 hno x4 => absurd ⟨by omega, by omega, _, chk⟩ hno
      have hw2 : w2 = dAt (g.from s).dist u + dAt (g.to t).dist u := by
        have : wchk g.arcs (s : Int) 0 (nI (la.reverse ++ lb)) = some ((t : Int), dAt (g.from s).dist u + dAt (g.to t).dist u) := chk
        rw [this] at hw
        exact (congrArg Prod.snd (Option.some.inj hw)).symm
      subst hw2
      simp only [pExt0, pExt1]
      have o4 := o3.more x4
      refine cutP_of (fun y h' => y.1 = .bool false ∧ h' = h4) (fun J hJ => ?_) ?_
      · rw [ifV_true, pUn_not, Bool.not_true, ifV_false, pBin_lss, decide_eq_false (by omega), ifV_false]
        refine o4.load 1 rfl rfl ((o4.vw 4 rfl).atI (by omega) (o4.load 0 rfl rfl ((o4.vw 2 rfl).atI (by omega) ?_)))
        have n1 := TF.ls.nonneg hlt
        have n2 := TT.ls.nonneg hlt
        rw [dAt_get (by omega), dAt_get (by omega), pBin_add, w64 (by omega) (by omega), pBin_neq, bne_self_eq_false, ifV_false, pBin_eql]
        by_cases hum : (u : Int) = (meet (g.from s).dist (g.to t).dist).1
        · rw [show ((u : Int) == (meet (g.from s).dist (g.to t).dist).1) = true by simpa using hum, ifV_true, pUn_not, Bool.not_true, ifV_false, pBin_neq]
          have : dAt (g.from s).dist u + dAt (g.to t).dist u = dAt (g.from s).dist t := by
            rcases MT with ⟨_, v, _, h2, _, _, h3⟩ | ⟨_, h2, _⟩
            · rw [h2] at hum
              have hum : (u : Int) = v := hum
              have : u = v := by omega
              subst this; exact h3
            · rw [h2] at hum; have hum : (u : Int) = -1 := hum; omega
          rw [this, bne_self_eq_false]
          exact hJ _ _ ⟨rfl, rfl⟩
        · rw [show ((u : Int) == (meet (g.from s).dist (g.to t).dist).1) = false by simpa using hum, ifV_false]
          exact hJ _ _ ⟨rfl, rfl⟩
      · rintro ⟨y, ⟨⟩⟩ h7 ⟨hy, rfl⟩
        dsimp only at hy ⊢
        subst hy
        exact fin o4
    · simp only [pExt0, pExt1]
      have o3 := o.more x3
      have hnn : ¬ (dAt (g.from s).dist u < far ∧ dAt (g.to t).dist u < far) := by
        rintro ⟨h1, h2⟩
        obtain ⟨la', lb', ha', hb', _⟩ := meet_node hR hs ht hlt h1 h2
        rcases hno with h | h
        · rw [ha'] at h; cases h
        · rw [hb'] at h; cases h
      have hum : ¬ (u : Int) = (meet (g.from s).dist (g.to t).dist).1 := by
        intro hum
        rcases MT with ⟨_, v, _, h2, h3, h4, _⟩ | ⟨_, h2, _⟩
        · rw [h2] at hum
          have hum : (u : Int) = v := hum
          have : u = v := by omega
          subst this; exact hnn ⟨h3, h4⟩
        · rw [h2] at hum; have hum : (u : Int) = -1 := hum; omega
      have tail : ∀ (c : Bool) (w2 : Int) h4, Ext h3 h4 → cutP (σ := Vals [120]) (fun J => ifV (.bool false) (pUn .not (.bool c) fun t85 => ifV t85 (J ((.bool true), ()) h4) (pBin .lss (I w2) (I (dAt (g.from s).dist t)) fun t89 => ifV t89 (J ((.bool true), ()) h4)
          (pLoad h4 (.pointer (some ⟨from7, 0, none⟩)) fun t94 => pIdx 1 t94 (I u) fun t96 => pLoad h4 t96 fun t97 => pLoad h4 (.pointer (some ⟨to8, 0, none⟩)) fun t99 => pIdx 1 t99 (I u) fun t101 => pLoad h4 t101 fun t102 => pBin .add t97 t102 fun t103 => pBin .neq (I w2) t103 fun t104 =>
          ifV t104 (J ((.bool true), ()) h4) (pBin .eql (I u) (I (meet (g.from s).dist (g.to t).dist).1) fun t110 => ifV t110 (pUn .not (.bool false) fun t113 => ifV t113 (J ((.bool true), ()) h4) (pBin .neq (I w2) (I (dAt (g.from s).dist t)) fun t117 => J (t117, ()) h4)) (J ((.bool false), ()) h4)))))
          (pBin .eql (I u) (I (meet (g.from s).dist (g.to t).dist).1) fun t110_1 => ifV t110_1 (pUn .not (.bool false) fun t113_1 => ifV t113_1 (J ((.bool true), ()) h4) (pBin .neq (I w2) (I (dAt (g.from s).dist t)) fun t117_1 => J (t117_1, ()) h4)) (J ((.bool false), ()) h4)))
          (fun x hh => sh_milestonelaw11_PathMeets_C4 Tryz.prog K (I u) (fun a0 hz => Z (a0, ()) hz) x.1 hh) := by
        intro c w2 h4 x4
        refine cutP_of (fun y h' => y.1 = .bool false ∧ h' = h4) (fun J hJ => ?_) ?_
        · rw [ifV_false, pBin_eql, show ((u : Int) == (meet (g.from s).dist (g.to t).dist).1) = false by simpa using hum, ifV_false]
          exact hJ _ _ ⟨rfl, rfl⟩
        · rintro ⟨y, ⟨⟩⟩ h7 ⟨hy, rfl⟩
          dsimp only at hy ⊢
          subst hy
          exact fin (o3.more x4)
      refine wcheck_ok (arcs := nI []) hR (hN _ (o3.get 7 rfl)) .nil (by decide) (fun w2 h4 _ _ hw x4 => ?_) fun h4 hno x4 => ?_
      · simp only [pExt0, pExt1]
        exact tail true w2 h4 x4
      · simp only [pExt0, pExt1]
        exact tail false 0 h4 x4
  cases hc : decide (0 ≤ (meet (g.from s).dist (g.to t).dist).1) with
  | false => rw [ifV_false]; exact k2
  | true =>
    rw [ifV_true, pBin_neq]
    have : (meet (g.from s).dist (g.to t).dist).2 = dAt (g.from s).dist t := by
      rcases MT with ⟨_, v, _, h2, _⟩ | ⟨_, h2, _⟩
      · rw [h2]
      · rw [h2] at hc; cases hc
    rw [this, bne_self_eq_false, ifV_false]
    exact k2

end
end Go.Proofs.YtjamcgoebnafkaaGreatDoor
